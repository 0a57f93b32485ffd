/- A region whose order is drawn: what is true of the world, whatever order. -/
import Derived.Test.YtepfpdaehcmblaaBDrawF
namespace Go.B
open Go Go.RowKit
set_option linter.unusedVariables false
set_option linter.unusedSimpArgs false
variable {E : Env} {P : Program}
section
variable {R : Type} {G : Gh} {w w0 w1 w' : World} {m m' m1 m2 : Mem E} {n : Nat} {r : R} {Φ Ψ : Nat → Prop} {I0 : Ent} {ts : List (AV E)} {a : Act} {Q : Exit → Act → World → Prop} {C : FuncId → Option (Entry E)} {ops : Array Oper}
structure Plan (ops : Array Oper) (L : List Lg) (ms : Nat → Mem E) (n0 : Nat) (A : List Nat) : Prop where
 masks : chkMasks A 0 ops.toList = true
 log : chkLog A L 0 L = true
 len : L.length = ops.size
 ok : LogOK ms L n0 ops.size
 first : ∀ id b, look (ms 0) id = some b → id < n0 ∧ ∀ i ∈ refB b, i < n0
theorem Plan.early {L : List Lg} {ms : Nat → Mem E} {n0 : Nat} {A : List Nat} (hP : Plan ops L ms n0 A) {listed : Array Bool} (hs : listed.size = ops.size) (hcl : Closed ops listed) {i e : Nat} {o : Oper} (ho : ops[i]? = some o) (hwait : Waits listed o) (he : e < i) (hun : ¬ listed.getD e true = true) : Apart (L.getD e lg0) (L.getD i lg0) := by
 have hil : i < ops.size := (Array.getElem?_eq_some_iff.1 ho).1
 obtain ⟨x, hx, hor⟩ := log_pair hP.log hP.len he hil
 refine hor.resolve_left fun hb => hun ?_
 have := anc_listed hP.masks hs hcl i o ho hwait e x hx hb
 have hel : e < listed.size := by omega
 simpa [hel] using this
theorem Plan.late {L : List Lg} {ms : Nat → Mem E} {n0 : Nat} {A : List Nat} (hP : Plan ops L ms n0 A) {listed : Array Bool} (hs : listed.size = ops.size) (hcl : Closed ops listed) {i e : Nat} (he : e < ops.size) (hie : i < e) (hl : listed.getD e true = true) (hun : ¬ listed.getD i true = true) : Apart (L.getD i lg0) (L.getD e lg0) := by
 obtain ⟨x, hx, hor⟩ := log_pair hP.log hP.len hie he
 refine hor.resolve_left fun hb => hun ?_
 have hoe : ops[e]? = some (ops[e]'he) := Array.getElem?_eq_getElem _
 have := anc_listed hP.masks hs hcl e _ hoe (hcl e _ hoe hl) i x hx hb
 have hil : i < listed.size := by omega
 simpa [hil] using this
structure Stt (E : Env) (w0 : World) (Φ : Nat → Prop) (I0 : Ent) (ops : Array Oper) (L : List Lg) (ms : Nat → Mem E) (n0 N : Nat) (listed : Array Bool) (ts : List (AV E)) (a : Act) (w : World) : Prop where
 sz : listed.size = ops.size
 cl : Closed ops listed
 org : ∀ (t : Nat) x, ts[t]? = some x → ∀ i ∈ refV x, i < n0 ∨ ∃ j, j < ops.size ∧ listed.getD j true = true ∧ i ∈ (L.getD j lg0).rf
 rel : ∃ G m, (∀ id, look m id = lookS L ms listed id ops.size) ∧ Mr E w0 Φ I0 G m N w ∧ Tr E G ts m N a w
theorem Stt.put {L : List Lg} {ms : Nat → Mem E} {n0 N : Nat} {listed : Array Bool} {i : Nat} {o : Oper} {v : AV E} {u : Value} (hS : Stt E w0 Φ I0 ops L ms n0 N listed ts a w) (ho : ops[i]? = some o) (hwait : Waits listed o) (hun : listed.getD i true = false) (hrf : refV v = (L.getD i lg0).rf)
  (hrel : ∃ G m, (∀ id, look m id = lookS L ms (listed.setIfInBounds i true) id ops.size) ∧ Mr E w0 Φ I0 G m N w' ∧ Tr E G ts m N a w' ∧ AVr E G w' m N v u) :
  Stt E w0 Φ I0 ops L ms n0 N (listed.setIfInBounds i true) (putT ts o.dst v) (a.put o.dst u) w' := by
 have hil : i < ops.size := (Array.getElem?_eq_some_iff.1 ho).1
 have hil' : i < listed.size := hS.sz ▸ hil
 have hself : (listed.setIfInBounds i true).getD i true = true := by simp [hil']
 have hmono : ∀ j, listed.getD j true = true → (listed.setIfInBounds i true).getD j true = true := fun j hj => by
  by_cases hij : i = j
  ·subst hij; exact hself
  ·rw [getD_set_ne true hij]; exact hj
 refine ⟨by simp [hS.sz], fun j oj hoj hj e he hb => ?_, fun t x ht k hk => ?_, ?_⟩
 ·by_cases hji : i = j
  ·subst hji; rw [ho] at hoj; cases hoj; exact getD_set_true (hwait e he hb)
  ·rw [getD_set_ne true hji] at hj; exact getD_set_true (hS.cl j oj hoj hj e he hb)
 ·have old : ts[t]? = some x → k < n0 ∨ ∃ j, j < ops.size ∧ (listed.setIfInBounds i true).getD j true = true ∧ k ∈ (L.getD j lg0).rf := fun h => (hS.org t x h k hk).imp_right fun ⟨j, h1, h2, h3⟩ => ⟨j, h1, hmono j h2, h3⟩
  cases hd : o.dst with
  | none => rw [hd] at ht; exact old ht
  | some d =>
   rw [hd] at ht
   simp only [putT, setl_eq] at ht
   rw [List.getElem?_set] at ht
   split at ht
   ·split at ht
    ·cases ht
     rw [hrf] at hk
     exact .inr ⟨i, hil, hself, hk⟩
    ·cases ht
   ·exact old ht
 ·obtain ⟨G, m, h1, h2, h3, h4⟩ := hrel
  exact ⟨G, m, h1, h2, h3.put o.dst h4⟩
theorem anyY_sound [GlobOK E w0 Φ I0] (hE : EnvOK E P) (hC : CSound E P C) {L : List Lg} {ms : Nat → Mem E} {n0 N : Nat} {A : List Nat} (hP : Plan ops L ms n0 A) (hN : N = n0 + wide * cnt L ops.size) (hI0 : I0.N ≤ n0) {K : List (AV E) → Prop}
  (hK : ∀ ts G a w, K ts → Mr E w0 Φ I0 G (ms (cnt L ops.size)) N w → Tr E G ts (ms (cnt L ops.size)) N a w → Q .normal a w) :
  ∀ (fuel : Nat) (listed : Array Bool) (ts : List (AV E)) (a : Act) (w : World), anyY ops (YL C ops L ms n0) (fun listed ts => (∀ j, j < ops.size → listed.getD j true = true) ∧ K ts) fuel listed ts →
   Stt E w0 Φ I0 ops L ms n0 N listed ts a w → wpAny P .any ops Q fuel listed a w := by
 have last : ∀ (listed : Array Bool) (ts : List (AV E)) (a : Act) (w : World), (∀ j, j < ops.size → listed.getD j true = true) → K ts → Stt E w0 Φ I0 ops L ms n0 N listed ts a w → Q .normal a w := fun listed ts a w h1 h2 hS => by
  obtain ⟨G, m, h3, h4, h5⟩ := hS.rel
  have h6 : ∀ id, look (ms (cnt L ops.size)) id = look m id := fun id => by rw [h3, lookS_pre hP.ok.steps ops.size fun e he _ => h1 e he]
  exact hK ts G a w h2 (h4.look h6) (h5.look h6)
 intro fuel
 induction fuel with
 | zero =>
  intro listed ts a w h hS
  exact ⟨h.1, last listed ts a w h.2.1 h.2.2 hS⟩
 | succ fuel ih =>
  intro listed ts a w h hS
  refine ⟨fun h0 => ?_, fun i hi => ?_⟩
  ·have h1 := h.1 h0
   exact last listed ts a w h1.1 h1.2 hS
  have hst := h.2 i hi
  obtain ⟨hun, o, ho, hwait⟩ := mem_ready.1 hi
  have hwait : Waits listed o := hwait
  have hil : i < ops.size := (Array.getElem?_eq_some_iff.1 ho).1
  have hil' : i < listed.size := hS.sz ▸ hil
  have hne : ¬ listed.getD i true = true := by rw [hun]; simp
  unfold stY at hst
  unfold wpOp
  simp only [ho] at hst ⊢
  obtain ⟨v, ⟨hrf, m', hm', hy⟩, hk⟩ := hst
  obtain ⟨G, m, hlk, hM, hT⟩ := hS.rel
  have earlyA : ∀ e, e < i → ¬ listed.getD e true = true → Apart (L.getD e lg0) (L.getD i lg0) := fun e he hu => hP.early hS.sz hS.cl ho hwait he hu
  have lateA : ∀ e, e < ops.size → i < e → listed.getD e true = true → Apart (L.getD i lg0) (L.getD e lg0) := fun e he hie hl => hP.late hS.sz hS.cl he hie hl hne
  have hag : ∀ k ∈ rsAt L i, look m k = look (ms (cnt L i)) k := fun k hk => by
   have e1 : lookS L ms listed k ops.size = lookS L ms listed k i := lookS_drop ops.size (Nat.le_of_lt hil) fun e h1 h2 h3 h4 => by
    rcases Nat.lt_or_ge i e with h5 | h5
    ·exact (lateA e h2 h5 h3).rw k hk h4
    ·have : e = i := by omega
     subst this
     exact hne h3
   have e2 : lookS L ms listed k i = look (ms (cnt L i)) k := lookS_pre hP.ok.steps i fun e he h4 => by
    rcases Classical.em (listed.getD e true = true) with h5 | h5
    ·exact h5
    ·exact absurd hk ((earlyA e he h5).wr k h4)
   rw [hlk, e1, e2]
  have hset : ∀ id, lookS L ms (listed.setIfInBounds i true) id ops.size = if id ∈ wsAt L i then look (ms (cnt L i + 1)) id else look m id := fun id => by
   rw [lookS_set hil' hun ops.size fun e h1 h2 h3 h4 h5 => (lateA e h2 h1 h3).ww id h4 h5, hlk]
   by_cases hm : id ∈ wsAt L i
   ·rw [if_pos ⟨hil, hm⟩, if_pos hm]
   ·rw [if_neg fun h => hm h.2, if_neg hm]
  have go : ∀ (u : Value) (w' : World), (∃ G m, (∀ id, look m id = lookS L ms (listed.setIfInBounds i true) id ops.size) ∧ Mr E w0 Φ I0 G m N w' ∧ Tr E G ts m N a w' ∧ AVr E G w' m N v u) → wpAny P .any ops Q fuel (listed.setIfInBounds i true) (a.put o.dst u) w' :=
   fun u w' hrel => ih _ _ _ _ hk (hS.put ho hwait hun hrf hrel)
  have stay : wsAt L i = [] → ∀ id, look m id = lookS L ms (listed.setIfInBounds i true) id ops.size := fun hw id => by
   rw [hset, if_neg (by rw [hw]; simp)]
  have skip : wsAt L i = [] → v = .tup [] → wpAny P .any ops Q fuel (listed.setIfInBounds i true) (a.put o.dst undef) w := fun hws e => by
   subst e
   exact go undef w ⟨G, m, stay hws, hM, hT, undef_rel⟩
  have hqN : wsAt L i ≠ [] → n0 + wide * cnt L i + wide ≤ N := fun hws => by
   have h1 := cnt_lt L hil hws
   have h2 : wide * (cnt L i + 1) ≤ wide * cnt L ops.size := Nat.mul_le_mul_left _ h1
   rw [Nat.mul_add, Nat.mul_one] at h2
   omega
  have run : RunE C (ms (cnt L i)) (n0 + wide * cnt L i) o.op v m' (rsAt L i) (wsAt L i) ts → o.wp P a w (wpAny P .any ops Q fuel (listed.setIfInBounds i true)) Q := fun hr => by
   classical
   by_cases hws : wsAt L i = []
   ·obtain ⟨hp, _, hq⟩ := hr.quiet hws
    have hvN : ∀ k ∈ refV v, k < N := fun k hk => by
     rw [hrf] at hk
     have h1 := hP.ok.ref i hil k hk
     have h2 : wide * cnt L (i + 1) ≤ wide * cnt L ops.size := Nat.mul_le_mul_left _ (cnt_le L hil)
     omega
    have h1 : (evOp C N ts o.op).run m (fun v' m'' => if v' = v ∧ m'' = m then some () else none) = some () :=
     run_of_runD _ _ (fun v' => if v' = v then some () else none) _ () (fun v' hv' => by
      split at hv'
      ·rename_i e; simp [e]
      ·cases hv') (hq _ hag _ _ () (by simp))
    refine evOp_sound hE hC hM hT h1 fun v' m'' G' u w' hk' h2 h3 h4 => ?_
    split at hk'
    ·rename_i e
     obtain ⟨e1, e2⟩ := e
     rw [e2] at h2 h3 h4
     rw [e1] at h4
     exact go u w' ⟨G', m, stay hws, hM.to_old h2, hT.to_old h3, h4.to_refs hvN⟩
    ·cases hk'
   ·obtain ⟨hlo, hlr, hmv⟩ := hr.move hws
    have hq := hqN hws
    have hfrom : ∀ id b, look m id = some b → (id < n0 ∧ ∀ r ∈ refB b, r < n0) ∨ ∃ e, e < ops.size ∧ listed.getD e true = true ∧ e ≠ i ∧ wsAt L e ≠ [] ∧ (id, refB b) ∈ (L.getD e lg0).pb := fun id b hb => by
     rw [hlk] at hb
     rcases lookS_from _ hb with h1 | ⟨e, h1, h2, h3, h4⟩
     ·exact .inl (hP.first id b h1)
     ·have hwe : wsAt L e ≠ [] := fun e' => by rw [e'] at h3; cases h3
      exact .inr ⟨e, h1, h2, fun e' => by subst e'; exact hne h2, hwe, by rw [(hP.ok.post e h1 hwe).1]; exact posts_mem h3 b h4⟩
    have hbnd : ∀ e, e < i → n0 + wide * cnt L (e + 1) ≤ n0 + wide * cnt L i := fun e he => Nat.add_le_add_left (Nat.mul_le_mul_left _ (cnt_le L he)) _
    have hLn := hP.ok.num i hil
    have hplace : ∀ id b, look m id = some b → (id < n0 + wide * cnt L i ∧ ∀ r ∈ refB b, r < n0 + wide * cnt L i) ∨ (n0 + wide * cnt L i + wide ≤ id ∧ ∀ r ∈ refB b, n0 + wide * cnt L i + wide ≤ r) := fun id b hb => by
     rcases hfrom id b hb with ⟨h1, h2⟩ | ⟨e, h1, h2, h3, h4, h5⟩
     ·exact .inl ⟨by omega, fun r hr => by have := h2 r hr; omega⟩
     ·rcases Nat.lt_or_ge e i with h6 | h6
      ·have h7 := postsLt_spec (hP.ok.post e h1 h4).2 _ h5
       have h8 := hbnd e h6
       exact .inl ⟨by have := h7.1; simp only at this; omega, fun r hr => by have := h7.2 r hr; omega⟩
      ·have h7 := (lateA e h1 (by omega) h2).pb hws _ h5
       rw [hLn] at h7
       exact h7
    have hid : ∀ id b, look m id = some b → id < n0 + wide * cnt L i ∨ n0 + wide * cnt L i + wide ≤ id := fun id b hb => (hplace id b hb).imp (·.1) (·.1)
    have hbx : ∀ id cs, look m id = some (.box cs) → ∀ r ∈ refL cs, (id < n0 + wide * cnt L i → r < n0 + wide * cnt L i) ∧ (n0 + wide * cnt L i ≤ id → n0 + wide * cnt L i + wide ≤ r) := fun id cs hb r hr => by
     rcases hplace id _ hb with ⟨h1, h2⟩ | ⟨h1, h2⟩
     ·exact ⟨fun _ => h2 r hr, fun h => by omega⟩
     ·exact ⟨fun h => by omega, fun _ => h2 r hr⟩
    have hts : ∀ (t : Nat) x, ts[t]? = some x → ∀ r ∈ refV x, r < n0 + wide * cnt L i ∨ n0 + wide * cnt L i + wide ≤ r := fun t x hx r hr => by
     rcases hS.org t x hx r hr with h1 | ⟨j, h1, h2, h3⟩
     ·exact .inl (by omega)
     ·rcases Nat.lt_or_ge j i with h4 | h4
      ·have h5 := hP.ok.ref j h1 r h3
       have := hbnd j h4
       exact .inl (by omega)
      ·have hji : i ≠ j := fun e => by subst e; exact hne h2
       have h5 := (lateA j h1 (by omega) h2).rf hws r h3
       rw [hLn] at h5
       exact h5
    have hmr : ∀ id ∈ rsAt L i, look (mapM (lowA (n0 + wide * cnt L i)) (lowM (n0 + wide * cnt L i) m)) id = look (ms (cnt L i)) id := fun id hidr => by
     obtain ⟨h1, h2⟩ := lowRd_spec hlr id hidr
     rw [look_map, look_low, if_pos h1, hag id hidr]
     cases hb : look (ms (cnt L i)) id with
     | none => rfl
     | some b =>
      cases b with
      | row d e xs => rfl
      | rowV e xs => rfl
      | box cs => simp only [Option.map_some, mapB]; rw [map_low_same fun r hr => h2 _ hb r hr]
    obtain ⟨m1, h1, h2⟩ := hmv _ hmr
    have hops : evOp C (n0 + wide * cnt L i) ts o.op = evOp C (n0 + wide * cnt L i) (ts.map (mapAV (lowA (n0 + wide * cnt L i)))) o.op := evOp_congr' fun x hx => by
     have h3 := lowOps_spec hlo x (by simpa using hx)
     cases x with
     | tmp t =>
      simp only [Aeval, geta_eq, List.getElem?_map] at h3 ⊢
      cases ht : ts[t]? with
      | none => rfl
      | some y =>
       rw [ht] at h3
       simp only [Option.map_some]
       rw [lowV_same h3]
     | _ => rfl
    have hwlt : ∀ id ∈ wsAt L i, id < n0 + wide * cnt L i + wide := fun id hidw => by
     obtain ⟨h3, h4⟩ := hP.ok.post i hil hws
     rw [h3] at h4
     obtain ⟨p, h5, h6⟩ := posts_num (m := ms (cnt L i + 1)) hidw
     have h7 := (postsLt_spec h4 p h5).1
     rw [h6, cnt_succ, if_neg hws, Nat.mul_add, Nat.mul_one] at h7
     omega
    rw [hm' hws] at h1
    refine op_at (C := C) hE hC hq (by omega) hM hT hid hts hbx (m1 := m1) (m' := over m1 (wsAt L i) m) (ws := wsAt L i) (v := v) (fun K r hk => by rw [← hops]; exact h2 K r hk) hwlt (fun id hidw => by rw [h1, if_neg hidw]) (fun id => look_over m1 m id _) fun G' u w' g1 g2 g3 => ?_
    refine go u w' ⟨G', _, fun id => ?_, g1, g2, g3⟩
    rw [look_over, hset]
    by_cases hidw : id ∈ wsAt L i
    ·rw [if_pos hidw, if_pos hidw, h1, if_pos hidw]
    ·rw [if_neg hidw, if_neg hidw]
  unfold YE at hy
  split at hy
  ·rename_i hg
   have hw : Region.wanted o (yielded ops a.tmps) = true := by simp [Region.wanted, hg]
   rw [if_pos hw]
   exact .inl (run hy)
  ·rename_i j want hg
   obtain ⟨oj, t, hoj, ht, h4⟩ := hy
   rcases h4 with ⟨b, hb, h5⟩ | ⟨hb, h5⟩
   ·obtain ⟨g1, g2⟩ := hT.get hb
    have hbv : a.tmps.getD t undef = .bool b := g2.1
    have hyb : yielded ops a.tmps j = some b := by simp [yielded, hoj, ht, g1, hbv]
    rcases h5 with ⟨h6, h7⟩ | ⟨h6, h7, h8, h9, h10⟩
    ·subst h6
     have hw : Region.wanted o (yielded ops a.tmps) = true := by simp [Region.wanted, hg, hyb]
     rw [if_pos hw]
     exact .inl (run h7)
    ·have hw : ¬ Region.wanted o (yielded ops a.tmps) = true := by simp [Region.wanted, hg, hyb, h6]
     rw [if_neg hw]
     exact skip h10 h7
   ·obtain ⟨g1, arr, g2, g3, _⟩ := hT.get hb
    have hyb : yielded ops a.tmps j = none := by simp [yielded, hoj, ht, g1, g2]
    have hw : ¬ Region.wanted o (yielded ops a.tmps) = true := by simp [Region.wanted, hg, hyb]
    rw [if_neg hw]
    exact skip h5.2.2.2 h5.1
theorem region_drawE [GlobOK E w0 Φ I0] (hE : EnvOK E P) {C : FuncId → Option (Entry E)} (hC : CSound E P C) {id : Nat} {ops : Array Oper} (hB : Region.lexB .any ops = true) {K : List (AV E) → Mem E → Nat → Option R}
  (h : (evOpsE C ops.toList ops.toList n ts m fun ts m n l => match okLog ops.toList l with
   | true => K ts m n
   | false => none) = some r)
  (hM : Mr E w0 Φ I0 G m n w) (hT : Tr E G ts m n a w) (hK : ∀ ts m n G a w, K ts m n = some r → Mr E w0 Φ I0 G m n w → Tr E G ts m n a w → Q .normal a w) : (Code.region id ops true).wp P Q a w := by
 simp only [Region.lexB, Bool.and_eq_true] at hB
 refine wp_region_any hE.mixed ?_
 have hf : Frame (fun _ => False) w { w with drawn := w.drawn + 1 } := ⟨rfl, rfl, rfl, Nat.le_refl _, fun _ _ _ => rfl⟩
 obtain ⟨ms, ls, mx, nx, g1, g2, gO, g3, g4, g5⟩ := seq_of _ _ _ _ _ h
 rw [Array.length_toList] at g2 g3 g4 gO
 have hq := g5 ls ms n 0 (fun j _ => by rw [Nat.zero_add]) (fun x => by simp [cnt]) (by simp [cnt])
 by_cases hok : okLog ops.toList ls = true
 ·rw [hok] at hq
  simp only at hq
  have hok' := hok
  simp only [okLog, Bool.and_eq_true] at hok'
  have h1 := anyY_lex (YL_puts (C := C) (L := ls) (ms := ms) (n0 := n)) ops.toList 0 (Array.replicate ops.size false) ts (by simp) (fun j hj => absurd hj (Nat.not_lt_zero _)) (by simpa using hB.2) hq
  rw [Array.length_toList] at h1
  have hle : n ≤ n + wide * cnt ls ops.size := Nat.le_add_right _ _
  refine anyY_sound hE hC (N := n + wide * cnt ls ops.size) ⟨hok'.1, hok'.2, g2, gO, fun id b hb => ?_⟩ rfl hM.nn (K := fun ts => K ts mx nx = some r) (fun ts G a w hk h2 h3 => hK ts mx nx G a w hk (by rw [g3, g4]; exact h2) (by rw [g3, g4]; exact h3)) ops.size _ ts a _ h1 ⟨by simp, ?_, fun t x hx i hi => .inl ((hT.tm t x hx).refs i hi), ?_⟩
  ·rw [g1] at hb
   refine ⟨hM.lt id b hb, fun i hi => ?_⟩
   cases b with
   | row d e xs => cases hi
   | rowV e xs => cases hi
   | box cs =>
    obtain ⟨⟨arr, ty, _, h6⟩, _⟩ := hM.bl id _ hb
    exact h6.refs i hi
  ·intro j o ho hj
   have : j < ops.size := (Array.getElem?_eq_some_iff.1 ho).1
   simp [this] at hj
  ·have h2 : Mr E w0 Φ I0 G m n { w with drawn := w.drawn + 1 } := hM.grow hf fun k hk => hk.elim
   have h3 : Tr E G ts m n a { w with drawn := w.drawn + 1 } := hT.keep (Mle.refl _ _ _) (Nat.le_refl _) fun k hk => ⟨hk, rfl⟩
   refine ⟨G, m, fun id => ?_, h2.to hle, h3.to hle⟩
   rw [lookS_drop (i := 0) ops.size (Nat.zero_le _) fun e _ he hh => ?_]
   ·simp only [lookS]; rw [g1]
   ·simp [he] at hh
 ·exfalso
  have hok : okLog ops.toList ls = false := by simpa using hok
  rw [hok] at hq
  simp only at hq
  exact seqY_none ops.toList 0 ts hq
end
end Go.B

/- What the reckoner's plain operations say of the program's: addresses of fields and elements, lengths, slices. -/
import Derived.Test.YtepfpdaehcmblaaBOps2
namespace Go.B
open Go Go.RowKit
set_option linter.unusedVariables false
set_option linter.unusedSimpArgs false
variable {E : Env} {P : Program}
section
variable {R : Type} {G : Gh} {w w0 : World} {m : Mem E} {n : Nat} {K : AV E → Mem E → Option R} {r : R} {Φ : Nat → Prop} {I0 : Ent} {ts : List (AV E)} {a : Act}
theorem EnvOK.szOf (hE : EnvOK E P) {e : TypeId} {i : TI} (he : E.info e = some i) (w : World) : (Go.sizeOf e).run P w = .ok (E.sz e) w := by
 rw [hE.sizeOf w he]; simp [Env.sz, he]
theorem addA_sound (hM : Mr E w0 Φ I0 G m n w) {o : Nat} {p : A1 E} {u : Value} (hp : A1r E G w m n p u) (h : (addA o p).run m K = some r) :
  ∃ v ad, K v m = some r ∧ u = .pointer (some ad) ∧ AVr E G w m n v (.pointer (some (ad.add o))) := by
 unfold addA at h
 split at h
 ·rename_i id off
  obtain ⟨ad, rfl⟩ := hp.2.1
  refine ⟨_, ad, h, rfl, hp.1, ⟨_, rfl⟩, fun cs' hcs' => ?_⟩
  have := hp.2.2 _ hcs'
  cases this
  rw [add_at]
 ·rename_i e x off
  obtain ⟨ad, rfl, hx⟩ := hp
  exact ⟨_, _, h, rfl, ad, by rw [Addr.add_add], hx⟩
 ·rename_i id j0 off
  obtain ⟨b, hb, h⟩ := run_get h
  split at h
  ·rename_i d e xs
   obtain ⟨h1, g, L, cap, h2, rfl⟩ := hp.2.2 _ _ _ hb
   refine ⟨_, _, h, rfl, hp.1, rfl, fun d' e' xs' hl' => ?_⟩
   rw [hb] at hl'
   cases hl'
   exact ⟨h1, g, L, cap, h2, by rw [add_at, Nat.add_assoc]⟩
  ·cases h
 ·rename_i id j0 off
  obtain ⟨b, hb, h⟩ := run_get h
  split at h
  ·rename_i e xs
   obtain ⟨h1, g, L, cap, h2, rfl⟩ := hp.2.2 _ _ hb
   refine ⟨_, _, h, rfl, hp.1, rfl, fun e' xs' hl' => ?_⟩
   rw [hb] at hl'
   cases hl'
   exact ⟨h1, g, L, cap, h2, by rw [add_at, Nat.add_assoc]⟩
  ·cases h
 ·rename_i id j0 off j q
  obtain ⟨b, hb, h⟩ := run_get h
  split at h
  ·rename_i e xs
   split at h
   ·rename_i e' ys hc
    obtain ⟨h1, h2, hx⟩ := hp.2.2 _ _ hb
    obtain ⟨g, L, cap, h3, rfl⟩ := hx e' ys (cell_of hc)
    refine ⟨_, _, h, rfl, hp.1, rfl, fun e2 xs2 hl' => ?_⟩
    rw [hb] at hl'
    cases hl'
    refine ⟨h1, h2, fun e3 ys3 hc3 => ?_⟩
    rw [cell_of hc] at hc3
    cases hc3
    exact ⟨g, L, cap, h3, by rw [add_at, Nat.add_assoc]⟩
   ·cases h
  ·cases h
 ·cases h
theorem fieldAddr_sound (hE : EnvOK E P) {t : TypeId} {i : TI} (hi : E.info t = some i) {f : Nat} {k : Field → TI → Mp E} (h : (fieldAt E i f k).run m K = some r) :
  ∃ fd j, (k fd j).run m K = some r ∧ E.info fd.type = some j ∧ (∀ ad : Addr, (Instr.fieldAt t (.pointer (some ad)) f).run P w = .ok (.pointer (some (ad.add fd.offset))) w) ∧
   ∀ cs : Array Value, (Instr.field t (.agg cs) f).run P w = (part fd.type cs fd.offset).run P w := by
 unfold fieldAt at h
 split at h
 ·rename_i fs hfs
  split at h
  ·rename_i fd hfd
   obtain ⟨j, hj, h⟩ := run_info h
   have hfl : fd.offset + j.size ≤ i.size ∧ 0 < j.size := by
    obtain ⟨j', h1, h2⟩ := hE.field t i fs f fd hi hfs hfd
    rw [hj] at h1; cases h1; exact h2
   have hsz := hE.sizeOf w hj
   have hst : (underlying t).run P w = .ok (.struct fs) w := by rw [hE.under w hi, hfs]
   have hfd' : fs[f]? = some fd := by rw [geta_eq] at hfd; simpa using hfd
   have : ¬ (j.size = 0) := by omega
   exact ⟨fd, j, h, hj, fun ad => by simp [Instr.fieldAt, hst, hfd', Instr.sureAddr, fieldPlace, hsz, this], fun cs => by simp [Instr.field, hst, hfd', asAgg]⟩
  ·cases h
 ·cases h
theorem field_sound (hE : EnvOK E P) {t : TypeId} {i : TI} (hi : E.info t = some i) {off : Nat} {cs : List (A1 E)} {arr : Array Value} (hc : A1l E G w m n cs arr) (h : (outv i off cs).run m K = some r) :
  ∃ v u, K v m = some r ∧ (part t arr off).run P w = .ok u w ∧ AVr E G w m n v u := by
 unfold outv at h
 split at h
 ·rename_i hag
  split at h
  ·rename_i hle
   refine ⟨_, .agg (arr.extract off (off + i.size)), h, ?_, arr.extract off (off + i.size), rfl, ?_, fun j c hj => ?_⟩
   ·simp [part, hE.isAgg w hi, hag, hE.sizeOf w hi]
   ·have := hc.1
    simp [sub]; omega
   ·have hj' : j < i.size := by
     have := (List.getElem?_eq_some_iff.1 hj).1
     simp [sub] at this; omega
    simp only [sub, List.getElem?_take, hj', if_true, List.getElem?_drop] at hj
    have := hc.2 _ c hj
    have hg : (arr.extract off (off + i.size)).getD j undef = arr.getD (off + j) undef := by
     rw [Array.getD_eq_getD_getElem?, Array.getD_eq_getD_getElem?, Array.getElem?_extract]
     have h2 := hc.1
     have h3 := (List.getElem?_eq_some_iff.1 hj).1
     rw [if_pos (by omega)]
    rw [hg]; exact this
  ·cases h
 ·rename_i hag
  split at h
  ·rename_i a ha
   rw [geta_eq] at ha
   have h1 := hc.2 _ a ha
   have hl : off < arr.size := by rw [hc.1]; exact (List.getElem?_eq_some_iff.1 ha).1
   have hag' : i.agg = false := by simpa using hag
   refine ⟨_, arr.getD off undef, h, ?_, h1.1⟩
   simp [part, hE.isAgg w hi, hag', hl, Array.getD_eq_getD_getElem?]
  ·cases h
theorem indexAp_sound (hE : EnvOK E P) (hM : Mr E w0 Φ I0 G m n w) {t e0 : TypeId} {l : Nat} {i i0 : TI} (hi : E.info t = some i) (hd : i.desc = .array l e0) (h0 : E.info e0 = some i0) {p : A1 E} {u : Value} (hp : A1r E G w m n p u) {j : Int} {q : IntKind}
  (hj0 : 0 ≤ j) (hj1 : j < (l : Int))
  (h : (apA (l * i0.size) (j.toNat * i0.size) p).run m K = some r) : ∃ v u', K v m = some r ∧ (Instr.indexAt t u (.int q j)).run P w = .ok u' w ∧ AVr E G w m n v u' := by
 have hu : (underlying t).run P w = .ok (.array l e0) w := by rw [hE.under w hi, hd]
 have key : ∀ (ad : Addr), (Instr.indexAt t (.pointer (some ad)) (.int q j)).run P w = .ok (.pointer (some (ad.add (j.toNat * i0.size)))) w := fun ad => by
  simp [Instr.indexAt, Instr.sureAddr, asIntOf, hu, hj0, hj1, hE.sizeOf w h0]
 unfold apA at h
 split at h
 ·rename_i id off
  obtain ⟨ad, rfl⟩ := hp.2.1
  refine ⟨_, _, h, key ad, hp.1, ⟨_, rfl⟩, fun cs' hcs' => ?_⟩
  have := hp.2.2 _ hcs'
  cases this
  rw [add_at]
 ·rename_i id lo k x
  obtain ⟨ad, rfl⟩ := hp.2.1
  refine ⟨_, _, h, key ad, hp.1, ⟨_, rfl⟩, fun cs' hcs' => ?_⟩
  have := hp.2.2 _ hcs'
  cases this
  rw [add_at, Nat.add_assoc]
 ·cases h
theorem indexA_sound (hE : EnvOK E P) (hM : Mr E w0 Φ I0 G m n w) {t e0 : TypeId} {i i0 : TI} (hi : E.info t = some i) (hd : i.desc = .slice e0) (h0 : E.info e0 = some i0) {p : A1 E} {u : Value} (hp : A1r E G w m n p u) {j : Int} {q : IntKind}
  (h : (indexA e0 p j).run m K = some r) : ∃ v u', K v m = some r ∧ (Instr.indexAt t u (.int q j)).run P w = .ok u' w ∧ AVr E G w m n v u' := by
 have hu : (underlying t).run P w = .ok (.slice e0) w := by rw [hE.under w hi, hd]
 have key : ∀ (ad : Addr) (L cap : Nat), 0 ≤ j → j < L → (Instr.indexAt t (.slice (some ad) L cap) (.int q j)).run P w = .ok (.pointer (some (ad.add (j.toNat * E.sz e0)))) w := fun ad L cap h1 h2 => by
  simp [Instr.indexAt, asIntOf, hu, h1, h2, hE.szOf h0]
 unfold indexA at h
 split at h
 ·rename_i e xs
  obtain ⟨he, h'⟩ := run_need h
  clear h; subst he
  obtain ⟨hj0, h⟩ := run_need h'
  obtain ⟨hj1, h⟩ := run_need h
  cases hp with
  | @sl A nn cap _ _ val hn hc hm ha hw hr =>
   subst hn
   have hlt : j.toNat < xs.length := by omega
   have hA := ha (by omega)
   obtain ⟨ad, rfl⟩ := Option.isSome_iff_exists.1 hA
   refine ⟨_, _, h, key ad _ _ hj0 hj1, ad.add (j.toNat * E.sz e), ?_, fun l hl => ?_⟩
   ·rfl
   ·obtain ⟨h1, h2⟩ := hw j.toNat l hlt hl
    exact ⟨by rw [Addr.add_block]; exact h1, _, by rw [Addr.add_add]; exact h2, hr j.toNat l hlt hl⟩
 ·rename_i id
  obtain ⟨b, hb, h⟩ := run_get h
  split at h
  ·rename_i d e xs
   obtain ⟨he, h'⟩ := run_need h
   clear h; subst he
   obtain ⟨hj0, h⟩ := run_need h'
   obtain ⟨hj1, h⟩ := run_need h
   obtain rfl := hp.2.2 _ _ _ hb
   have hlt : j.toNat < xs.length := by omega
   obtain ⟨inner, F, ho, hbk, hf, hdj, hin⟩ := hM.bl id _ hb
   obtain ⟨g, cap, hhd, _, _⟩ : ∃ g cap, G.hd id = .slice (some ⟨g, 0, none⟩) xs.length cap ∧ 0 ≤ g ∧ g < w.heap.size := ho.form (by omega)
   rw [hhd]
   refine ⟨_, _, h, key _ _ _ hj0 hj1, hp.1, rfl, fun d' e' xs' hl' => ?_⟩
   rw [hb] at hl'
   cases hl'
   exact ⟨hlt, g, _, cap, hhd, by rw [add_plain, Nat.add_zero]⟩
  ·cases h
 ·rename_i id lo k
  obtain ⟨b, hb, h⟩ := run_get h
  split at h
  ·rename_i d e xs
   obtain ⟨he, h'⟩ := run_need h
   clear h; subst he
   obtain ⟨hj0, h⟩ := run_need h'
   obtain ⟨hj1, h⟩ := run_need h
   obtain ⟨hlo, rfl⟩ := hp.2.2 _ _ _ hb
   obtain ⟨inner, F, ho, hbk, hf, hdj, hin⟩ := hM.bl id _ hb
   obtain ⟨g, cap, hhd, _, _⟩ : ∃ g cap, G.hd id = .slice (some ⟨g, 0, none⟩) xs.length cap ∧ 0 ≤ g ∧ g < w.heap.size := ho.form (by omega)
   have hcl : ¬ cap = lo := by
    obtain ⟨A, cap', hv, hle, _⟩ := ownsG_form ho
    rw [hhd] at hv
    cases hv
    omega
   refine ⟨_, _, h, by rw [hhd]; simp only [winV, hcl, if_false, Option.map_some]; exact key _ _ _ hj0 hj1, hp.1, rfl, fun d' e' xs' hl' => ?_⟩
   rw [hb] at hl'
   cases hl'
   refine ⟨by omega, g, _, cap, hhd, ?_⟩
   rw [Addr.add_add, add_plain, Nat.add_zero, Nat.add_mul]
  ·cases h
 ·rename_i id
  obtain ⟨b, hb, h⟩ := run_get h
  split at h
  ·rename_i e xs
   obtain ⟨he, h'⟩ := run_need h
   clear h; subst he
   obtain ⟨hj0, h⟩ := run_need h'
   obtain ⟨hj1, h⟩ := run_need h
   obtain rfl := hp.2.2 _ _ hb
   have hlt : j.toNat < xs.length := by omega
   obtain ⟨⟨inner, F, ho, hbk, hf, hdj, hin⟩, _⟩ := hM.bl id _ hb
   obtain ⟨g, cap, hhd, _, _⟩ : ∃ g cap, G.hd id = .slice (some ⟨g, 0, none⟩) xs.length cap ∧ 0 ≤ g ∧ g < w.heap.size := ho.form (by omega)
   rw [hhd]
   refine ⟨_, _, h, key _ _ _ hj0 hj1, hp.1, rfl, fun e' xs' hl' => ?_⟩
   rw [hb] at hl'
   cases hl'
   exact ⟨hlt, g, _, cap, hhd, by rw [add_plain, Nat.add_zero]⟩
  ·cases h
 ·rename_i id j0 off
  obtain ⟨b, hb, h⟩ := run_get h
  split at h
  ·rename_i e xs
   split at h
   ·rename_i e' ys hc
    obtain ⟨he, h'⟩ := run_need h
    clear h; subst he
    obtain ⟨hj0, h⟩ := run_need h'
    obtain ⟨hj1, h⟩ := run_need h
    obtain ⟨h1, h2, rfl⟩ := hp.2.2 _ _ hb
    have hlt : j.toNat < ys.length := by omega
    obtain ⟨F', how⟩ := head_ow hM hb h1 h2 (cell_of hc)
    obtain ⟨inner, F, ho, hbk, hf, hdj, hin⟩ := how.top (I := G.I)
    obtain ⟨g, cap, hhd, _, _⟩ : ∃ g cap, G.ih id j0 off = .slice (some ⟨g, 0, none⟩) ys.length cap ∧ 0 ≤ g ∧ g < w.heap.size := ho.form (by omega)
    rw [hhd]
    refine ⟨_, _, h, key _ _ _ hj0 hj1, hp.1, rfl, fun e2 xs2 hl' => ?_⟩
    rw [hb] at hl'
    cases hl'
    refine ⟨h1, h2, fun e3 ys3 hc3 => ?_⟩
    rw [cell_of hc] at hc3
    cases hc3
    exact ⟨g, _, cap, hhd, by rw [add_plain, Nat.add_zero]⟩
   ·cases h
  ·cases h
 ·cases h
end
end Go.B

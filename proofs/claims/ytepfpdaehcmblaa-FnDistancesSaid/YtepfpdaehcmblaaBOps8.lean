/- What the reckoner's plain operations say of the program's: making, appending, storing. -/
import Derived.Test.YtepfpdaehcmblaaBOps7
namespace Go.B
open Go Go.RowKit
set_option linter.unusedVariables false
set_option linter.unusedSimpArgs false
variable {E : Env} {P : Program}
section
variable {R : Type} {G : Gh} {w w0 w1 : World} {m m' : Mem E} {n : Nat} {K : AV E → Mem E → Option R} {r : R} {Φ Ψ : Nat → Prop} {I0 : Ent} {ts : List (AV E)} {a : Act}
theorem EnvOK.szEq (hE : EnvOK E P) {e : TypeId} {i : TI} (he : E.info e = some i) : E.sz e = i.size := by simp [Env.sz, he]
theorem no_frame (w : World) (o : Obj) : Frame (fun _ => False) w (w.alloc o) := ⟨rfl, rfl, rfl, by simp, fun k hk _ => Below.heap_alloc w _ k hk⟩
theorem lit_sound (hM : Mr E w0 Φ I0 G m n w) (hT : Tr E G ts m n a w) (hM' : Mr E w0 Φ I0 G m' n w) (hs : Sub m m') {e : TypeId} {xs : List (E.T e)} {d : Bool} {arr : Array Value} {F : Nat → Nat → Nat → Prop} (cap : Nat) (hcap : xs.length ≤ cap) (hcm : cap ≤ Go.maxLen)
  (ha : arr.size = cap * E.sz e) (hc : ∀ x y, x < xs.length → y < E.sz e → Give E w G.I (F x y) d (arr.toList.getD (x * E.sz e + y) undef) (cellAt E e (xs.getD x (E.dflt e)) y))
  (hF : ∀ x y k, x < xs.length → y < E.sz e → F x y k → Gone G m m' k) (hd : ∀ x y x' y' k, x < xs.length → y < E.sz e → x' < xs.length → y' < E.sz e → F x y k → F x' y' k → x = x' ∧ y = y') :
  ∃ G', Mr E w0 Φ I0 G' (setm m' n (.row d e xs)) (n + wide) (w.alloc (.cells arr e)) ∧ Tr E G' ts (setm m' n (.row d e xs)) (n + wide) a (w.alloc (.cells arr e)) ∧
   AVr E G' (w.alloc (.cells arr e)) (setm m' n (.row d e xs)) (n + wide) (.v (.c (.row n))) (.slice (some ⟨w.heap.size, 0, none⟩) xs.length cap) := by
 have hT' : Tr E G ts m' n a w := hT.keep hs.mle (Nat.le_refl _) fun k hk => ⟨hk, rfl⟩
 have hold : ∀ k, k < w.heap.size → (w.alloc (.cells arr e)).heap[k]? = w.heap[k]? := fun k hk => Below.heap_alloc w _ k hk
 have hget : ∀ x y, x < xs.length → y < E.sz e → (arr.toList.take (xs.length * E.sz e)).getD (x * E.sz e + y) undef = arr.toList.getD (x * E.sz e + y) undef := fun x y hx hy => by
  simp only [List.getD_eq_getElem?_getD, List.getElem?_take]
  rw [if_pos (lt_of_pair hx hy)]
 refine row_put (Ψ := fun _ => False) (F := F) (inner := arr.toList.take (xs.length * E.sz e)) hM' hT' (no_frame w _) (fun _ h => h.elim) ⟨?_, .inr ⟨w.heap.size, cap, (arr, (0, 0)), rfl, Nat.zero_le _, ?_, hcap, hcm, ha, rfl, Loose.of _⟩⟩ ?_ ?_ ?_ hd
 ·simp only [List.length_take, Array.length_toList, ha]
  exact Nat.min_eq_left (Nat.mul_le_mul_right _ hcap)
 ·show (w.heap.push _)[w.heap.size]? = _
  simp
 ·intro k hk
  simp [Value.ownBlock] at hk
  exact .inl (by omega)
 ·intro x y hx hy
  rw [hget x y hx hy]
  have h1 := hc x y hx hy
  have hlt : ∀ k, F x y k → k < w.heap.size := fun k hk => ((hF x y k hx hy hk).facts hM hs).2.1
  exact ⟨h1.1.keep fun k hk => ⟨hk, hold k (hk.elim (hM.il k) (hlt k))⟩, fun hd' => (h1.2 hd').keep fun k hk => ⟨hk, hold k (hlt k hk)⟩⟩
 ·intro x y k hx hy hk
  obtain ⟨h1, h2, h3, h4⟩ := (hF x y k hx hy hk).facts hM hs
  exact ⟨h1, h2, h3, fun h => h, h4⟩
theorem give_s {w : World} {I : Nat → Prop} {d : Bool} {u : Value} (h : u.oneCell' = true) : Give E w I (fun _ => False) d u (.s u) := ⟨.s h, fun _ => .s h⟩
theorem give_nil {w : World} {I : Nat → Prop} {d : Bool} (e : TypeId) : Give E w I (fun _ => False) d (.slice none 0 0) (.sl e []) :=
 ⟨.sl (val := fun _ _ => undef) rfl (Nat.le_refl _) (Nat.zero_le _) (by simp) (fun i j hi => by simp at hi) (fun i j hi => by simp at hi), fun _ =>
  .sl (inner := []) (F := fun _ _ _ => False) (World.ownsRowG_nil w 0 e (E.sz e)) (fun k hk => by simp [Value.ownBlock] at hk) (fun i j k hi => by simp at hi) (fun i j i' j' k hi => by simp at hi) (fun i j hi => by simp at hi)⟩
theorem zeroEl_sound (hE : EnvOK E P) {e : TypeId} {i : TI} (hi : E.info e = some i) {zel : E.T e} (hz : E.zeroEl i e = some zel) {z : Value} (hzz : i.zero = some z) (I : Nat → Prop) (w : World) :
  ∀ y, y < E.sz e → Give E w I (fun _ => False) true (z.cells.toList.getD y undef) (cellAt E e zel y) := by
 intro y hy
 rw [hE.szEq hi] at hy
 obtain ⟨h1, h2, _⟩ := hE.zero e i z hi hzz
 obtain ⟨h3, h4⟩ := hE.ck e i hi
 unfold Env.zeroEl at hz
 have hc := hE.make _ _ _ hz
 simp only [hzz] at hc
 have hyz : y < z.cells.toList.length := by simp [h1, hy]
 have hyk : y < i.ck.length := by omega
 have hcell : cellAt E e zel y = match i.ck[y] with | .sc => Cell.s z.cells.toList[y] | .sl e' => Cell.sl e' [] := by
  simp only [cellAt, hc, List.getD_eq_getElem?_getD]
  rw [List.getElem?_zipWith, List.getElem?_eq_getElem hyk, List.getElem?_eq_getElem hyz]
  rfl
 have hu : z.cells.toList.getD y undef = z.cells.toList[y] := by simp [List.getD, List.getElem?_eq_getElem hyz]
 have hone : (z.cells.toList[y]).oneCell' = true := List.all_eq_true.1 h2 _ (List.getElem_mem hyz)
 rw [hcell, hu]
 split
 ·exact give_s hone
 ·rename_i e' he'
  have := h4 y e' z (by rw [List.getElem?_eq_getElem hyk, he']) hzz
  rw [List.getElem?_eq_getElem hyz] at this
  rw [Option.some.inj this]
  exact give_nil e'
theorem range_zero (z : Value) (n j : Nat) (hj : j < n) : ((Array.range n).map (z.cells[· % z.cells.size]!)).toList.getD j undef = z.cells[j % z.cells.size]! := by
 simp [List.getD_eq_getElem?_getD, hj]
theorem mod_pair {x y s : Nat} (hy : y < s) : (x * s + y) % s = y := by rw [Nat.mul_comm, Nat.mul_add_mod, Nat.mod_eq_of_lt hy]
theorem makeSlice_sound (hE : EnvOK E P) (hM : Mr E w0 Φ I0 G m n w) (hT : Tr E G ts m n a w) {t e : TypeId} {i j : TI} (hi : E.info t = some i) (hd : i.desc = .slice e) (hj : E.info e = some j) {l c : Int} {zel : E.T e} (hz : E.zeroEl j e = some zel)
  (h0 : 0 ≤ l) (hlc : l ≤ c) (hc : c.toNat * j.bytes ≤ maxN) (hb : 0 < j.bytes) (q q' : IntKind) (hzz : ∃ z, j.zero = some z) :
  ∃ u w' G', (Instr.makeSlice t (.int q l) (.int q' c)).run P w = .ok u w' ∧ Mr E w0 Φ I0 G' (setm m n (.row true e (List.replicate l.toNat zel))) (n + wide) w' ∧
   Tr E G' ts (setm m n (.row true e (List.replicate l.toNat zel))) (n + wide) a w' ∧ AVr E G' w' (setm m n (.row true e (List.replicate l.toNat zel))) (n + wide) (.v (.c (.row n))) u := by
 obtain ⟨z, hzz⟩ := hzz
 have hu : (underlying t).run P w = .ok (.slice e) w := by rw [hE.under w hi, hd]
 obtain ⟨jj, hjj, hb1, hb2⟩ := hE.bytes w hj
 have hsz := hE.sizeOf w hj
 have hz0 := hE.zeroValue w hj hzz
 obtain ⟨hz1, hz2, _⟩ := hE.zero e j z hj hzz
 have hcb : c.toNat ≤ maxN := Nat.le_trans (Nat.le_mul_of_pos_right _ hb) hc
 have hwl : IntKind.i64.wrap l = l := by simp only [maxN] at hcb; unfold IntKind.wrap; simp [IntKind.bits, IntKind.signed]; omega
 have hwc : IntKind.i64.wrap c = c := by simp only [maxN] at hcb; unfold IntKind.wrap; simp [IntKind.bits, IntKind.signed]; omega
 have hbig : ¬ (281474976710656 < (j.bytes : Int) * c) := by
  have : ((c.toNat * j.bytes : Nat) : Int) = (j.bytes : Int) * c := by rw [Int.natCast_mul, Int.toNat_of_nonneg (by omega), Int.mul_comm]
  simp only [maxN] at hc
  omega
 let arr : Array Value := (Array.range (c.toNat * j.size)).map (z.cells[· % z.cells.size]!)
 have hrun : (Instr.makeSlice t (.int q l) (.int q' c)).run P w = .ok (.slice (some ⟨w.heap.size, 0, none⟩) l.toNat c.toNat) (w.alloc (.cells arr e)) := by
  have g1 : ¬ (c < 0) := by omega
  have g2 : ¬ (l < 0) := by omega
  have g3 : ¬ (l > c) := by omega
  by_cases hn : c.toNat * j.size = 0
  ·have harr : arr = #[] := by simp [arr, hn]
   simp [Instr.makeSlice, hu, asInt, asIntOf, hjj, hb1, hwl, hwc, g1, g2, g3, hbig, hsz, hn, harr, newRow]
   congr 2
   apply Array.ext' <;> simp [Array.range]
  ·simp [Instr.makeSlice, hu, asInt, asIntOf, hjj, hb1, hwl, hwc, g1, g2, g3, hbig, hsz, hn, hz0, newRow, arr]
 have hlit := lit_sound (xs := List.replicate l.toNat zel) (d := true) (arr := arr) (F := fun _ _ _ => False) hM hT hM (Sub.refl m) (e := e) c.toNat (by simp; omega) (by simp only [maxN, Go.maxLen] at hcb ⊢; omega)
  (by simp [arr, hE.szEq hj]) (fun x y hx hy => by
   have hx' : x < l.toNat := by simpa using hx
   have hy' : y < j.size := by rw [← hE.szEq hj]; exact hy
   have e1 : (List.replicate l.toNat zel).getD x (E.dflt e) = zel := by simp [List.getD_eq_getElem?_getD, List.getElem?_replicate, hx']
   have e2 : arr.toList.getD (x * E.sz e + y) undef = z.cells.toList.getD y undef := by
    rw [range_zero _ _ _ (by rw [hE.szEq hj]; exact lt_of_pair (by omega) hy'), hE.szEq hj, hz1, mod_pair hy']
    have : y < z.cells.size := by omega
    simp [List.getD_eq_getElem?_getD, this]
   rw [e1, e2]
   exact zeroEl_sound hE hj hz hzz _ _ y hy) (fun _ _ _ _ _ h => h.elim) (fun _ _ _ _ _ _ _ _ _ h => h.elim)
 obtain ⟨G', g1, g2, g3⟩ := hlit
 rw [List.length_replicate] at g3
 exact ⟨_, _, G', hrun, g1, g2, g3⟩
end
end Go.B

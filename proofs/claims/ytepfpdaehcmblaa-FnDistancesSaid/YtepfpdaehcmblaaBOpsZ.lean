/- The model's append of bytes that are nothing. -/
import Derived.Test.YtepfpdaehcmblaaBOpsA
import Derived.Lib.AppendZerosOnto
namespace Go.B
open Go Go.RowKit
set_option linter.unusedVariables false
set_option linter.unusedSimpArgs false
variable {E : Env} {P : Program}
theorem zeroCells_u8 (k : Nat) : Builtin.zeroCells (Value.int .u8 0).cells k = (List.replicate k (Value.int .u8 0)).toArray := by
 apply Array.ext'
 apply List.ext_getElem
 ·simp [Builtin.zeroCells, Value.cells]
 ·intro i h1 h2
  simp [Builtin.zeroCells, Value.cells, Nat.mod_one]
theorem run_append_own_zeros {w : World} (t tn ty e : TypeId) (i : TypeInfo) (kq kn : IntKind) (ht : P.underlying t = some (.slice e)) (htn : P.underlying tn = some (.int kn)) (hi : P.info? e = some i) (hz : i.zero = some (.int .u8 0))
  (hsize : i.size = 1) (hby : i.bytes = 1) (v : Value) (n : Nat) (xs : List Value) (hown : w.ownsRowG 0 e 1 v n xs) (k : Nat) (hb : n + k ≤ maxN) :
  ∃ v' w', (Builtin.append_ #[t, tn] ty #[v, .int kq k]).run P w = .ok v' w' ∧ w'.ownsRowG 0 e 1 v' (n + k) (xs ++ List.replicate k (Value.int .u8 0)) ∧ w.grownBy w' v.ownBlock ∧ (v'.ownBlock = v.ownBlock ∨ ∃ b, v'.ownBlock = some b ∧ w.heap.size ≤ b) := by
 simp only [maxN] at hb
 have hw : IntKind.i64.wrap (k : Int) = k := by rw [IntKind.wrap_i64]; omega
 have hneg : ¬ ((k : Int) < 0) := by omega
 have h48i : ¬ (281474976710656 < (k : Int) * (i.bytes : Int)) := by rw [hby]; omega
 have hxl : xs.length = n := by simpa using hown.1
 rcases Nat.eq_zero_or_pos k with h0 | h0
 ·subst h0
  refine ⟨v, w, ?_, by simpa using hown, ⟨rfl, rfl, rfl, Nat.le_refl _, fun _ _ _ => rfl⟩, .inl rfl⟩
  obtain ⟨A, cap, rfl, hle, _⟩ := ownsG_form hown
  cases A with
  | none => simp [Builtin.append_, run_underlying ht, run_underlying htn, sizeOf, typeInfo, hi, asInt, asIntOf, hle, IntKind.wrap_i64]
  | some ad => simp [Builtin.append_, run_underlying ht, run_underlying htn, sizeOf, typeInfo, hi, asInt, asIntOf, hle, IntKind.wrap_i64, storeCells]
 ·have hlen : (xs ++ List.replicate k (Value.int .u8 0)).length = (n + k) * 1 := by simp [hxl]
  have grow : ∀ (olds : List Value) (cap : Nat), olds.length = n → cap < n + k → (w.drew.alloc (.cells (olds.toArray ++ Builtin.zeroCells (Value.int .u8 0).cells k ++ Builtin.zeroCells (Value.int .u8 0).cells (grownCap w (n + k) cap e - (n + k))) e)).ownsRowG 0 e 1 (.slice (some ⟨w.heap.size, 0, none⟩) (n + k) (grownCap w (n + k) cap e)) (n + k) (olds ++ List.replicate k (Value.int .u8 0)) ∧
    w.grownBy (w.drew.alloc (.cells (olds.toArray ++ Builtin.zeroCells (Value.int .u8 0).cells k ++ Builtin.zeroCells (Value.int .u8 0).cells (grownCap w (n + k) cap e - (n + k))) e)) none := fun olds cap ho hc => by
   have hge := grownCap_ge w (n + k) cap e
   have hcm2 : grownCap w (n + k) cap e ≤ maxLen := grownCap_le_maxLen w (n + k) cap e (by simp only [maxLen]; omega)
   refine ⟨⟨by simp [ho], .inr ⟨w.heap.size, _, (_, (0, 0)), rfl, Nat.zero_le _, heap_alloc_new w.drew _, hge, hcm2, ?_, ?_, Loose.of _⟩⟩, ⟨rfl, rfl, rfl, by simp, fun j hj _ => heap_alloc_old w.drew _ j hj⟩⟩
   ·rw [zeroCells_u8, zeroCells_u8]; simp [ho]; omega
   ·rw [zeroCells_u8, zeroCells_u8]
    simp only [Array.toList_append, List.toList_toArray]
    rw [show (n + k) * 1 = (olds ++ List.replicate k (Value.int .u8 0)).length by simp [ho]]
    exact List.take_left
  rcases hown.2 with ⟨rfl, rfl⟩ | ⟨g, cap, cur, rfl, hbg, hg, hnc, hcm, hcs, htake, hlo⟩
  ·have hxs : xs = [] := List.length_eq_zero_iff.1 hxl
   subst hxs
   have hr := Lib.run_append_nil_zeros (P := P) w t tn ty e i (.int .u8 0) kq kn ht htn hi hz k h0 (by omega) (by omega) (by rw [hby]; omega)
   obtain ⟨g1, g2⟩ := grow [] 0 rfl (by omega)
   simp only [Nat.zero_add] at g1 g2 ⊢
   refine ⟨_, _, hr, ?_, ?_, .inr ⟨w.heap.size, by simp [Value.ownBlock], Nat.le_refl _⟩⟩
   ·simpa using g1
   ·simpa [Value.ownBlock] using g2
  ·by_cases hroom : n + k ≤ cap
   ·have hcs' : cur.1.size = cap := by simpa using hcs
    have hst := run_storeCells_atL P g n e cur.2 (List.replicate k (Value.int .u8 0)) 0 cur.1 w hg hlo (by simp; omega) (fun u hu => by rw [List.eq_of_mem_replicate hu]; rfl)
    simp only [Nat.add_zero, List.length_replicate] at hst
    have hns : ¬ (k * i.size = 0) := by rw [hsize]; omega
    have hr : (Builtin.append_ #[t, tn] ty #[.slice (some ⟨g, 0, none⟩) n cap, .int kq k]).run P w = .ok (.slice (some ⟨g, 0, none⟩) (n + k) cap) (w.setRow g (cur.1.toList.take n ++ List.replicate k (Value.int .u8 0) ++ cur.1.toList.drop (n + k)).toArray) := by
     have hzc : (Builtin.zeroCells (Value.int .u8 0).cells k).toList = List.replicate k (Value.int .u8 0) := by rw [zeroCells_u8]
     have hk0 : ¬ (k = 0) := by omega
     simp [Builtin.append_, run_underlying ht, run_underlying htn, sizeOf, typeInfo, zeroValue, hi, hz, hsize, asInt, asIntOf, hw, hneg, h48i, hroom, hk0, Addr.add_lit, hzc, hst]
    have hsz2 : (cur.1.toList.take n ++ List.replicate k (Value.int .u8 0) ++ cur.1.toList.drop (n + k)).toArray.size = cur.1.size := by
     simp only [List.size_toArray, List.length_append, List.length_take, List.length_drop, Array.length_toList, List.length_replicate]
     omega
    refine ⟨_, _, hr, ⟨hlen, .inr ⟨g, cap, (_, cur.2), rfl, hbg, setRow_heap w g cur.1 _ e _ hg, hroom, hcm, hsz2.trans hcs, ?_, hlo.sized hsz2 rfl⟩⟩, ⟨rfl, rfl, rfl, by simp, fun j _ hk => setRow_other w g j _ (fun e => hk (by simp [Value.ownBlock, e]))⟩, .inl rfl⟩
    have ht' : cur.1.toList.take n = xs := by simpa using htake
    show List.take ((n + k) * 1) _ = _
    rw [ht', ← hlen]
    exact List.take_left
   ·have holds : ∀ j u, xs[j]? = some u → w.cell? ((⟨g, 0, none⟩ : Addr).add j) = some u := hown.cells (g := g) rfl
    have hfc : (Builtin.firstCells i.size n (.slice (some ⟨g, 0, none⟩) n cap)).run P w.drew = .ok xs.toArray w.drew := by
     have := run_loadCells_list (P := P) w.drew ⟨g, 0, none⟩ xs holds
     rw [hxl] at this
     simpa [Builtin.firstCells, hsize] using this
    have hr := Lib.run_append_grow_zeros (P := P) w t tn ty e i (.int .u8 0) kq kn ht htn hi hz (some ⟨g, 0, none⟩) n cap xs hfc k h0 (by omega) (by omega) (by omega) (by rw [hby]; omega) (by rw [hby]; exact growslice_fits (by omega) (by omega))
    obtain ⟨g1, g2⟩ := grow xs cap hxl (by omega)
    exact ⟨_, _, hr, g1, ⟨g2.os, g2.tape, g2.output, g2.size, fun j hj _ => g2.block j hj (by simp)⟩, .inr ⟨w.heap.size, by simp [Value.ownBlock], Nat.le_refl _⟩⟩
end Go.B

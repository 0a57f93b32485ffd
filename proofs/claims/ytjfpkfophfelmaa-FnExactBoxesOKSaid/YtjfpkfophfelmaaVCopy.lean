import Derived.Test.YtjfpkfophfelmaaVStr
namespace Go.Proofs.YtjfpkfophfelmaaV.PrintWords
open Go.RowKit
def copyAt (xs : List Int) (k : Nat) (ys : List Int) : List Int := xs.take k ++ (ys.take (xs.length - k) ++ xs.drop (k + ys.length))
theorem copyAt_length (xs : List Int) (k : Nat) (ys : List Int) (hk : k ≤ xs.length) : (copyAt xs k ys).length = xs.length := by
  simp only [copyAt, List.length_append, List.length_take, List.length_drop]
  omega
namespace Kd
theorem copycut_run {P : Program} {W : World} (base : Nat) (t t' ty e : TypeId) (ht : P.underlying t = some (.slice e)) (hinfo : (P.info? e).map (·.size) = some 1)
    {g n c k m m2 c2 cc : Nat} {A A2 : Option Addr} {xs ys : List Int} {ok : Nat → Prop} (hA : A = if c = k then some ⟨g, 0, none⟩ else (some (⟨g, 0, none⟩ : Addr)).map (·.add (k * 1))) (hm : m = n - k)
    (HO : (Kd.int .u8).R e W base ok (.slice (some ⟨g, 0, none⟩) n c) xs) (HR : (Kd.int .u8).C W A2 m2 ys) (hk : k ≤ n) :
    ∃ w1, (Builtin.copy_ #[t, t'] ty #[.slice A m cc, .slice A2 m2 c2]).run P W = .ok (goInt ((Nat.min m2 m : Nat) : Int)) w1 ∧ (Kd.int .u8).R e w1 base ok (.slice (some ⟨g, 0, none⟩) n c) (copyAt xs k ys) ∧ W.grownBy w1 (some g) := by
  have hR : ReadsOf (Value.int .u8) (0 : Int) W A2 m2 ys := reads_of_C (h1 := fun _ => rfl) HR
  have hm2 : ys.length = m2 := hR.1
  obtain ⟨hn, hnc, _⟩ := R_reads' HO
  have hcl := copyAt_length xs k ys (by omega)
  rcases Nat.eq_zero_or_pos (Nat.min m2 m) with h0 | hp
  · refine ⟨W, ?_, ?_, World.grownBy.refl W _⟩
    · rw [h0]
      exact run_copy_none W t t' ty e A A2 m cc m2 c2 ht hinfo h0
    · have hc0 : copyAt xs k ys = xs := by
        unfold copyAt
        have h1 : m2 = 0 ∨ m = 0 := by simp only [Nat.min_def] at h0; split at h0 <;> omega
        rcases h1 with h1 | h1
        · obtain rfl : ys = [] := List.eq_nil_of_length_eq_zero (by omega)
          simp
        · rw [List.take_of_length_le (by omega : xs.length ≤ k), show xs.length - k = 0 by omega, List.drop_eq_nil_of_le (by omega)]
          simp
      rw [hc0]
      exact HO
  · have hpm : 0 < m2 ∧ 0 < m := by simp only [Nat.min_def] at hp; split at hp <;> omega
    obtain ⟨ad, hA2, hc⟩ := hR.2.2 (by omega)
    have hck : ¬ c = k := by omega
    rw [if_neg hck, Option.map_some, Nat.mul_one, add_at, Nat.zero_add] at hA
    have hown : W.ownsRowG base e 1 (.slice (some ⟨g, 0, none⟩) n c) xs.length (encs (Value.int .u8) xs) := own_of_R (h1 := fun _ => rfl) HO
    rcases hown.2 with ⟨hv, _⟩ | ⟨g', cap, cur, hv, hb, hh, hnc', hcm, hcs, htake, hlo⟩
    · cases hv
    injection hv with ha _ hcc
    injection ha with ha
    injection ha with hg
    subst hg; subst hcc
    obtain ⟨l, hl⟩ : ∃ l, l = Nat.min m2 m := ⟨_, rfl⟩
    have hl2 : l ≤ m2 ∧ l ≤ m ∧ (l = m2 ∨ l = m) := by rw [hl]; simp only [Nat.min_def]; split <;> omega
    have hsrc : ∀ j u, (encs (Value.int .u8) (ys.take l))[j]? = some u → W.cell? (ad.add j) = some u := by
      intro j u hu
      have hj : j < (ys.take l).length := by
        rcases Nat.lt_or_ge j (ys.take l).length with h | h
        · exact h
        · rw [List.getElem?_eq_none (by rw [encs_length]; exact h)] at hu
          cases hu
      have hjm : j < l := by rw [List.length_take] at hj; omega
      rw [encs_get (d := (0 : Int)) _ j hj] at hu
      rw [hc j (by omega), ← hu]
      simp [List.getD_eq_getElem?_getD, hjm]
    have hkl : (encs (Value.int .u8) (ys.take l)).length = l := by rw [encs_length, List.length_take]; omega
    have hcs1 : cur.1.size = c := by rw [hcs, Nat.mul_one]
    have hr := run_copy_cells (P := P) W t t' ty e g k m cc ad m2 c2 (encs (Value.int .u8) (ys.take l)) ht hinfo (by rw [hkl, hl]) hsrc
      (fun j hj => by rw [cell_of_row W g _ cur.1 e cur.2 hh, Array.getElem?_eq_getElem (show k + j < cur.1.size by rw [hkl] at hj; omega)]; rfl) (fun j hj_ => loose_frozen hh hlo _ (by omega)) (by intro u hu; simp only [encs, List.mem_map] at hu; obtain ⟨q, _, rfl⟩ := hu; rfl)
    obtain ⟨cur', h3, h4, h5⟩ := setCells_row (encs (Value.int .u8) (ys.take l)) k W cur.1 hh (by rw [hkl]; omega)
    obtain ⟨s1, s2, s3, s4⟩ := setCells_same g (encs (Value.int .u8) (ys.take l)) k W
    refine ⟨W.setCells g k (encs (Value.int .u8) (ys.take l)), by rw [hA, hA2, ← hl, hr, hkl], R_of_own (h1 := fun _ => rfl) ?_ HO.1, ⟨s1, s2, s3, by rw [s4]; exact Nat.le_refl _, fun q _ hq => setCells_far _ _ q (fun he => hq (by rw [he]))⟩⟩
    rw [hcl]
    refine ⟨by rw [encs_length, hcl, Nat.mul_one], .inr ⟨g, c, (cur', cur.2), by rw [hn], hb, h3, hnc', hcm, h4.trans hcs, ?_, hlo.sized h4 rfl⟩⟩
    show List.take _ cur'.toList = _
    have htk : cur.1.toList.take xs.length = encs (Value.int .u8) xs := by rw [← htake, Nat.mul_one]
    have hlen : xs.length ≤ cur.1.toList.length := by have h9 := Array.length_toList (xs := cur.1); omega
    apply List.ext_getElem?
    intro q
    have e1 : ∀ q, q < xs.length → cur.1.toList[q]? = (encs (Value.int .u8) xs)[q]? := by
      intro q hq
      rw [← htk, List.getElem?_take, if_pos hq]
    rw [List.getElem?_take, h5, Nat.mul_one]
    have hcp : (copyAt xs k ys) = xs.take k ++ ys.take l ++ xs.drop (k + l) := by
      unfold copyAt
      rw [List.append_assoc]
      congr 1
      rcases hl2.2.2 with h | h
      · rw [List.take_of_length_le (by omega : ys.length ≤ xs.length - k), List.take_of_length_le (by omega : ys.length ≤ l), hm2, h]
      · rw [show xs.length - k = l by omega, List.drop_eq_nil_of_le (by omega), List.drop_eq_nil_of_le (by omega)]
    have hcp2 : encs (Value.int .u8) (copyAt xs k ys) = (encs (Value.int .u8) xs).take k ++ encs (Value.int .u8) (ys.take l) ++ (encs (Value.int .u8) xs).drop (k + (encs (Value.int .u8) (ys.take l)).length) := by
      rw [hcp, hkl]
      simp [encs, List.map_append, List.map_take, List.map_drop]
    rw [hcp2, seg_get cur.1.toList _ k (by rw [hkl]; omega), seg_get (encs (Value.int .u8) xs) _ k (by rw [hkl, encs_length]; omega)]
    by_cases hq : q < xs.length
    · rw [if_pos hq, e1 q hq]
    · rw [if_neg hq, if_neg (by omega), if_neg (by rw [hkl]; omega), List.getElem?_eq_none (by rw [encs_length]; omega)]
section
variable {P : Program} {ops : Array Oper} {rest : List Oper} {o : Oper} {a : Act} {Q : Exit → Act → World → Prop}
theorem R_copycut_step {Kc : Act → World → Prop} {w0 W : World} (base : Nat) (hw : Region.wanted o (yielded ops a.tmps) = true) (s x : Operand) (t t' e : TypeId) (ho : o.op = .call { callee := .builtin .copy, args := #[s, x], argTypes := #[t, t'] })
    (ht : P.underlying t = some (.slice e)) (hinfo : (P.info? e).map (·.size) = some 1)
    {g n c m m2 c2 cc : Nat} {A A2 : Option Addr} {xs ys : List Int} {ok : Nat → Prop} (k : Nat) (hs : a.eval s = .slice A m cc) (hx : a.eval x = .slice A2 m2 c2) (hA : A = if c = k then some ⟨g, 0, none⟩ else (some (⟨g, 0, none⟩ : Addr)).map (·.add (k * 1))) (hm : m = n - k)
    (HO : (Kd.int .u8).R e W base ok (.slice (some ⟨g, 0, none⟩) n c) xs) (HR : (Kd.int .u8).C W A2 m2 ys) (hk : k ≤ n) (HB : Below base w0 W) (hbase : base ≤ W.heap.size)
    (h : ∀ w1, (Kd.int .u8).R e w1 base ok (.slice (some ⟨g, 0, none⟩) n c) (copyAt xs k ys) → Below base w0 w1 → W.grownBy w1 (some g) → Kc (a.put o.dst (goInt ((Nat.min m2 m : Nat) : Int))) w1) :
    if Region.wanted o (yielded ops a.tmps) = true then Oper.wp P o a W Kc Q else Kc (a.put o.dst undef) W := by
  obtain ⟨w1, hr, h1, hg⟩ := copycut_run (P := P) base t t' o.type e ht hinfo (cc := cc) (c2 := c2) hA hm HO HR hk
  rw [if_pos hw]
  unfold Oper.wp execOp
  simp only [ho, resolve, invoke, builtin, Sem.run_bind, Sem.run_pure, Result.andThen_ok, List.map_toArray, List.map_cons, List.map_nil, hs, hx, hr]
  exact h w1 h1 (HB.grown hg hbase (fun k hk => by injection hk with hk; subst hk; exact R_base HO _ (by simp [Value.ownBlock]))) hg
end
end Kd
end Go.Proofs.YtjfpkfophfelmaaV.PrintWords


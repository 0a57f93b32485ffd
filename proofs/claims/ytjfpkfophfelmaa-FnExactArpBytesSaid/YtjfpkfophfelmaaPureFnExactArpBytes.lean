/- The program's ArpBytes answers what the reference's answers, for every message, in new memory; no condition. -/
import Derived.Test.YtjfpkfophfelmaaSaysFnExactArpBytes
import Derived.Test.YtjfpkfophfelmaaAid
namespace Go.Proofs.Ytjfpkfophfelmaa.Pure
set_option linter.unusedSimpArgs false
open Go.RowKit Go.Proofs.Ytjfpkfophfelmaa.QFnExactArpBytes Go.Proofs.YtjfpkfophfelmaaV.PrintWords Go.Proofs.YtjfpkfophfelmaaV.PrintLast Go.Proofs.Ytjfpkfophfelmaa.Aid

theorem eqByteS_loop (l : List Int) (hl : l.length ≤ 140737488355328) (d : Nat) : ∀ (i : Nat), i + d = l.length → Ev (fun k => laws_eqByteS.l0 k l l i) true := by
  induction d with
  | zero =>
    intro i h
    apply ev_succ
    simp only [laws_eqByteS.l0]
    exact ev_neg (by omega) (Ev.now _)
  | succ d ih =>
    intro i h
    have hw : wrap64 ((i : Int) + 1) = ((i + 1 : Nat) : Int) := by rw [wrap64_in (by omega) (by omega)]; omega
    apply ev_succ
    simp only [laws_eqByteS.l0, hw]
    exact ev_pos (by omega) (ev_pos (by omega) (ev_pos (by omega) (ev_pos trivial (ih (i + 1) (by omega)))))
theorem eqByteS_ev {l : List Int} (hl : l.length ≤ 140737488355328) : Ev (fun k => laws_eqByteS.f k l l) true := by
  unfold laws_eqByteS.f
  exact ev_pos rfl (eqByteS_loop l hl l.length 0 (by omega))
/-! ### Marks: numbers written into a row of bytes, and looked for -/
theorem mark_loop (n : Nat) (hn : n ≤ 140737488355328) (m : Int) (hm : 0 ≤ m ∧ m ≤ 1000000000000) (d : Nat) : ∀ (acc : List Int) (i : Nat), acc.length = n → acc.take i = markL i m → i + d = n → Ev (fun k => laws_markByteS.l0 k acc (m + i) i) (m + n, markL n m) := by
  induction d with
  | zero =>
    intro acc i h1 h2 h3
    rw [List.take_of_length_le (by omega)] at h2
    obtain rfl : i = n := by omega
    subst h2
    apply ev_succ
    simp only [laws_markByteS.l0]
    exact ev_neg (by omega) (Ev.now _)
  | succ d ih =>
    intro acc i h1 h2 h3
    have hw : wrap64 ((i : Int) + 1) = ((i + 1 : Nat) : Int) := by rw [wrap64_in (by omega) (by omega)]; omega
    have hw2 : wrap64 (m + (i : Int) + 1) = m + ((i + 1 : Nat) : Int) := by rw [wrap64_in (by omega) (by omega)]; omega
    apply ev_succ
    simp only [laws_markByteS.l0, hw, hw2]
    refine ev_pos (by omega) (ev_pos (by omega) ?_)
    refine ih _ (i + 1) (by simp [h1]) ?_ (by omega)
    have hj : i < acc.length := by omega
    rw [Int.toNat_natCast, List.take_succ_eq_append_getElem (by simpa using hj), markL_succ]
    simp [List.take_set_of_le, h2]
theorem mark_ev {l : List Int} (hl : l.length ≤ 140737488355328) {m : Int} (hm : 0 ≤ m ∧ m ≤ 1000000000000) : Ev (fun k => laws_markByteS.f k l m) (m + l.length, markL l.length m) := by
  have g := mark_loop l.length hl m hm l.length l 0 rfl rfl (by omega)
  have e : m + ((0 : Nat) : Int) = m := by omega
  rw [e] at g
  exact g
theorem held_loop (n : Nat) (hn : n ≤ 140737488355328) (m : Int) (hm : 0 ≤ m ∧ m ≤ 1000000000000) (d : Nat) : ∀ (i : Nat), i + d = n → Ev (fun k => laws_heldByteS.l0 k (markL n m) (m + i) i) (m + n) := by
  induction d with
  | zero =>
    intro i h3
    obtain rfl : i = n := by omega
    apply ev_succ
    simp only [laws_heldByteS.l0]
    exact ev_neg (by rw [markL_length]; omega) (Ev.now _)
  | succ d ih =>
    intro i h3
    have hw : wrap64 ((i : Int) + 1) = ((i + 1 : Nat) : Int) := by rw [wrap64_in (by omega) (by omega)]; omega
    have hw2 : wrap64 (m + (i : Int) + 1) = m + ((i + 1 : Nat) : Int) := by rw [wrap64_in (by omega) (by omega)]; omega
    apply ev_succ
    simp only [laws_heldByteS.l0, hw, hw2, markL_rd n m i (by omega), if_true]
    exact ev_pos (by rw [markL_length]; omega) (ev_pos (by omega) (ih (i + 1) (by omega)))
theorem held_ev (n : Nat) (hn : n ≤ 140737488355328) {m : Int} (hm : 0 ≤ m ∧ m ≤ 1000000000000) : Ev (fun k => laws_heldByteS.f k (markL n m) m) (m + n) := by
  have g := held_loop n hn m hm n 0 (by omega)
  have e : m + ((0 : Nat) : Int) = m := by omega
  rw [e] at g
  exact g

def arpOK (a b c d : ByteArray) : Prop := a.size = 6 ∧ c.size = 6 ∧ b.size = 4 ∧ d.size = 4
instance (a b c d : ByteArray) : Decidable (arpOK a b c d) := by unfold arpOK; infer_instance
def arpRes (f : Bool) (a b c d : ByteArray) : List Int × Int :=
  if arpOK a b c d then ([0, 1, 8, 0, 6, 4, 0, if f then 2 else 1] ++ bytesOf (((a ++ b) ++ c) ++ d), 0) else ([], 1)
theorem four_size {a b c d : ByteArray} (h : arpOK a b c d) : (a ++ b).size = 10 ∧ ((a ++ b) ++ c).size = 16 ∧ (((a ++ b) ++ c) ++ d).size = 20 ∧ (bytesOf (((a ++ b) ++ c) ++ d)).length = 20 := by
  unfold arpOK at h
  simp only [bytesOf_length, ByteArray.size_append]
  omega
theorem arpRes_length (f : Bool) (a b c d : ByteArray) : (arpRes f a b c d).1.length ≤ 2000 := by
  unfold arpRes
  split
  · rename_i h
    have := four_size h
    simp only [List.length_append, List.length_cons, List.length_nil]
    omega
  · simp
theorem specArp_ev (f : Bool) (a b c d : ByteArray) : spec_ArpBytes.f f a b c d = some (arpRes f a b c d) := by
  unfold spec_ArpBytes.f
  have h1 : spec_l09Arp.f f a b c d = some (decide (arpOK a b c d)) := by
    unfold spec_l09Arp.f arpOK
    by_cases c1 : (a.size : Int) = 6
    · have e1 : a.size = 6 := by omega
      by_cases c2 : (c.size : Int) = 6
      · have e2 : c.size = 6 := by omega
        by_cases c3 : (b.size : Int) = 4
        · have e3 : b.size = 4 := by omega
          by_cases c4 : (d.size : Int) = 4
          · have e4 : d.size = 4 := by omega
            simp [c1, c2, c3, c4, e1, e2, e3, e4]
          · have e4 : ¬ d.size = 4 := by omega
            simp [c1, c2, c3, c4, e4]
        · have e3 : ¬ b.size = 4 := by omega
          simp [c1, c2, c3, e3]
      · have e2 : ¬ c.size = 6 := by omega
        simp [c1, c2, e2]
    · have e1 : ¬ a.size = 6 := by omega
      simp [c1, e1]
  rw [h1]
  simp only [Option.bind_some]
  unfold arpRes
  by_cases h : arpOK a b c d
  · have hs := four_size h
    have h' := h
    unfold arpOK at h'
    rw [if_pos h, if_pos (decide_eq_true h)]
    unfold spec_l09ArpBytes.f spec_l01Bit.f
    have e1 : (wrap64 (1 + 1)) % 256 = 2 := by rw [wrap64_in (by omega) (by omega)]; rfl
    have e2 : (wrap64 (1 + 0)) % 256 = 1 := by rw [wrap64_in (by omega) (by omega)]; rfl
    cases f
    · simp only [Bool.false_eq_true, if_false, Option.bind_some, e2]
      rw [if_pos (by omega), if_pos (by omega), if_pos (by omega), if_pos (by rw [hs.2.2.1]; simp)]
      rfl
    · simp only [if_true, Option.bind_some, e1]
      rw [if_pos (by omega), if_pos (by omega), if_pos (by omega), if_pos (by rw [hs.2.2.1]; simp)]
      rfl
  · rw [if_neg h, if_neg (by simpa using h)]
theorem implJ_ev (f : Bool) (a b c d : ByteArray) (h : arpOK a b c d) : Ev (fun k => impl_ArpBytes.j0 k false f a b c d) ([0, 1, 8, 0, 6, 4, 0, if f then 2 else 1] ++ bytesOf (((a ++ b) ++ c) ++ d), 0) := by
  have hs := four_size h
  have h' := h
  unfold arpOK at h'
  apply ev_succ
  simp only [impl_ArpBytes.j0, Bool.false_eq_true, if_false]
  cases f
  · refine ev_neg (by simp) (ev_some (ev_pos (by simp) (ev_some (ev_pos (by simp) (ev_some (ev_pos (by omega) (ev_pos (by omega) (ev_pos (by omega) (ev_pos (by rw [hs.2.2.1]; simp) (Ev.now _))))))))))
  · refine ev_pos (by simp) (ev_some (ev_pos (by simp) (ev_some (ev_pos (by simp) (ev_some (ev_pos (by omega) (ev_pos (by omega) (ev_pos (by omega) (ev_pos (by rw [hs.2.2.1]; simp) (Ev.now _))))))))))
theorem implJt_ev (f : Bool) (a b c d : ByteArray) : Ev (fun k => impl_ArpBytes.j0 k true f a b c d) ([], 1) := by
  apply ev_succ
  simp only [impl_ArpBytes.j0]
  exact ev_pos trivial (Ev.now _)
theorem implArp_ev (f : Bool) (a b c d : ByteArray) : Ev (fun k => impl_ArpBytes.f k f a b c d) (arpRes f a b c d) := by
  unfold impl_ArpBytes.f impl_isLink.f arpRes
  simp only [Option.bind_some]
  by_cases h : arpOK a b c d
  · have h' := h
    unfold arpOK at h'
    rw [if_pos h]
    refine ev_pos (by simp; omega) (ev_pos (by simp; omega) (ev_pos (by omega) ?_))
    rw [show ((d.size : Int) != 4) = false from by simp; omega]
    exact implJ_ev f a b c d h
  · rw [if_neg h]
    refine ev_ite (fun c1 => ev_ite (fun c2 => ev_ite (fun c3 => ?_) (fun _ => implJt_ev f a b c d)) (fun _ => implJt_ev f a b c d)) (fun _ => implJt_ev f a b c d)
    have e : ((d.size : Int) != 4) = true := by
      by_cases c4 : (d.size : Int) = 4
      · refine absurd ?_ h
        simp at c1 c2
        unfold arpOK
        omega
      · simpa using c4
    rw [e]
    exact implJt_ev f a b c d

theorem FnExactArpBytes : SaysFnExactArpBytes.Says := by
  intro f a b c d _ h1 h2 h3 h4
  refine Ev.rounds (g := fun k => laws_FnExactArpBytes.f k f a b c d) ?_
  unfold laws_FnExactArpBytes.f
  have hz : ∃ r, laws_szArp.f f a b c d 1048576 = some r := by
    unfold laws_szArp.f
    repeat' (split)
    all_goals exact ⟨_, rfl⟩
  obtain ⟨z, hz⟩ := hz
  refine ev_bindc hz (ev_ite (fun _ => Ev.now _) (fun _ => ?_))
  have g1 := specArp_ev f a b c d
  have g2 := implArp_ev f a b c d
  have hq := arpRes_length f a b c d
  generalize arpRes f a b c d = r at g1 g2 hq
  obtain ⟨l, e⟩ := r
  have hl : l.length ≤ 140737488355328 := by simp only at hq; omega
  refine ev_bindc (a := (f, a, b, c, d)) rfl (ev_bindc g1 (ev_bindc (a := (f, a, b, c, d)) rfl (Ev.bind g2 (Ev.bind (eqByteS_ev hl) (ev_pos rfl ?_)))))
  simp only [bne_self_eq_false]
  apply ev_succ
  simp only [laws_FnExactArpBytes.j0, Bool.false_eq_true, if_false]
  refine Ev.bind (mark_ev hl (by omega)) (Ev.bind (held_ev l.length hl (by omega)) (ev_neg (by omega) (ev_pos rfl ?_)))
  refine ev_bindc (a := (f, a, b, c, d)) rfl (Ev.bind g2 (Ev.bind (eqByteS_ev hl) (ev_pos rfl ?_)))
  simp only [bne_self_eq_false]
  apply ev_succ
  simp only [laws_FnExactArpBytes.j1, Bool.false_eq_true, if_false]
  exact Ev.bind (held_ev l.length hl (by omega)) (ev_neg (by omega) (ev_pos rfl (Ev.now _)))

end Go.Proofs.Ytjfpkfophfelmaa.Pure

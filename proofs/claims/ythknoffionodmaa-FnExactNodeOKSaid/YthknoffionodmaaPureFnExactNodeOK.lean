/- The program's NodeOK answers what the reference's answers, for every node; no condition. -/
import Derived.Test.YthknoffionodmaaSaysFnExactNodeOK
import Derived.Test.YthknoffionodmaaAid
namespace Go.Proofs.Ythknoffionodmaa.Pure
open Go.RowKit Go.Proofs.Ythknoffionodmaa.QFnExactNodeOK Go.Proofs.YthknoffionodmaaV.PrintWords Go.Proofs.YthknoffionodmaaV.PrintLast Go.Proofs.YthknoffionodmaaV.PrintMore Go.Proofs.Ythknoffionodmaa.Aid Go.Proofs.Ythknoffionodmaa.SaysFnExactNodeOK

theorem spec_in (a b c : Int) : spec_l01In.f a b c = some (decide (b ≤ a ∧ a ≤ c)) := by
  unfold spec_l01In.f
  split <;> simp <;> omega
theorem impl_in (a b c : Int) : impl_inRange.f a b c = some (decide (b ≤ a ∧ a ≤ c)) := by
  unfold impl_inRange.f
  split <;> simp <;> omega
/-! ### Are these bits -/
theorem bits_loops (s : ByteArray) (hs : s.size ≤ 128) (d : Nat) : ∀ i : Nat, i + d = s.size → ∃ r, Ev (fun k => spec_l02Bits.l0 k s i) r ∧ Ev (fun k => impl_bitsOK.l0 k s i) r := by
  induction d with
  | zero =>
    intro i h
    refine ⟨true, ?_, ?_⟩
    · apply ev_succ
      simp only [spec_l02Bits.l0]
      exact ev_neg (by omega) (Ev.now _)
    · apply ev_succ
      simp only [impl_bitsOK.l0]
      exact ev_neg (by omega) (Ev.now _)
  | succ d ih =>
    intro i h
    have hw : wrap64 ((i : Int) + 1) = ((i + 1 : Nat) : Int) := by rw [wrap64_in (by omega) (by omega)]; omega
    obtain ⟨r, g1, g2⟩ := ih (i + 1) (by omega)
    by_cases h0 : bt s i = 48
    · refine ⟨r, ?_, ?_⟩
      · apply ev_succ
        simp only [spec_l02Bits.l0, hw]
        exact ev_pos (by omega) (ev_pos (by omega) (ev_pos h0 g1))
      · apply ev_succ
        simp only [impl_bitsOK.l0, hw]
        exact ev_pos (by omega) (ev_pos (by omega) (ev_pos h0 g2))
    · by_cases h1 : bt s i = 49
      · refine ⟨r, ?_, ?_⟩
        · apply ev_succ
          simp only [spec_l02Bits.l0, hw]
          exact ev_pos (by omega) (ev_pos (by omega) (ev_neg h0 (ev_pos h1 g1)))
        · apply ev_succ
          simp only [impl_bitsOK.l0, hw]
          exact ev_pos (by omega) (ev_pos (by omega) (ev_neg h0 (ev_pos h1 g2)))
      · refine ⟨false, ?_, ?_⟩
        · apply ev_succ
          simp only [spec_l02Bits.l0]
          exact ev_pos (by omega) (ev_pos (by omega) (ev_neg h0 (ev_neg h1 (Ev.now _))))
        · apply ev_succ
          simp only [impl_bitsOK.l0]
          exact ev_pos (by omega) (ev_pos (by omega) (ev_neg h0 (ev_neg h1 (Ev.now _))))
theorem bits_same (s : ByteArray) : ∃ r, Ev (fun k => spec_l02Bits.f k s) r ∧ Ev (fun k => impl_bitsOK.f k s) r := by
  unfold spec_l02Bits.f impl_bitsOK.f
  by_cases h : (s.size : Int) > 128
  · exact ⟨_, ev_pos h (Ev.now _), ev_pos h (Ev.now _)⟩
  · obtain ⟨r, g1, g2⟩ := bits_loops s (by omega) s.size 0 (by omega)
    exact ⟨r, ev_neg h g1, ev_neg h g2⟩
/-! ### Tries -/
mutual
def nd : S90 → Nat
  | ⟨_, _, _, _, l⟩ => 1 + nds l
def nds : List S90 → Nat
  | [] => 0
  | x :: l => nd x + nds l
end
theorem nd_eq (t : S90) : nd t = 1 + nds t.f4 := by
  cases t
  simp [nd]
theorem nd_kid {t : S90} {i : Nat} (hi : i < t.f4.length) : nd (rd_T90 t.f4 (i : Int)) + 1 ≤ nd t := by
  have e : rd_T90 t.f4 (i : Int) = t.f4[i] := by simp [rd_T90, List.getD_eq_getElem?_getD, List.getElem?_eq_getElem hi]
  rw [e, nd_eq t]
  have : ∀ (l : List S90) (i : Nat) (hi : i < l.length), nd l[i] ≤ nds l := by
    intro l
    induction l with
    | nil => intro i hi; simp at hi
    | cons a l ih =>
      intro i hi
      cases i with
      | zero => simp [nds]
      | succ i =>
        have := ih i (by simpa using hi)
        simp only [List.getElem_cons_succ, nds]
        omega
  have := this t.f4 i hi
  omega
def pre (a b : ByteArray) : Bool := (a.extract 0 b.size).toList == b.toList
theorem begins_eq (a b : ByteArray) : spec_l02Begins.f a b = some (decide (b.size ≤ a.size) && pre a b) := by
  unfold spec_l02Begins.f pre
  by_cases h : (a.size : Int) ≥ (b.size : Int)
  · rw [if_pos h, if_pos (by omega), if_pos (by omega), Int.toNat_natCast, decide_eq_true (by omega), Bool.true_and]
  · rw [if_neg h, decide_eq_false (by omega), Bool.false_and]
theorem prefix_eq (a b : ByteArray) : strings_HasPrefix.f a b = some (decide (b.size ≤ a.size) && pre a b) := by
  unfold strings_HasPrefix.f stringslite_HasPrefix.f pre
  by_cases h : (a.size : Int) ≥ (b.size : Int)
  · rw [if_pos h, if_pos (by omega), if_pos (by omega), Int.toNat_natCast, decide_eq_true (by omega), Bool.true_and]
    rfl
  · rw [if_neg h, decide_eq_false (by omega), Bool.false_and]
    rfl
def sh (t kid : S90) : Prop := t.f0.size < kid.f0.size ∧ pre kid.f0 t.f0 = true
def ordK (t : S90) (i : Nat) : Prop := i = 1 → ¬ bt (rd_T90 t.f4 0).f0 (t.f0.size : Int) ≥ bt (rd_T90 t.f4 (i : Int)).f0 (t.f0.size : Int)
section
variable (B : ByteArray → Bool) (HB : ∀ s, Ev (fun k => spec_l02Bits.f k s) (B s) ∧ Ev (fun k => impl_bitsOK.f k s) (B s) ∧ (B s = true → s.size ≤ 128))
include HB
theorem specRoute_ev (s : ByteArray) (a b : Int) : Ev (fun k => spec_RouteOK.f k s a b) (B s && decide (0 ≤ a ∧ a ≤ 99) && decide (0 ≤ b ∧ b ≤ 16)) := by
  have h := (HB s).1
  unfold spec_RouteOK.f
  simp only [spec_in, Option.bind_some]
  refine Ev.bind h ?_
  by_cases h1 : B s = true
  · rw [h1]
    refine ev_pos rfl (ev_ite (fun h2 => ev_fin ?_) (fun h2 => ev_fin ?_))
    · rw [h2]; rfl
    · rw [Bool.not_eq_true] at h2; rw [h2]; rfl
  · rw [Bool.not_eq_true] at h1
    rw [h1]
    exact ev_neg (by simp) (Ev.now _)
theorem implRoute_ev (s : ByteArray) (a b : Int) : Ev (fun k => impl_RouteOK.f k s a b) (B s && decide (0 ≤ a ∧ a ≤ 99) && decide (0 ≤ b ∧ b ≤ 16)) := by
  have h := (HB s).2.1
  unfold impl_RouteOK.f
  simp only [impl_in, Option.bind_some]
  refine Ev.bind h ?_
  by_cases h1 : B s = true
  · rw [h1]
    refine ev_pos rfl (ev_ite (fun h2 => ev_fin ?_) (fun h2 => ev_fin ?_))
    · rw [h2]; rfl
    · rw [Bool.not_eq_true] at h2; rw [h2]; rfl
  · rw [Bool.not_eq_true] at h1
    rw [h1]
    exact ev_neg (by simp) (Ev.now _)
omit HB in
theorem j0t (dep : Int) (t : S90) : Ev (fun k => spec_l02Right.j0 k dep true t.f0 t.f1 t.f2 t.f3 t.f4) false := by
  apply ev_succ
  simp only [spec_l02Right.j0]
  exact ev_pos trivial (Ev.now _)
omit HB in
theorem j0f {dep : Int} {t : S90} {r : Bool} (h : Ev (fun k => spec_l02Right.l0 k dep 0 t.f0 t.f1 t.f2 t.f3 t.f4) r) : Ev (fun k => spec_l02Right.j0 k dep false t.f0 t.f1 t.f2 t.f3 t.f4) r := by
  apply ev_succ
  simp only [spec_l02Right.j0]
  exact ev_neg (by simp) h
/-- What is no row of bits is not right. -/
theorem right_notbits (t : S90) (top : Bool) (dep : Int) (hb : B t.f0 = false) : Ev (fun k => spec_l02Right.f k t.f0 t.f1 t.f2 t.f3 t.f4 top dep) false := by
  have hr := specRoute_ev B HB t.f0 t.f2 t.f3
  rw [hb] at hr
  have jt := j0t dep t
  apply ev_succ
  simp only [spec_l02Right.f]
  exact ev_ite (fun _ => jt) (fun _ => Ev.bind hr (ev_neg (by simp) jt))
/-- A root with bits is not right. -/
theorem right_top (t : S90) (dep : Int) (hb : t.f0.toList ≠ []) : Ev (fun k => spec_l02Right.f k t.f0 t.f1 t.f2 t.f3 t.f4 true dep) false := by
  have hr := specRoute_ev B HB t.f0 t.f2 t.f3
  have jt := j0t dep t
  apply ev_succ
  simp only [spec_l02Right.f]
  refine ev_ite (fun _ => jt) (fun _ => Ev.bind hr (ev_ite (fun _ => ev_ite (fun _ => ev_ite (fun _ => jt) (fun _ => ev_pos trivial (ev_neg hb jt))) (fun _ => ev_ite (fun _ => ev_ite (fun _ => ev_ite (fun _ => jt) (fun _ => ev_pos trivial (ev_neg hb jt))) (fun _ => jt)) (fun _ => jt))) (fun _ => jt)))
/-- What the node itself must be. -/
def nodeP (t : S90) (top : Bool) : Prop := (t.f1 = true ∧ (0 ≤ t.f2 ∧ t.f2 ≤ 99) ∧ 0 ≤ t.f3 ∧ t.f3 ≤ 16) ∨ (¬ t.f1 = true ∧ t.f2 = 0 ∧ t.f3 = 0 ∧ (top = true ∨ t.f4.length = 2))
theorem right_node (t : S90) (top : Bool) (dep : Nat) (hb : B t.f0 = true) (hd : dep ≤ t.f0.size) (ht : top = true → t.f0.toList = []) (hl : t.f4.length ≤ 2) {s : Bool} (hs : Ev (fun k => spec_l02Right.l0 k (dep : Int) 0 t.f0 t.f1 t.f2 t.f3 t.f4) s) :
    (nodeP t top → Ev (fun k => spec_l02Right.f k t.f0 t.f1 t.f2 t.f3 t.f4 top (dep : Int)) s) ∧ (¬ nodeP t top → Ev (fun k => spec_l02Right.f k t.f0 t.f1 t.f2 t.f3 t.f4 top (dep : Int)) false) := by
  have hr := specRoute_ev B HB t.f0 t.f2 t.f3
  rw [hb, Bool.true_and] at hr
  have h128 := (HB t.f0).2.2 hb
  have jt := j0t (dep : Int) t
  have jf := j0f hs
  refine ⟨fun h => ?_, fun h => ?_⟩
  · rcases h with ⟨h1, h2, h3⟩ | ⟨h1, h2, h3, h4⟩
    · rw [decide_eq_true h2, decide_eq_true h3] at hr
      apply ev_succ
      simp only [spec_l02Right.f]
      refine ev_neg (by omega) (Ev.bind hr (ev_pos rfl (ev_pos h1 (ev_neg (by omega) (ev_ite (fun c => ev_pos (ht c) jf) (fun _ => jf))))))
    · rw [decide_eq_true (show 0 ≤ t.f2 ∧ t.f2 ≤ 99 by omega), decide_eq_true (show 0 ≤ t.f3 ∧ t.f3 ≤ 16 by omega)] at hr
      apply ev_succ
      simp only [spec_l02Right.f]
      refine ev_neg (by omega) (Ev.bind hr (ev_pos rfl (ev_neg h1 (ev_pos h2 (ev_pos h3 (ev_neg (by omega) (ev_ite (fun c => ev_pos (ht c) jf) (fun c => ?_))))))))
      rw [decide_eq_false (by rcases h4 with h4 | h4; exact absurd h4 c; omega)]
      exact jf
  · apply ev_succ
    simp only [spec_l02Right.f]
    refine ev_neg (by omega) (Ev.bind hr (ev_ite (fun c => ?_) (fun _ => jt)))
    rw [Bool.and_eq_true, decide_eq_true_eq, decide_eq_true_eq] at c
    refine ev_ite (fun h1 => absurd (.inl ⟨h1, c.1, c.2⟩) h) (fun h1 => ev_ite (fun h2 => ev_ite (fun h3 => ev_neg (by omega) (ev_ite (fun h4 => absurd (.inr ⟨h1, h2, h3, .inl h4⟩) h) (fun h4 => ?_))) (fun _ => jt)) (fun _ => jt))
    rw [decide_eq_true (show (t.f4.length : Int) < 2 by
      rcases Nat.lt_or_ge t.f4.length 2 with h5 | h5
      · omega
      · exact absurd (.inr ⟨h1, h2, h3, .inr (by omega)⟩) h)]
    exact jt
omit HB in
theorem right_many (t : S90) (top : Bool) (dep : Int) (hl : 2 < t.f4.length) {q : Bool} (hr : Ev (fun k => spec_RouteOK.f k t.f0 t.f2 t.f3) q) : Ev (fun k => spec_l02Right.f k t.f0 t.f1 t.f2 t.f3 t.f4 top dep) false := by
  have jt := j0t dep t
  apply ev_succ
  simp only [spec_l02Right.f]
  exact ev_ite (fun _ => jt) (fun _ => Ev.bind hr (ev_ite (fun _ => ev_ite (fun _ => ev_pos (by omega) jt) (fun _ => ev_ite (fun _ => ev_ite (fun _ => ev_pos (by omega) jt) (fun _ => jt)) (fun _ => jt))) (fun _ => jt)))
omit HB in
theorem spec_end (t : S90) (dep : Int) (i : Nat) (hi : t.f4.length ≤ i) : Ev (fun k => spec_l02Right.l0 k dep i t.f0 t.f1 t.f2 t.f3 t.f4) true := by
  apply ev_succ
  simp only [spec_l02Right.l0]
  exact ev_neg (by omega) (Ev.now _)
omit HB in
theorem spec_bad (t : S90) (dep : Int) (i : Nat) (hi : i < t.f4.length) (h0 : i = 1 → sh t (rd_T90 t.f4 0)) (h : ¬ (sh t (rd_T90 t.f4 (i : Int)) ∧ ordK t i)) : Ev (fun k => spec_l02Right.l0 k dep i t.f0 t.f1 t.f2 t.f3 t.f4) false := by
  apply ev_succ
  simp only [spec_l02Right.l0]
  refine ev_pos (by omega) (ev_pos (by omega) (ev_bindc (begins_eq _ _) (ev_ite (fun c => ev_ite (fun _ => Ev.now _) (fun c2 => ?_)) (fun _ => Ev.now _))))
  rw [Bool.and_eq_true, decide_eq_true_eq] at c
  have hs : sh t (rd_T90 t.f4 (i : Int)) := ⟨by omega, c.2⟩
  by_cases h1 : i = 1
  · have h01 := (h0 h1).1
    have hs1 := hs.1
    refine ev_pos (by omega) (ev_pos (by omega) (ev_pos (by omega) (ev_pos (by omega) (ev_pos (by omega) (ev_ite (fun _ => Ev.now _) (fun c3 => absurd ⟨hs, fun _ => c3⟩ h))))))
  · exact absurd ⟨hs, fun h2 => absurd h2 h1⟩ h
omit HB in
theorem spec_go (t : S90) (dep : Nat) (hdep : dep ≤ 128) (i : Nat) (hi : i < t.f4.length) (hl : t.f4.length ≤ 2) (h0 : i = 1 → sh t (rd_T90 t.f4 0)) (h : sh t (rd_T90 t.f4 (i : Int)) ∧ ordK t i) {g r : Bool}
    (hg : Ev (fun k => spec_l02Right.f k (rd_T90 t.f4 (i : Int)).f0 (rd_T90 t.f4 (i : Int)).f1 (rd_T90 t.f4 (i : Int)).f2 (rd_T90 t.f4 (i : Int)).f3 (rd_T90 t.f4 (i : Int)).f4 false ((dep + 1 : Nat) : Int)) g)
    (hr : g = true → Ev (fun k => spec_l02Right.l0 k (dep : Int) ((i + 1 : Nat) : Int) t.f0 t.f1 t.f2 t.f3 t.f4) r) :
    Ev (fun k => spec_l02Right.l0 k (dep : Int) i t.f0 t.f1 t.f2 t.f3 t.f4) (if g = true then r else false) := by
  have hw : wrap64 ((i : Int) + 1) = ((i + 1 : Nat) : Int) := by rw [wrap64_in (by omega) (by omega)]; omega
  have hwd : wrap64 ((dep : Int) + 1) = ((dep + 1 : Nat) : Int) := by rw [wrap64_in (by omega) (by omega)]; omega
  obtain ⟨hs, ho⟩ := h
  have hs1 := hs.1
  have fin : Ev (fun k => (some g).bind fun t116 => if t116 = true then spec_l02Right.l0 k (dep : Int) ((i + 1 : Nat) : Int) t.f0 t.f1 t.f2 t.f3 t.f4 else some false) (if g = true then r else false) := by
    cases g
    · exact ev_some (ev_neg (by simp) (Ev.now _))
    · exact ev_some (ev_pos rfl (hr rfl))
  have fin : Ev (fun k => if g = true then spec_l02Right.l0 k (dep : Int) ((i + 1 : Nat) : Int) t.f0 t.f1 t.f2 t.f3 t.f4 else some false) (if g = true then r else false) := fin
  apply ev_succ
  simp only [spec_l02Right.l0, hw, hwd]
  refine ev_pos (by omega) (ev_pos (by omega) (ev_bindc (begins_eq _ _) (ev_pos (by rw [Bool.and_eq_true, decide_eq_true_eq]; exact ⟨by omega, hs.2⟩) (ev_neg (by omega) ?_))))
  by_cases h1 : i = 1
  · have h01 := (h0 h1).1
    exact ev_pos (by omega) (ev_pos (by omega) (ev_pos (by omega) (ev_pos (by omega) (ev_pos (by omega) (ev_neg (ho h1) (Ev.bind hg fin))))))
  · exact ev_neg (by omega) (Ev.bind hg fin)
omit HB in
theorem kids_end (t : S90) (i : Nat) (hi : t.f4.length ≤ i) : Ev (fun k => impl_kidsOK.l0 k t.f4 t.f4.length i t.f0 t.f1 t.f2 t.f3 t.f4) true := by
  apply ev_succ
  simp only [impl_kidsOK.l0]
  exact ev_neg (by omega) (Ev.now _)
theorem kids_bad (t : S90) (i : Nat) (hi : i < t.f4.length) (hl : t.f4.length ≤ 2) (h0 : i = 1 → sh t (rd_T90 t.f4 0)) (h : ¬ ((sh t (rd_T90 t.f4 (i : Int)) ∧ ordK t i) ∧ B (rd_T90 t.f4 (i : Int)).f0 = true)) : Ev (fun k => impl_kidsOK.l0 k t.f4 t.f4.length i t.f0 t.f1 t.f2 t.f3 t.f4) false := by
  have jt : Ev (fun k => impl_kidsOK.j1 k i t.f4 t.f4.length i true t.f0 t.f1 t.f2 t.f3 t.f4 (rd_T90 t.f4 (i : Int)).f0 (rd_T90 t.f4 (i : Int)).f1 (rd_T90 t.f4 (i : Int)).f2 (rd_T90 t.f4 (i : Int)).f3 (rd_T90 t.f4 (i : Int)).f4) false := by
    apply ev_succ
    simp only [impl_kidsOK.j1]
    exact ev_pos trivial (Ev.now _)
  apply ev_succ
  simp only [impl_kidsOK.l0]
  refine ev_pos (by omega) (ev_pos (by omega) (ev_pos (by omega) (ev_ite (fun _ => jt) (fun c1 => Ev.bind (HB _).2.1 (ev_ite (fun c2 => ev_bindc (prefix_eq _ _) ?_) (fun _ => jt))))))
  by_cases c3 : pre (rd_T90 t.f4 (i : Int)).f0 t.f0 = true
  · have hs : sh t (rd_T90 t.f4 (i : Int)) := ⟨by omega, c3⟩
    have hs1 := hs.1
    rw [c3, decide_eq_true (by omega)]
    by_cases h1 : i = 1
    · have h01 := (h0 h1).1
      apply ev_succ
      simp only [impl_kidsOK.j1]
      exact ev_neg (by simp) (ev_pos (by omega) (ev_pos (by omega) (ev_pos (by omega) (ev_pos (by omega) (ev_pos (by omega) (ev_ite (fun _ => Ev.now _) (fun c4 => absurd ⟨⟨hs, fun _ => c4⟩, c2⟩ h)))))))
    · exact absurd ⟨⟨hs, fun h2 => absurd h2 h1⟩, c2⟩ h
  · rw [Bool.not_eq_true] at c3
    rw [c3, Bool.and_false]
    exact jt
theorem kids_go (t : S90) (i : Nat) (hi : i < t.f4.length) (hl : t.f4.length ≤ 2) (h0 : i = 1 → sh t (rd_T90 t.f4 0)) (h : (sh t (rd_T90 t.f4 (i : Int)) ∧ ordK t i) ∧ B (rd_T90 t.f4 (i : Int)).f0 = true) {r : Bool} (hr : Ev (fun k => impl_kidsOK.l0 k t.f4 t.f4.length ((i + 1 : Nat) : Int) t.f0 t.f1 t.f2 t.f3 t.f4) r) : Ev (fun k => impl_kidsOK.l0 k t.f4 t.f4.length i t.f0 t.f1 t.f2 t.f3 t.f4) r := by
  have hw : wrap64 ((i : Int) + 1) = ((i + 1 : Nat) : Int) := by rw [wrap64_in (by omega) (by omega)]; omega
  obtain ⟨⟨hs, ho⟩, hb⟩ := h
  have hs1 := hs.1
  have he := (HB (rd_T90 t.f4 (i : Int)).f0).2.1
  rw [hb] at he
  apply ev_succ
  simp only [impl_kidsOK.l0]
  refine ev_pos (by omega) (ev_pos (by omega) (ev_pos (by omega) (ev_neg (by omega) (Ev.bind he (ev_pos rfl (ev_bindc (prefix_eq _ _) ?_))))))
  rw [hs.2, decide_eq_true (by omega)]
  apply ev_succ
  simp only [impl_kidsOK.j1, hw]
  refine ev_neg (by simp) ?_
  by_cases h1 : i = 1
  · have h01 := (h0 h1).1
    exact ev_pos (by omega) (ev_pos (by omega) (ev_pos (by omega) (ev_pos (by omega) (ev_pos (by omega) (ev_neg (ho h1) hr)))))
  · exact ev_neg (by omega) hr
omit HB in
theorem cnt_end (l : List S90) (c : Int) (i : Nat) (hi : l.length ≤ i) : Ev (fun k => impl_countRoutes.l0 k c l l.length i) c := by
  apply ev_succ
  simp only [impl_countRoutes.l0]
  exact ev_neg (by omega) (Ev.now _)
omit HB in
theorem cnt_step (l : List S90) (hl : l.length ≤ 2) (c : Int) (i : Nat) (hi : i < l.length) {d r : Int} (hd : Ev (fun k => impl_countRoutes.f k (rd_T90 l (i : Int)).f0 (rd_T90 l (i : Int)).f1 (rd_T90 l (i : Int)).f2 (rd_T90 l (i : Int)).f3 (rd_T90 l (i : Int)).f4 false) d) :
    (d < 0 → Ev (fun k => impl_countRoutes.l0 k c l l.length i) (-1)) ∧ (0 ≤ d → Ev (fun k => impl_countRoutes.l0 k (wrap64 (c + d)) l l.length ((i + 1 : Nat) : Int)) r → Ev (fun k => impl_countRoutes.l0 k c l l.length i) r) := by
  have hw : wrap64 ((i : Int) + 1) = ((i + 1 : Nat) : Int) := by rw [wrap64_in (by omega) (by omega)]; omega
  refine ⟨fun h => ?_, fun h hr => ?_⟩
  · apply ev_succ
    simp only [impl_countRoutes.l0]
    exact ev_pos (by omega) (ev_pos (by omega) (ev_pos (by omega) (Ev.bind hd (ev_pos h (Ev.now _)))))
  · apply ev_succ
    simp only [impl_countRoutes.l0, hw]
    exact ev_pos (by omega) (ev_pos (by omega) (ev_pos (by omega) (Ev.bind hd (ev_neg (by omega) hr))))
omit HB in
theorem scnt_end (t : S90) (c : Int) (i : Nat) (hi : t.f4.length ≤ i) : Ev (fun k => spec_l02Count.l0 k c i t.f0 t.f1 t.f2 t.f3 t.f4) c := by
  apply ev_succ
  simp only [spec_l02Count.l0]
  exact ev_neg (by omega) (Ev.now _)
omit HB in
theorem scnt_step (t : S90) (hl : t.f4.length ≤ 2) (c : Int) (i : Nat) (hi : i < t.f4.length) {d r : Int} (hd : Ev (fun k => spec_l02Count.f k (rd_T90 t.f4 (i : Int)).f0 (rd_T90 t.f4 (i : Int)).f1 (rd_T90 t.f4 (i : Int)).f2 (rd_T90 t.f4 (i : Int)).f3 (rd_T90 t.f4 (i : Int)).f4) d)
    (hr : Ev (fun k => spec_l02Count.l0 k (wrap64 (c + d)) ((i + 1 : Nat) : Int) t.f0 t.f1 t.f2 t.f3 t.f4) r) : Ev (fun k => spec_l02Count.l0 k c i t.f0 t.f1 t.f2 t.f3 t.f4) r := by
  have hw : wrap64 ((i : Int) + 1) = ((i + 1 : Nat) : Int) := by rw [wrap64_in (by omega) (by omega)]; omega
  apply ev_succ
  simp only [spec_l02Count.l0, hw]
  exact ev_pos (by omega) (ev_pos (by omega) (Ev.bind hd hr))
/-- What is told of one node by both. -/
def Both (t : S90) (top : Bool) (dep : Nat) (g : Bool) (c : Int) : Prop :=
  Ev (fun k => spec_l02Right.f k t.f0 t.f1 t.f2 t.f3 t.f4 top (dep : Int)) g ∧ Ev (fun k => impl_countRoutes.f k t.f0 t.f1 t.f2 t.f3 t.f4 top) c ∧ (g = true → Ev (fun k => spec_l02Count.f k t.f0 t.f1 t.f2 t.f3 t.f4) c ∧ 0 ≤ c ∧ c ≤ (nd t : Int)) ∧ (g = false → c = -1)
def KidsP (t : S90) (dep : Nat) (s kk : Bool) : Prop :=
  Ev (fun k => spec_l02Right.l0 k (dep : Int) 0 t.f0 t.f1 t.f2 t.f3 t.f4) s ∧ Ev (fun k => impl_kidsOK.f k t.f0 t.f1 t.f2 t.f3 t.f4) kk ∧ (s = true → kk = true) ∧
  (kk = true → ∀ c0 : Int, 0 ≤ c0 → c0 ≤ 1 → ∃ c, Ev (fun k => impl_countRoutes.l0 k c0 t.f4 t.f4.length 0) c ∧ (s = true → Ev (fun k => spec_l02Count.l0 k c0 0 t.f0 t.f1 t.f2 t.f3 t.f4) c ∧ 0 ≤ c ∧ c ≤ c0 + (nds t.f4 : Int)) ∧ (s = false → c = -1))
omit HB in
theorem nds_two (t : S90) (h : t.f4.length = 2) : nds t.f4 = nd (rd_T90 t.f4 ((0 : Nat) : Int)) + nd (rd_T90 t.f4 ((1 : Nat) : Int)) := by
  obtain ⟨_, _, _, _, l⟩ := t
  match l, h with
  | [x, y], _ => simp [nds, rd_T90]
omit HB in
theorem nds_one (t : S90) (h : t.f4.length = 1) : nds t.f4 = nd (rd_T90 t.f4 ((0 : Nat) : Int)) := by
  obtain ⟨_, _, _, _, l⟩ := t
  match l, h with
  | [x], _ => simp [nds, rd_T90]
theorem kidsP (t : S90) (dep : Nat) (hd : dep ≤ t.f0.size) (hb : B t.f0 = true) (hl : t.f4.length ≤ 2) (hn : nd t ≤ 2000000)
    (ih : ∀ i : Nat, i < t.f4.length → B (rd_T90 t.f4 (i : Int)).f0 = true → t.f0.size < (rd_T90 t.f4 (i : Int)).f0.size → ∃ g c, Both (rd_T90 t.f4 (i : Int)) false (dep + 1) g c) : ∃ s kk, KidsP t dep s kk := by
  have h128 := (HB t.f0).2.2 hb
  have hnd := nd_eq t
  have kf : ∀ {r : Bool}, Ev (fun k => impl_kidsOK.l0 k t.f4 t.f4.length ((0 : Nat) : Int) t.f0 t.f1 t.f2 t.f3 t.f4) r → Ev (fun k => impl_kidsOK.f k t.f0 t.f1 t.f2 t.f3 t.f4) r := by
    intro r h
    unfold impl_kidsOK.f
    exact ev_neg (by omega) h
  rcases Nat.eq_zero_or_pos t.f4.length with hz | hp
  · refine ⟨true, true, spec_end t _ 0 (by omega), kf (kids_end t 0 (by omega)), fun _ => rfl, fun _ c0 a0 a1 => ⟨c0, cnt_end t.f4 c0 0 (by omega), fun _ => ⟨scnt_end t c0 0 (by omega), a0, by omega⟩, (fun h => absurd h (by simp))⟩⟩
  · have n0 : (0 : Nat) = 1 → sh t (rd_T90 t.f4 0) := fun h => by omega
    by_cases q0 : (sh t (rd_T90 t.f4 ((0 : Nat) : Int)) ∧ ordK t 0) ∧ B (rd_T90 t.f4 ((0 : Nat) : Int)).f0 = true
    · obtain ⟨g0, c0', G1, G2, G3, G4⟩ := ih 0 hp q0.2 q0.1.1.1
      rcases Nat.lt_or_ge 1 t.f4.length with h2 | h2
      · have n1 : (1 : Nat) = 1 → sh t (rd_T90 t.f4 0) := fun _ => q0.1.1
        by_cases q1 : (sh t (rd_T90 t.f4 ((1 : Nat) : Int)) ∧ ordK t 1) ∧ B (rd_T90 t.f4 ((1 : Nat) : Int)).f0 = true
        · obtain ⟨g1, c1', K1, K2, K3, K4⟩ := ih 1 h2 q1.2 q1.1.1.1
          have hs := nds_two t (by omega)
          refine ⟨if g0 = true then (if g1 = true then true else false) else false, true, spec_go t dep (by omega) 0 hp hl n0 q0.1 G1 (fun _ => spec_go t dep (by omega) 1 h2 hl n1 q1.1 K1 (fun _ => spec_end t _ 2 (by omega))), kf (kids_go B HB t 0 hp hl n0 q0 (kids_go B HB t 1 h2 hl n1 q1 (kids_end t 2 (by omega)))), fun _ => rfl, fun _ c0 a0 a1 => ?_⟩
          cases g0 with
          | false =>
            have := G4 rfl
            exact ⟨-1, (cnt_step (r := 0) t.f4 hl c0 0 hp G2).1 (by omega), fun h => by simp at h, fun _ => rfl⟩
          | true =>
            obtain ⟨G5, G6, G7⟩ := G3 rfl
            have w1 : wrap64 (c0 + c0') = c0 + c0' := wrap64_in (by omega) (by omega)
            cases g1 with
            | false =>
              have := K4 rfl
              exact ⟨-1, (cnt_step t.f4 hl c0 0 hp G2).2 G6 (by rw [w1]; exact (cnt_step (r := 0) t.f4 hl _ 1 h2 K2).1 (by omega)), fun h => by simp at h, fun _ => rfl⟩
            | true =>
              obtain ⟨K5, K6, K7⟩ := K3 rfl
              have w2 : wrap64 (c0 + c0' + c1') = c0 + c0' + c1' := wrap64_in (by omega) (by omega)
              refine ⟨c0 + c0' + c1', (cnt_step t.f4 hl c0 0 hp G2).2 G6 (by rw [w1]; exact (cnt_step t.f4 hl _ 1 h2 K2).2 K6 (by rw [w2]; exact cnt_end t.f4 _ 2 (by omega))), fun _ => ⟨scnt_step t hl c0 0 hp G5 (by rw [w1]; exact scnt_step t hl _ 1 h2 K5 (by rw [w2]; exact scnt_end t _ 2 (by omega))), by omega, by omega⟩, fun h => by simp at h⟩
        · refine ⟨false, false, ?_, kf (kids_go B HB t 0 hp hl n0 q0 (kids_bad B HB t 1 h2 hl n1 q1)), (fun h => absurd h (by simp)), (fun h => absurd h (by simp))⟩
          have e : Ev (fun k => spec_l02Right.l0 k (dep : Int) ((1 : Nat) : Int) t.f0 t.f1 t.f2 t.f3 t.f4) false := by
            by_cases q2 : sh t (rd_T90 t.f4 ((1 : Nat) : Int)) ∧ ordK t 1
            · have hnb : B (rd_T90 t.f4 ((1 : Nat) : Int)).f0 = false := by
                rw [← Bool.not_eq_true]
                exact fun h => q1 ⟨q2, h⟩
              exact ev_eq (spec_go (r := false) t dep (by omega) 1 h2 hl n1 q2 (right_notbits B HB _ false _ hnb) ((fun h => absurd h (by simp)))) (by simp)
            · exact spec_bad t _ 1 h2 n1 q2
          exact ev_eq (spec_go (r := false) t dep (by omega) 0 hp hl n0 q0.1 G1 (fun _ => e)) (by simp)
      · have hs := nds_one t (by omega)
        refine ⟨if g0 = true then true else false, true, spec_go t dep (by omega) 0 hp hl n0 q0.1 G1 (fun _ => spec_end t _ 1 (by omega)), kf (kids_go B HB t 0 hp hl n0 q0 (kids_end t 1 (by omega))), fun _ => rfl, fun _ c0 a0 a1 => ?_⟩
        cases g0 with
        | false =>
          have := G4 rfl
          exact ⟨-1, (cnt_step (r := 0) t.f4 hl c0 0 hp G2).1 (by omega), fun h => by simp at h, fun _ => rfl⟩
        | true =>
          obtain ⟨G5, G6, G7⟩ := G3 rfl
          have w1 : wrap64 (c0 + c0') = c0 + c0' := wrap64_in (by omega) (by omega)
          exact ⟨c0 + c0', (cnt_step t.f4 hl c0 0 hp G2).2 G6 (by rw [w1]; exact cnt_end t.f4 _ 1 (by omega)), fun _ => ⟨scnt_step t hl c0 0 hp G5 (by rw [w1]; exact scnt_end t _ 1 (by omega)), by omega, by omega⟩, fun h => by simp at h⟩
    · refine ⟨false, false, ?_, kf (kids_bad B HB t 0 hp hl n0 q0), (fun h => absurd h (by simp)), (fun h => absurd h (by simp))⟩
      by_cases q2 : sh t (rd_T90 t.f4 ((0 : Nat) : Int)) ∧ ordK t 0
      · have hnb : B (rd_T90 t.f4 ((0 : Nat) : Int)).f0 = false := by
          rw [← Bool.not_eq_true]
          exact fun h => q0 ⟨q2, h⟩
        exact ev_eq (spec_go (r := false) t dep (by omega) 0 hp hl n0 q2 (right_notbits B HB _ false _ hnb) ((fun h => absurd h (by simp)))) (by simp)
      · exact spec_bad t _ 0 hp n0 q2
theorem joint (n : Nat) : ∀ (t : S90) (top : Bool) (dep : Nat), nd t ≤ n → nd t ≤ 2000000 → B t.f0 = true → dep ≤ t.f0.size → (top = true → t.f0.toList = []) → ∃ g c, Both t top dep g c := by
  induction n with
  | zero =>
    intro t top dep h
    have := nd_eq t
    omega
  | succ n ih =>
    intro t top dep hn hm hb hd ht
    have hr := specRoute_ev B HB t.f0 t.f2 t.f3
    have hi := implRoute_ev B HB t.f0 t.f2 t.f3
    have hnd := nd_eq t
    by_cases hl : t.f4.length ≤ 2
    · obtain ⟨s, kk, S1, S2, S3, S4⟩ := kidsP B HB t dep hd hb hl hm (fun i hil hbi hsi => ih _ false (dep + 1) (by have := nd_kid hil; omega) (by have := nd_kid hil; omega) hbi (by omega) ((fun h => absurd h (by simp))))
      obtain ⟨R1, R2⟩ := right_node B HB t top dep hb hd ht hl S1
      cases kk with
      | false =>
        have hsf : s = false := by
          cases s
          · rfl
          · exact absurd (S3 rfl) (by simp)
        subst hsf
        refine ⟨false, -1, ?_, ?_, (fun h => absurd h (by simp)), fun _ => rfl⟩
        · by_cases hN : nodeP t top
          · exact R1 hN
          · exact R2 hN
        · apply ev_succ
          simp only [impl_countRoutes.f]
          exact Ev.bind S2 (ev_neg (by simp) (Ev.now _))
      | true =>
        by_cases hN : nodeP t top
        · have hcase : ∃ c0 : Int, (0 ≤ c0 ∧ c0 ≤ 1) ∧ (∀ c, Ev (fun k => impl_countRoutes.l0 k c0 t.f4 t.f4.length 0) c → Ev (fun k => impl_countRoutes.f k t.f0 t.f1 t.f2 t.f3 t.f4 top) c) ∧ (∀ c, Ev (fun k => spec_l02Count.l0 k c0 0 t.f0 t.f1 t.f2 t.f3 t.f4) c → Ev (fun k => spec_l02Count.f k t.f0 t.f1 t.f2 t.f3 t.f4) c) := by
            have jj : ∀ (c0 c : Int), Ev (fun k => impl_countRoutes.l0 k c0 t.f4 t.f4.length 0) c → Ev (fun k => impl_countRoutes.j0 k c0 t.f0 t.f1 t.f2 t.f3 t.f4) c := by
              intro c0 c h
              apply ev_succ
              simp only [impl_countRoutes.j0]
              exact h
            rcases hN with ⟨h1, h2, h3⟩ | ⟨h1, h2, h3, h4⟩
            · rw [hb, decide_eq_true h2, decide_eq_true h3] at hi
              refine ⟨1, by omega, fun c h => ?_, fun c h => ?_⟩
              · apply ev_succ
                simp only [impl_countRoutes.f]
                exact Ev.bind S2 (ev_pos rfl (ev_pos h1 (Ev.bind hi (ev_pos rfl (jj 1 c h)))))
              · apply ev_succ
                simp only [spec_l02Count.f, spec_l01Bit.f, if_pos h1]
                exact ev_some h
            · refine ⟨0, by omega, fun c h => ?_, fun c h => ?_⟩
              · apply ev_succ
                simp only [impl_countRoutes.f]
                refine Ev.bind S2 (ev_pos rfl (ev_neg h1 (ev_pos h2 (ev_pos h3 (ev_ite (fun _ => jj 0 c h) (fun c5 => ev_pos (by rcases h4 with h4 | h4; exact absurd h4 c5; omega) (jj 0 c h)))))))
              · apply ev_succ
                simp only [spec_l02Count.f, spec_l01Bit.f, if_neg h1]
                exact ev_some h
          obtain ⟨c0, ⟨a0, a1⟩, E1, E2⟩ := hcase
          obtain ⟨c, C1, C2, C3⟩ := S4 rfl c0 a0 a1
          exact ⟨s, c, R1 hN, E1 c C1, fun h => ⟨E2 c (C2 h).1, (C2 h).2.1, by have := (C2 h).2.2; omega⟩, C3⟩
        · refine ⟨false, -1, R2 hN, ?_, (fun h => absurd h (by simp)), fun _ => rfl⟩
          apply ev_succ
          simp only [impl_countRoutes.f]
          refine Ev.bind S2 (ev_pos rfl (ev_ite (fun h1 => Ev.bind hi (ev_neg ?_ (Ev.now _))) (fun h1 => ev_ite (fun h2 => ev_ite (fun h3 => ev_neg (fun h4 => hN (.inr ⟨h1, h2, h3, .inl h4⟩)) (ev_neg (fun h4 => hN (.inr ⟨h1, h2, h3, .inr (by omega)⟩)) (Ev.now _))) (fun _ => Ev.now _)) (fun _ => Ev.now _))))
          rw [hb, Bool.true_and, Bool.and_eq_true, decide_eq_true_eq, decide_eq_true_eq]
          exact fun h => hN (.inl ⟨h1, h.1, h.2⟩)
    · refine ⟨false, -1, right_many t top _ (by omega) hr, ?_, (fun h => absurd h (by simp)), fun _ => rfl⟩
      apply ev_succ
      simp only [impl_countRoutes.f, impl_kidsOK.f]
      exact Ev.bind (ev_pos (by omega) (Ev.now _)) (ev_neg (by simp) (Ev.now _))
theorem trieOK_ev (t : S90) (hm : nd t ≤ 2000000) (hB0 : t.f0.toList = [] → B t.f0 = true) : ∃ r, Ev (fun k => spec_TrieOK.f k t.f0 t.f1 t.f2 t.f3 t.f4) r ∧ Ev (fun k => impl_TrieOK.f k t.f0 t.f1 t.f2 t.f3 t.f4) r := by
  unfold spec_TrieOK.f impl_TrieOK.f
  simp only [impl_in, Option.bind_some]
  by_cases h0 : t.f0.toList = []
  · obtain ⟨g, c, G1, G2, G3, G4⟩ := joint B HB (nd t) t true 0 (Nat.le_refl _) hm (hB0 h0) (by omega) (fun _ => h0)
    cases g with
    | true =>
      obtain ⟨G5, G6, G7⟩ := G3 rfl
      exact ⟨decide (c ≤ 60), Ev.bind G1 (ev_pos rfl (Ev.bind G5 (Ev.now _))), ev_pos h0 (Ev.bind G2 (ev_fin (decide_eq_decide.mpr (by omega))))⟩
    | false =>
      have := G4 rfl
      exact ⟨false, Ev.bind G1 (ev_neg (by simp) (Ev.now _)), ev_pos h0 (Ev.bind G2 (ev_fin (decide_eq_false (by omega))))⟩
  · exact ⟨false, Ev.bind (right_top B HB t 0 h0) (ev_neg (by simp) (Ev.now _)), ev_neg h0 (Ev.now _)⟩
end
/-! ### Tries: sizes, copies, comparing -/
mutual
def conv : S85 → S90
  | ⟨a, b, c, d, l⟩ => ⟨a, b, c, d, convS l⟩
def convS : List S85 → List S90
  | [] => []
  | x :: l => conv x :: convS l
end
mutual
def wt : S90 → Nat
  | ⟨a, _, _, _, l⟩ => a.size + l.length + wts l
def wts : List S90 → Nat
  | [] => 0
  | x :: l => wt x + wts l
end
theorem conv_eq (x : S85) : conv x = ⟨x.f0, x.f1, x.f2, x.f3, convS x.f4⟩ := by
  cases x
  simp [conv]
theorem wt_eq (y : S90) : wt y = y.f0.size + y.f4.length + wts y.f4 := by
  cases y
  simp [wt]
theorem convS_map (l : List S85) : convS l = l.map conv := by
  induction l with
  | nil => rfl
  | cons a l ih => simp [convS, ih]
theorem convS_length (l : List S85) : (convS l).length = l.length := by rw [convS_map, List.length_map]
theorem rd85 (l : List S85) (i : Nat) (h : i < l.length) : rd_T85 l (i : Int) = l[i] := by
  simp [rd_T85, List.getD_eq_getElem?_getD, List.getElem?_eq_getElem h]
theorem rd90 (l : List S85) (i : Nat) (h : i < l.length) : rd_T90 (convS l) (i : Int) = conv l[i] := by
  rw [convS_map]
  simp [rd_T90, List.getD_eq_getElem?_getD, List.getElem?_eq_getElem h]
theorem wts_kid (l : List S85) (i : Nat) (h : i < l.length) : wt (conv l[i]) ≤ wts (convS l) := by
  induction l generalizing i with
  | nil => simp at h
  | cons a l ih =>
    cases i with
    | zero => simp [convS, wts]
    | succ i =>
      have := ih i (by simpa using h)
      simp only [List.getElem_cons_succ, convS, wts]
      omega
mutual
theorem nd_le : (y : S90) → nd y ≤ 1 + wt y
  | ⟨a, b, c, d, l⟩ => by
    have := nds_le l
    simp only [nd, wt]
    omega
theorem nds_le : (l : List S90) → nds l ≤ l.length + wts l
  | [] => by simp [nds]
  | x :: l => by
    have := nd_le x
    have := nds_le l
    simp only [nds, wts, List.length_cons]
    omega
end
def SzP (x : S85) : Prop := ∀ a : Int, 0 ≤ a → a ≤ 1048576 → ∃ r, Ev (fun k => laws_szTrie.f k x.f0 x.f1 x.f2 x.f3 x.f4 a) r ∧ (r < 0 ∨ (0 ≤ r ∧ r + (wt (conv x) : Int) ≤ a))
theorem szS_loop (l : List S85) (hq : ∀ y ∈ l, SzP y) (hl : l.length ≤ 1048576) (d : Nat) : ∀ (i : Nat) (a : Int), i + d = l.length → 0 ≤ a → a ≤ 1048576 → ∃ r, Ev (fun k => laws_szTrieS.l0 k l a i) r ∧ (r < 0 ∨ (0 ≤ r ∧ r + (wts (convS (l.drop i)) : Int) ≤ a)) := by
  induction d with
  | zero =>
    intro i a h a0 a1
    refine ⟨a, ?_, .inr ⟨a0, ?_⟩⟩
    · apply ev_succ
      simp only [laws_szTrieS.l0]
      exact ev_neg (by omega) (Ev.now _)
    · rw [List.drop_eq_nil_of_le (by omega)]
      simp [convS, wts]
  | succ d ih =>
    intro i a h a0 a1
    have hi : i < l.length := by omega
    have hw : wrap64 ((i : Int) + 1) = ((i + 1 : Nat) : Int) := by rw [wrap64_in (by omega) (by omega)]; omega
    obtain ⟨r, e, hr⟩ := hq l[i] (List.getElem_mem hi) a a0 a1
    by_cases c : r < 0
    · refine ⟨-1, ?_, .inl (by omega)⟩
      apply ev_succ
      simp only [laws_szTrieS.l0, rd85 l i hi]
      exact ev_pos (by omega) (ev_pos (by omega) (Ev.bind e (ev_pos c (Ev.now _))))
    · obtain ⟨r0, r1⟩ := hr.resolve_left c
      obtain ⟨r', g, hg⟩ := ih (i + 1) r (by omega) r0 (by omega)
      refine ⟨r', ?_, ?_⟩
      · apply ev_succ
        simp only [laws_szTrieS.l0, rd85 l i hi, hw]
        exact ev_pos (by omega) (ev_pos (by omega) (Ev.bind e (ev_neg c g)))
      · rcases hg with hg | ⟨g0, g1⟩
        · exact .inl hg
        · refine .inr ⟨g0, ?_⟩
          rw [List.drop_eq_getElem_cons hi]
          simp only [convS, wts]
          omega
theorem szS_ev (l : List S85) (hq : ∀ y ∈ l, SzP y) (hl : l.length ≤ maxLen) (a : Int) (a0 : 0 ≤ a) (a1 : a ≤ 1048576) : ∃ r, Ev (fun k => laws_szTrieS.f k l a) r ∧ (r < 0 ∨ (0 ≤ r ∧ r + (l.length : Int) + (wts (convS l) : Int) ≤ a)) := by
  unfold maxLen at hl
  have hw : wrap64 (a - (l.length : Int)) = a - (l.length : Int) := wrap64_in (by omega) (by omega)
  by_cases c : a - (l.length : Int) < 0
  · refine ⟨-1, ?_, .inl (by omega)⟩
    apply ev_succ
    simp only [laws_szTrieS.f, hw]
    exact ev_pos c (Ev.now _)
  · obtain ⟨r, g, hg⟩ := szS_loop l hq (by omega) l.length 0 (a - (l.length : Int)) (by omega) (by omega) (by omega)
    refine ⟨r, ?_, ?_⟩
    · apply ev_succ
      simp only [laws_szTrieS.f, hw]
      exact ev_neg c g
    · rcases hg with hg | ⟨g0, g1⟩
      · exact .inl hg
      · rw [List.drop_zero] at g1
        exact .inr ⟨g0, by omega⟩
theorem szP (x : S85) (h : OK85 x) : SzP x := by
  refine h SzP ?_
  intro z h0 _ _ _ h4 a a0 a1
  unfold maxLen at h0
  have hw : wrap64 (a - (z.f0.size : Int)) = a - (z.f0.size : Int) := wrap64_in (by omega) (by omega)
  by_cases c : a - (z.f0.size : Int) < 0
  · refine ⟨-1, ?_, .inl (by omega)⟩
    apply ev_succ
    simp only [laws_szTrie.f, hw]
    exact ev_pos c (Ev.now _)
  · obtain ⟨r, g, hg⟩ := szS_ev z.f4 h4.2 h4.1 (a - (z.f0.size : Int)) (by omega) (by omega)
    by_cases c2 : r < 0
    · refine ⟨-1, ?_, .inl (by omega)⟩
      apply ev_succ
      simp only [laws_szTrie.f, hw]
      exact ev_neg c (Ev.bind g (ev_pos c2 (Ev.now _)))
    · obtain ⟨g0, g1⟩ := hg.resolve_left c2
      refine ⟨r, ?_, .inr ⟨g0, ?_⟩⟩
      · apply ev_succ
        simp only [laws_szTrie.f, hw]
        exact ev_neg c (Ev.bind g (ev_neg c2 (Ev.now _)))
      · rw [wt_eq, conv_eq]
        show r + ((z.f0.size + (convS z.f4).length + wts (convS z.f4) : Nat) : Int) ≤ a
        rw [convS_length]
        omega
def ToP (x : S85) : Prop := wt (conv x) ≤ 1048576 → Ev (fun k => laws_toTrie.f k x.f0 x.f1 x.f2 x.f3 x.f4) (x.f0, x.f1, x.f2, x.f3, convS x.f4)
theorem toS_loop (l : List S85) (hq : ∀ y ∈ l, ToP y) (hl : l.length ≤ 1048576) (hw0 : wts (convS l) ≤ 1048576) (d : Nat) : ∀ (acc : List S90) (i : Nat), acc.length = l.length → acc.take i = (convS l).take i → i + d = l.length → Ev (fun k => laws_toTrieS.l0 k l acc i) (convS l) := by
  have hcl := convS_length l
  induction d with
  | zero =>
    intro acc i h1 h2 h3
    have e : acc = convS l := by
      rw [List.take_of_length_le (by omega), List.take_of_length_le (by omega)] at h2
      exact h2
    subst e
    apply ev_succ
    simp only [laws_toTrieS.l0]
    exact ev_neg (by omega) (Ev.now _)
  | succ d ih =>
    intro acc i h1 h2 h3
    have hi : i < l.length := by omega
    have hj : i < acc.length := by omega
    have hw : wrap64 ((i : Int) + 1) = ((i + 1 : Nat) : Int) := by rw [wrap64_in (by omega) (by omega)]; omega
    have hk := hq l[i] (List.getElem_mem hi) (by have := wts_kid l i hi; omega)
    apply ev_succ
    simp only [laws_toTrieS.l0, hw, rd85 l i hi]
    refine ev_pos (by omega) (ev_pos (by omega) (Ev.bind hk (ev_pos (by omega) ?_)))
    refine ih _ (i + 1) (by simp [h1]) ?_ (by omega)
    rw [List.take_succ_eq_append_getElem (by simpa using hj), List.take_succ_eq_append_getElem (by omega)]
    have hc : (convS l)[i]'(by omega) = conv l[i] := by simp [convS_map]
    rw [hc, conv_eq]
    simp [List.take_set_of_le, h2]
theorem toS_ev (l : List S85) (hq : ∀ y ∈ l, ToP y) (hl : l.length ≤ 1048576) (hw0 : wts (convS l) ≤ 1048576) : Ev (fun k => laws_toTrieS.f k l) (convS l) := by
  apply ev_succ
  simp only [laws_toTrieS.f]
  refine ev_pos (by omega) (ev_pos (by omega) ?_)
  exact toS_loop l hq hl hw0 l.length _ 0 (by simp) (by simp) (by omega)
theorem toP (x : S85) (h : OK85 x) : ToP x := by
  refine h ToP ?_
  intro z _ _ _ _ h4 hz
  rw [wt_eq, conv_eq] at hz
  have hz : z.f0.size + (convS z.f4).length + wts (convS z.f4) ≤ 1048576 := hz
  rw [convS_length] at hz
  apply ev_succ
  simp only [laws_toTrie.f]
  exact Ev.bind (toS_ev z.f4 h4.2 (by omega) (by omega)) (Ev.now _)
def EqP (x : S85) : Prop := wt (conv x) ≤ 1048576 → Ev (fun k => laws_eqTrie.f k (conv x).f0 (conv x).f1 (conv x).f2 (conv x).f3 (conv x).f4 (conv x).f0 (conv x).f1 (conv x).f2 (conv x).f3 (conv x).f4) true
theorem eqS_loop (l : List S85) (hq : ∀ y ∈ l, EqP y) (hl : l.length ≤ 1048576) (hw0 : wts (convS l) ≤ 1048576) (d : Nat) : ∀ (i : Nat), i + d = l.length → Ev (fun k => laws_eqTrieS.l0 k (convS l) (convS l) i) true := by
  have hcl := convS_length l
  induction d with
  | zero =>
    intro i h
    apply ev_succ
    simp only [laws_eqTrieS.l0]
    exact ev_neg (by omega) (Ev.now _)
  | succ d ih =>
    intro i h
    have hi : i < l.length := by omega
    have hw : wrap64 ((i : Int) + 1) = ((i + 1 : Nat) : Int) := by rw [wrap64_in (by omega) (by omega)]; omega
    have hk := hq l[i] (List.getElem_mem hi) (by have := wts_kid l i hi; omega)
    apply ev_succ
    simp only [laws_eqTrieS.l0, hw, rd90 l i hi]
    exact ev_pos (by omega) (ev_pos (by omega) (ev_pos (by omega) (Ev.bind hk (ev_pos rfl (ih (i + 1) (by omega))))))
theorem eqP (x : S85) (h : OK85 x) : EqP x := by
  refine h EqP ?_
  intro z _ _ _ _ h4 hz
  have hz2 := hz
  rw [wt_eq, conv_eq] at hz2
  have hz2 : z.f0.size + (convS z.f4).length + wts (convS z.f4) ≤ 1048576 := hz2
  rw [convS_length] at hz2
  have hS : Ev (fun k => laws_eqTrieS.f k (convS z.f4) (convS z.f4)) true := by
    apply ev_succ
    simp only [laws_eqTrieS.f]
    exact ev_pos trivial (eqS_loop z.f4 h4.2 (by omega) (by omega) z.f4.length 0 (by omega))
  rw [conv_eq]
  apply ev_succ
  simp only [laws_eqTrie.f]
  exact ev_pos trivial (ev_neg (by simp) (ev_pos trivial (ev_pos trivial (Ev.bind hS (ev_pos rfl (Ev.now _))))))
theorem ev_unique {α : Type} {g : Nat → Option α} {r r' : α} (h : Ev g r) (h' : Ev g r') : r = r' := by
  obtain ⟨k, h⟩ := h
  obtain ⟨k', h'⟩ := h'
  have h1 := h (max k k') (by omega)
  have h2 := h' (max k k') (by omega)
  exact Option.some.inj (h1.symm.trans h2)
theorem empty_iff (s : ByteArray) : s.toList = [] ↔ s.size = 0 := by
  have h := decide_eq_emptyBytes s
  constructor
  · intro e
    rw [e] at h
    have : s = ByteArray.empty := of_decide_eq_true (h.trans rfl)
    rw [this]
    rfl
  · intro e
    have : s = ByteArray.empty := ByteArray.ext (Array.size_eq_zero_iff.mp e)
    rw [decide_eq_true this] at h
    exact List.isEmpty_iff.mp h.symm
theorem bits_fun : ∃ B : ByteArray → Bool, ∀ s, Ev (fun k => spec_l02Bits.f k s) (B s) ∧ Ev (fun k => impl_bitsOK.f k s) (B s) ∧ (B s = true → s.size ≤ 128) := by
  have h : ∀ s, ∃ r, Ev (fun k => spec_l02Bits.f k s) r ∧ Ev (fun k => impl_bitsOK.f k s) r ∧ (r = true → s.size ≤ 128) := by
    intro s
    obtain ⟨r, g1, g2⟩ := bits_same s
    refine ⟨r, g1, g2, fun hr => ?_⟩
    by_cases c : (s.size : Int) > 128
    · have g3 : Ev (fun k => spec_l02Bits.f k s) false := by
        unfold spec_l02Bits.f
        exact ev_pos c (Ev.now _)
      rw [ev_unique g1 g3] at hr
      cases hr
    · omega
  exact ⟨fun s => (h s).choose, fun s => (h s).choose_spec⟩
theorem bits_empty {B : ByteArray → Bool} {s : ByteArray} (h : Ev (fun k => spec_l02Bits.f k s) (B s)) (hs : s.toList = []) : B s = true := by
  have hz := (empty_iff s).mp hs
  refine ev_unique h ?_
  unfold spec_l02Bits.f
  refine ev_neg (by omega) ?_
  apply ev_succ
  simp only [spec_l02Bits.l0]
  exact ev_neg (by omega) (Ev.now _)
/-! ### Nodes -/
theorem szIntS_ev (l : List Int) (a : Int) : laws_szIntS.f l a = some (if wrap64 (a - (l.length : Int)) < 0 then -1 else wrap64 (a - (l.length : Int))) := by
  unfold laws_szIntS.f
  split <;> rfl
theorem rdStr (l : List ByteArray) (i : Nat) (h : i < l.length) : rdOf ByteArray.empty l (i : Int) = l[i] := by
  simp [rdOf, List.getD_eq_getElem?_getD, List.getElem?_eq_getElem h]
theorem szStrS_loop (l : List ByteArray) (hk : ∀ x ∈ l, x.size ≤ maxLen) (hl : l.length ≤ 1048576) (d : Nat) : ∀ (i : Nat) (a : Int), i + d = l.length → 0 ≤ a → a ≤ 1048576 → ∃ r, Ev (fun k => laws_szStringS.l0 k l a i) r ∧ (r < 0 ∨ (0 ≤ r ∧ r ≤ 1048576)) := by
  induction d with
  | zero =>
    intro i a h a0 a1
    refine ⟨a, ?_, .inr ⟨a0, a1⟩⟩
    apply ev_succ
    simp only [laws_szStringS.l0]
    exact ev_neg (by omega) (Ev.now _)
  | succ d ih =>
    intro i a h a0 a1
    have hi : i < l.length := by omega
    have hw : wrap64 ((i : Int) + 1) = ((i + 1 : Nat) : Int) := by rw [wrap64_in (by omega) (by omega)]; omega
    have hs := hk l[i] (List.getElem_mem hi)
    unfold maxLen at hs
    have hq : wrap64 (a - (l[i].size : Int)) = a - (l[i].size : Int) := wrap64_in (by omega) (by omega)
    by_cases c : a - (l[i].size : Int) < 0
    · refine ⟨-1, ?_, .inl (by omega)⟩
      apply ev_succ
      simp only [laws_szStringS.l0, rdStr l i hi, hq]
      exact ev_pos (by omega) (ev_pos (by omega) (ev_pos c (Ev.now _)))
    · obtain ⟨r, g, hg⟩ := ih (i + 1) (a - (l[i].size : Int)) (by omega) (by omega) (by omega)
      refine ⟨r, ?_, hg⟩
      apply ev_succ
      simp only [laws_szStringS.l0, rdStr l i hi, hq, hw]
      exact ev_pos (by omega) (ev_pos (by omega) (ev_neg c g))
theorem szStrS_ev (l : List ByteArray) (hk : ∀ x ∈ l, x.size ≤ maxLen) (hl : l.length ≤ maxLen) (a : Int) (a0 : 0 ≤ a) (a1 : a ≤ 1048576) : ∃ r, Ev (fun k => laws_szStringS.f k l a) r ∧ (r < 0 ∨ (0 ≤ r ∧ r ≤ 1048576) ∧ l.length ≤ 1048576) := by
  unfold maxLen at hl
  unfold laws_szStringS.f
  simp only [wrap64_in (n := a - (l.length : Int)) (by omega) (by omega)]
  by_cases c : a - (l.length : Int) < 0
  · exact ⟨-1, ev_pos c (Ev.now _), .inl (by omega)⟩
  · obtain ⟨r, g, hg⟩ := szStrS_loop l hk (by omega) l.length 0 (a - (l.length : Int)) (by omega) (by omega) (by omega)
    exact ⟨r, ev_neg c g, hg.imp id fun h => ⟨h, by omega⟩⟩
theorem toIntS_loop (l : List Int) (hl : l.length ≤ 1048576) (d : Nat) : ∀ (acc : List Int) (i : Nat), acc.length = l.length → acc.take i = l.take i → i + d = l.length → Ev (fun k => laws_toIntS.l0 k l acc i) l := by
  induction d with
  | zero =>
    intro acc i h1 h2 h3
    have e : acc = l := by
      rw [List.take_of_length_le (by omega), List.take_of_length_le (by omega)] at h2
      exact h2
    subst e
    apply ev_succ
    simp only [laws_toIntS.l0]
    exact ev_neg (by omega) (Ev.now _)
  | succ d ih =>
    intro acc i h1 h2 h3
    have hw : wrap64 ((i : Int) + 1) = ((i + 1 : Nat) : Int) := by rw [wrap64_in (by omega) (by omega)]; omega
    apply ev_succ
    simp only [laws_toIntS.l0, hw]
    refine ev_pos (by omega) (ev_pos (by omega) (ev_pos (by omega) ?_))
    refine ih _ (i + 1) (by simp [h1]) ?_ (by omega)
    have hi : i < l.length := by omega
    have hj : i < acc.length := by omega
    rw [List.take_succ_eq_append_getElem (by simpa using hj), List.take_succ_eq_append_getElem hi, rd_at l rfl hi]
    simp [List.take_set_of_le, h2]
theorem toIntS_ev {l : List Int} (hl : l.length ≤ 1048576) : Ev (fun k => laws_toIntS.f k l) l := by
  unfold laws_toIntS.f
  refine ev_pos (by omega) (ev_pos (by omega) ?_)
  exact toIntS_loop l hl l.length _ 0 (by simp) (by simp) (by omega)
theorem toStrS_loop (l : List ByteArray) (hl : l.length ≤ 1048576) (d : Nat) : ∀ (acc : List ByteArray) (i : Nat), acc.length = l.length → acc.take i = l.take i → i + d = l.length → Ev (fun k => laws_toStringS.l0 k l acc i) l := by
  induction d with
  | zero =>
    intro acc i h1 h2 h3
    have e : acc = l := by
      rw [List.take_of_length_le (by omega), List.take_of_length_le (by omega)] at h2
      exact h2
    subst e
    apply ev_succ
    simp only [laws_toStringS.l0]
    exact ev_neg (by omega) (Ev.now _)
  | succ d ih =>
    intro acc i h1 h2 h3
    have hi : i < l.length := by omega
    have hj : i < acc.length := by omega
    have hw : wrap64 ((i : Int) + 1) = ((i + 1 : Nat) : Int) := by rw [wrap64_in (by omega) (by omega)]; omega
    apply ev_succ
    simp only [laws_toStringS.l0, hw, rdStr l i hi]
    refine ev_pos (by omega) (ev_pos (by omega) (ev_pos (by omega) ?_))
    refine ih _ (i + 1) (by simp [h1]) ?_ (by omega)
    rw [List.take_succ_eq_append_getElem (by simpa using hj), List.take_succ_eq_append_getElem hi]
    simp [List.take_set_of_le, h2]
theorem toStrS_ev {l : List ByteArray} (hl : l.length ≤ 1048576) : Ev (fun k => laws_toStringS.f k l) l := by
  unfold laws_toStringS.f
  refine ev_pos (by omega) (ev_pos (by omega) ?_)
  exact toStrS_loop l hl l.length _ 0 (by simp) (by simp) (by omega)
theorem eqIntS_loop (l : List Int) (hl : l.length ≤ 1048576) (d : Nat) : ∀ (i : Nat), i + d = l.length → Ev (fun k => laws_eqIntS.l0 k l l i) true := by
  induction d with
  | zero =>
    intro i h
    apply ev_succ
    simp only [laws_eqIntS.l0]
    exact ev_neg (by omega) (Ev.now _)
  | succ d ih =>
    intro i h
    have hw : wrap64 ((i : Int) + 1) = ((i + 1 : Nat) : Int) := by rw [wrap64_in (by omega) (by omega)]; omega
    apply ev_succ
    simp only [laws_eqIntS.l0, hw]
    exact ev_pos (by omega) (ev_pos (by omega) (ev_pos (by omega) (ev_pos trivial (ih (i + 1) (by omega)))))
theorem eqIntS_ev {l : List Int} (hl : l.length ≤ 1048576) : Ev (fun k => laws_eqIntS.f k l l) true := by
  unfold laws_eqIntS.f
  exact ev_pos rfl (eqIntS_loop l hl l.length 0 (by omega))
theorem eqStrS_loop (l : List ByteArray) (hl : l.length ≤ 1048576) (d : Nat) : ∀ (i : Nat), i + d = l.length → Ev (fun k => laws_eqStringS.l0 k l l i) true := by
  induction d with
  | zero =>
    intro i h
    apply ev_succ
    simp only [laws_eqStringS.l0]
    exact ev_neg (by omega) (Ev.now _)
  | succ d ih =>
    intro i h
    have hw : wrap64 ((i : Int) + 1) = ((i + 1 : Nat) : Int) := by rw [wrap64_in (by omega) (by omega)]; omega
    apply ev_succ
    simp only [laws_eqStringS.l0, hw]
    exact ev_pos (by omega) (ev_pos (by omega) (ev_pos (by omega) (ev_pos trivial (ih (i + 1) (by omega)))))
theorem eqStrS_ev {l : List ByteArray} (hl : l.length ≤ 1048576) : Ev (fun k => laws_eqStringS.f k l l) true := by
  unfold laws_eqStringS.f
  exact ev_pos rfl (eqStrS_loop l hl l.length 0 (by omega))
/-! ### The longest row of bits -/
theorem longest_loop (t : S90) (hl : t.f4.length ≤ 2000000) (hq : ∀ i : Nat, i < t.f4.length → ∃ m : Int, Ev (fun k => impl_longest.f k (rd_T90 t.f4 (i : Int)).f0 (rd_T90 t.f4 (i : Int)).f1 (rd_T90 t.f4 (i : Int)).f2 (rd_T90 t.f4 (i : Int)).f3 (rd_T90 t.f4 (i : Int)).f4) m ∧ Ev (fun k => spec_l07Bits.f k (rd_T90 t.f4 (i : Int)).f0 (rd_T90 t.f4 (i : Int)).f1 (rd_T90 t.f4 (i : Int)).f2 (rd_T90 t.f4 (i : Int)).f3 (rd_T90 t.f4 (i : Int)).f4 32) (decide (m ≤ 32))) (d : Nat) :
    ∀ (i : Nat) (c : Int), i + d = t.f4.length → ∃ (M : Int) (b : Bool), Ev (fun k => impl_longest.l0 k c t.f4 t.f4.length i) M ∧ Ev (fun k => spec_l07Bits.l0 k 32 i t.f0 t.f1 t.f2 t.f3 t.f4) b ∧ c ≤ M ∧ (c ≤ 32 → (b = true ↔ M ≤ 32)) := by
  induction d with
  | zero =>
    intro i c h
    refine ⟨c, true, ?_, ?_, Int.le_refl _, fun hc => ⟨fun _ => hc, fun _ => rfl⟩⟩
    · apply ev_succ
      simp only [impl_longest.l0]
      exact ev_neg (by omega) (Ev.now _)
    · apply ev_succ
      simp only [spec_l07Bits.l0]
      exact ev_neg (by omega) (Ev.now _)
  | succ d ih =>
    intro i c h
    have hi : i < t.f4.length := by omega
    have hw : wrap64 ((i : Int) + 1) = ((i + 1 : Nat) : Int) := by rw [wrap64_in (by omega) (by omega)]; omega
    obtain ⟨m, g1, g2⟩ := hq i hi
    obtain ⟨M, b, k1, k2, k3, k4⟩ := ih (i + 1) (mx c m) (by omega)
    have hmx : c ≤ mx c m ∧ m ≤ mx c m ∧ (mx c m = c ∨ mx c m = m) := by
      unfold mx
      omega
    by_cases hm : m ≤ 32
    · rw [decide_eq_true hm] at g2
      refine ⟨M, b, ?_, ?_, by omega, fun hc => k4 (by omega)⟩
      · apply ev_succ
        simp only [impl_longest.l0, hw]
        exact ev_pos (by omega) (ev_pos (by omega) (ev_pos (by omega) (Ev.bind g1 k1)))
      · apply ev_succ
        simp only [spec_l07Bits.l0, hw]
        exact ev_pos (by omega) (ev_pos (by omega) (Ev.bind g2 (ev_pos rfl k2)))
    · rw [decide_eq_false hm] at g2
      refine ⟨M, false, ?_, ?_, by omega, fun hc => ⟨fun h => absurd h (by simp), fun h => by omega⟩⟩
      · apply ev_succ
        simp only [impl_longest.l0, hw]
        exact ev_pos (by omega) (ev_pos (by omega) (ev_pos (by omega) (Ev.bind g1 k1)))
      · apply ev_succ
        simp only [spec_l07Bits.l0, hw]
        exact ev_pos (by omega) (ev_pos (by omega) (Ev.bind g2 (ev_neg (by simp) (Ev.now _))))
theorem nds_length (l : List S90) : l.length ≤ nds l := by
  induction l with
  | nil => simp
  | cons a l ih =>
    have := nd_eq a
    simp only [List.length_cons, nds]
    omega
theorem longest_ev (n : Nat) : ∀ t : S90, nd t ≤ n → nd t ≤ 2000000 → ∃ m : Int, Ev (fun k => impl_longest.f k t.f0 t.f1 t.f2 t.f3 t.f4) m ∧ Ev (fun k => spec_l07Bits.f k t.f0 t.f1 t.f2 t.f3 t.f4 32) (decide (m ≤ 32)) := by
  induction n with
  | zero =>
    intro t h
    have := nd_eq t
    omega
  | succ n ih =>
    intro t hn hm
    have hnd := nd_eq t
    have hll := nds_length t.f4
    obtain ⟨M, b, k1, k2, k3, k4⟩ := longest_loop t (by omega) (fun i hi => ih _ (by have := nd_kid hi; omega) (by have := nd_kid hi; omega)) t.f4.length 0 (t.f0.size : Int) (by omega)
    refine ⟨M, ?_, ?_⟩
    · apply ev_succ
      simp only [impl_longest.f]
      exact k1
    · apply ev_succ
      simp only [spec_l07Bits.f]
      refine ev_ite (fun c => ev_fin (decide_eq_false (by omega)).symm) (fun c => ev_eq k2 ?_)
      rw [Bool.eq_iff_iff, decide_eq_true_iff]
      exact k4 (by omega)
/-! ### The node's own lists -/
section
variable (x y : S90) (own : List ByteArray) (mtus : List Int)
theorem own_loop (hl : own.length ≤ 8) (d : Nat) : ∀ (i : Nat) (six : Bool), i + d = own.length → ∃ r, Ev (fun k => spec_NodeOK.l1 k six i x.f0 x.f1 x.f2 x.f3 x.f4 y.f0 y.f1 y.f2 y.f3 y.f4 own mtus) r ∧ Ev (fun k => impl_NodeOK.l1 k six own own.length i) r := by
  induction d with
  | zero =>
    intro i six h
    refine ⟨six, ?_, ?_⟩
    · apply ev_succ
      simp only [spec_NodeOK.l1]
      exact ev_neg (by omega) (Ev.now _)
    · apply ev_succ
      simp only [impl_NodeOK.l1]
      exact ev_neg (by omega) (Ev.now _)
  | succ d ih =>
    intro i six h
    have hw : wrap64 ((i : Int) + 1) = ((i + 1 : Nat) : Int) := by rw [wrap64_in (by omega) (by omega)]; omega
    have hA : impl_isAddress.f (rdOf ByteArray.empty own (i : Int)) = some (decide ((rdOf ByteArray.empty own (i : Int)).size = 4 ∨ (rdOf ByteArray.empty own (i : Int)).size = 16)) := by
      unfold impl_isAddress.f
      split
      · rw [decide_eq_true (by omega)]
      · congr 1
        rw [Bool.eq_iff_iff, beq_iff_eq, decide_eq_true_iff]
        omega
    by_cases h4 : (rdOf ByteArray.empty own (i : Int)).size = 4
    · rw [decide_eq_true (.inl h4)] at hA
      have hb : (((rdOf ByteArray.empty own (i : Int)).size : Int) == 16) = false := beq_eq_false_iff_ne.mpr (by omega)
      obtain ⟨r, g1, g2⟩ := ih (i + 1) six (by omega)
      refine ⟨r, ?_, ?_⟩
      · apply ev_succ
        simp only [spec_NodeOK.l1, hw, hb]
        cases six
        · exact ev_pos (by omega) (ev_pos (by omega) (ev_pos (by omega) (ev_neg (by simp) g1)))
        · exact ev_pos (by omega) (ev_pos (by omega) (ev_pos (by omega) (ev_pos rfl g1)))
      · apply ev_succ
        simp only [impl_NodeOK.l1, hw, hb]
        cases six
        · exact ev_pos (by omega) (ev_pos (by omega) (ev_pos (by omega) (ev_bindc hA (ev_pos rfl (ev_neg (by simp) g2)))))
        · exact ev_pos (by omega) (ev_pos (by omega) (ev_pos (by omega) (ev_bindc hA (ev_pos rfl (ev_pos rfl g2)))))
    · by_cases h16 : (rdOf ByteArray.empty own (i : Int)).size = 16
      · rw [decide_eq_true (.inr h16)] at hA
        have hb : (((rdOf ByteArray.empty own (i : Int)).size : Int) == 16) = true := beq_iff_eq.mpr (by omega)
        obtain ⟨r, g1, g2⟩ := ih (i + 1) true (by omega)
        refine ⟨r, ?_, ?_⟩
        · apply ev_succ
          simp only [spec_NodeOK.l1, hw]
          exact ev_pos (by omega) (ev_pos (by omega) (ev_neg (by omega) (ev_pos (by omega) (ev_ite (fun _ => g1) (fun _ => g1)))))
        · apply ev_succ
          simp only [impl_NodeOK.l1, hw, hb]
          exact ev_pos (by omega) (ev_pos (by omega) (ev_pos (by omega) (ev_bindc hA (ev_pos rfl (ev_ite (fun _ => g2) (fun _ => g2))))))
      · rw [decide_eq_false (by omega)] at hA
        refine ⟨false, ?_, ?_⟩
        · apply ev_succ
          simp only [spec_NodeOK.l1]
          exact ev_pos (by omega) (ev_pos (by omega) (ev_neg (by omega) (ev_neg (by omega) (Ev.now _))))
        · apply ev_succ
          simp only [impl_NodeOK.l1]
          exact ev_pos (by omega) (ev_pos (by omega) (ev_pos (by omega) (ev_bindc hA (ev_neg (by simp) (Ev.now _)))))
theorem mtu_loop (hl : own.length ≤ 8) (hm : mtus.length ≤ 6) (d : Nat) : ∀ (i : Nat), i + d = mtus.length → ∃ r, Ev (fun k => spec_NodeOK.l0 k i x.f0 x.f1 x.f2 x.f3 x.f4 y.f0 y.f1 y.f2 y.f3 y.f4 own mtus) r ∧ Ev (fun k => impl_NodeOK.l0 k mtus mtus.length i x.f0 x.f1 x.f2 x.f3 x.f4 y.f0 y.f1 y.f2 y.f3 y.f4 own mtus) r := by
  induction d with
  | zero =>
    intro i h
    obtain ⟨r, g1, g2⟩ := own_loop x y own mtus hl own.length 0 false (by omega)
    refine ⟨r, ?_, ?_⟩
    · apply ev_succ
      simp only [spec_NodeOK.l0]
      exact ev_neg (by omega) g1
    · apply ev_succ
      simp only [impl_NodeOK.l0]
      exact ev_neg (by omega) g2
  | succ d ih =>
    intro i h
    have hw : wrap64 ((i : Int) + 1) = ((i + 1 : Nat) : Int) := by rw [wrap64_in (by omega) (by omega)]; omega
    obtain ⟨r, g1, g2⟩ := ih (i + 1) (by omega)
    by_cases c : 576 ≤ rd mtus (i : Int) ∧ rd mtus (i : Int) ≤ 1520
    · refine ⟨r, ?_, ?_⟩
      · apply ev_succ
        simp only [spec_NodeOK.l0, hw, spec_in, Option.bind_some, decide_eq_true_eq]
        exact ev_pos (by omega) (ev_pos (by omega) (ev_pos c g1))
      · apply ev_succ
        simp only [impl_NodeOK.l0, hw, impl_in, Option.bind_some, decide_eq_true_eq]
        exact ev_pos (by omega) (ev_pos (by omega) (ev_pos (by omega) (ev_pos c g2)))
    · refine ⟨false, ?_, ?_⟩
      · apply ev_succ
        simp only [spec_NodeOK.l0, spec_in, Option.bind_some, decide_eq_true_eq]
        exact ev_pos (by omega) (ev_pos (by omega) (ev_neg c (Ev.now _)))
      · apply ev_succ
        simp only [impl_NodeOK.l0, impl_in, Option.bind_some, decide_eq_true_eq]
        exact ev_pos (by omega) (ev_pos (by omega) (ev_pos (by omega) (ev_neg c (Ev.now _))))
theorem nodeOK_ev (B : ByteArray → Bool) (HB : ∀ s, Ev (fun k => spec_l02Bits.f k s) (B s) ∧ Ev (fun k => impl_bitsOK.f k s) (B s) ∧ (B s = true → s.size ≤ 128)) (hx : nd x ≤ 2000000) (hy : nd y ≤ 2000000) (hown : own.length ≤ 1048576) (hmtu : mtus.length ≤ 1048576) :
    ∃ r, Ev (fun k => spec_NodeOK.f k x.f0 x.f1 x.f2 x.f3 x.f4 y.f0 y.f1 y.f2 y.f3 y.f4 own mtus) r ∧ Ev (fun k => impl_NodeOK.f k x.f0 x.f1 x.f2 x.f3 x.f4 y.f0 y.f1 y.f2 y.f3 y.f4 own mtus) r := by
  obtain ⟨r1, a1, a2⟩ := trieOK_ev B HB x hx (fun h => bits_empty (HB x.f0).1 h)
  obtain ⟨r2, b1, b2⟩ := trieOK_ev B HB y hy (fun h => bits_empty (HB y.f0).1 h)
  obtain ⟨m, m1, m2⟩ := longest_ev (nd x) x (Nat.le_refl _) hx
  have st : Ev (fun k => spec_NodeOK.j0 k true x.f0 x.f1 x.f2 x.f3 x.f4 y.f0 y.f1 y.f2 y.f3 y.f4 own mtus) false := by
    apply ev_succ
    simp only [spec_NodeOK.j0]
    exact ev_pos trivial (Ev.now _)
  have it : Ev (fun k => impl_NodeOK.j0 k true x.f0 x.f1 x.f2 x.f3 x.f4 y.f0 y.f1 y.f2 y.f3 y.f4 own mtus) false := by
    apply ev_succ
    simp only [impl_NodeOK.j0]
    exact ev_pos trivial (Ev.now _)
  have it1 : Ev (fun k => impl_NodeOK.j1 k true x.f0 x.f1 x.f2 x.f3 x.f4 y.f0 y.f1 y.f2 y.f3 y.f4 own mtus) false := by
    apply ev_succ
    simp only [impl_NodeOK.j1]
    exact ev_pos trivial (Ev.now _)
  unfold spec_NodeOK.f impl_NodeOK.f
  cases r1 with
  | false => exact ⟨false, Ev.bind a1 (ev_neg (by simp) st), Ev.bind a2 (ev_neg (by simp) it)⟩
  | true =>
    cases r2 with
    | false => exact ⟨false, Ev.bind a1 (ev_pos rfl (Ev.bind b1 (ev_neg (by simp) st))), Ev.bind a2 (ev_pos rfl (Ev.bind b2 (ev_neg (by simp) it)))⟩
    | true =>
      simp only [spec_in, Option.bind_some, decide_eq_true_eq]
      by_cases c : ((1 ≤ mtus.length ∧ mtus.length ≤ 6) ∧ (1 ≤ own.length ∧ own.length ≤ 8)) ∧ m ≤ 32 ∧ ((rdOf ByteArray.empty own 0).size : Int) = 4
      · obtain ⟨⟨c1, c2⟩, c3, c4⟩ := c
        obtain ⟨r, g1, g2⟩ := mtu_loop x y own mtus c2.2 c1.2 mtus.length 0 (by omega)
        rw [decide_eq_true c3] at m2
        have hb : (((rdOf ByteArray.empty own 0).size : Int) != 4) = false := bne_eq_false_iff_eq.mpr c4
        refine ⟨r, Ev.bind a1 (ev_pos rfl (Ev.bind b1 (ev_pos rfl (ev_pos (by omega) (ev_neg (by omega) (ev_neg (by omega) (Ev.bind m2 (ev_pos rfl (ev_pos (by omega) ?_))))))))), Ev.bind a2 (ev_pos rfl (Ev.bind b2 (ev_pos rfl (Ev.bind m1 ?_))))⟩
        · rw [hb]
          apply ev_succ
          simp only [spec_NodeOK.j0]
          exact ev_neg (by simp) g1
        · rw [decide_eq_false (by omega)]
          apply ev_succ
          simp only [impl_NodeOK.j0, impl_in, Option.bind_some, decide_eq_true_eq, hb]
          refine ev_neg (by simp) (ev_pos (by omega) (ev_pos (by omega) (ev_pos (by omega) ?_)))
          apply ev_succ
          simp only [impl_NodeOK.j1]
          exact ev_neg (by simp) g2
      · refine ⟨false, Ev.bind a1 (ev_pos rfl (Ev.bind b1 (ev_pos rfl (ev_ite (fun c1 => ev_ite (fun _ => st) (fun c2 => ev_ite (fun _ => st) (fun c3 => Ev.bind m2 (ev_ite (fun c4 => ev_pos (by omega) ?_) (fun _ => st))))) (fun _ => st))))), Ev.bind a2 (ev_pos rfl (Ev.bind b2 (ev_pos rfl (Ev.bind m1 ?_))))⟩
        · have hm : m ≤ 32 := of_decide_eq_true c4
          have hb : (((rdOf ByteArray.empty own 0).size : Int) != 4) = true := bne_iff_ne.mpr (fun h => c ⟨⟨by omega, by omega⟩, hm, h⟩)
          rw [hb]
          exact st
        · by_cases c5 : m > 32
          · rw [decide_eq_true c5]
            exact it
          · rw [decide_eq_false c5]
            apply ev_succ
            simp only [impl_NodeOK.j0, impl_in, Option.bind_some, decide_eq_true_eq]
            refine ev_neg (by simp) (ev_ite (fun c6 => ev_ite (fun c7 => ev_pos (by omega) ?_) (fun _ => it1)) (fun _ => it1))
            have hb : (((rdOf ByteArray.empty own 0).size : Int) != 4) = true := bne_iff_ne.mpr (fun h => c ⟨⟨by omega, by omega⟩, by omega, h⟩)
            rw [hb]
            exact it1
end

theorem FnExactNodeOK : Says := by
  intro x y own mtus hx hy ho hm
  refine Ev.rounds (g := fun k => laws_FnExactNodeOK.f k x.f0 x.f1 x.f2 x.f3 x.f4 y.f0 y.f1 y.f2 y.f3 y.f4 own mtus) ?_
  unfold laws_FnExactNodeOK.f
  have sz : ∃ r, Ev (fun k => laws_szNode.f k x.f0 x.f1 x.f2 x.f3 x.f4 y.f0 y.f1 y.f2 y.f3 y.f4 own mtus 1048576) r ∧ (r < 0 ∨ wt (conv x) ≤ 1048576 ∧ wt (conv y) ≤ 1048576 ∧ own.length ≤ 1048576 ∧ mtus.length ≤ 1048576) := by
    unfold laws_szNode.f
    obtain ⟨r1, g1, h1⟩ := szP x hx 1048576 (by omega) (by omega)
    by_cases c1 : r1 < 0
    · exact ⟨-1, Ev.bind g1 (ev_pos c1 (Ev.now _)), .inl (by omega)⟩
    · obtain ⟨p1, q1⟩ := h1.resolve_left c1
      obtain ⟨r2, g2, h2⟩ := szP y hy r1 p1 (by omega)
      by_cases c2 : r2 < 0
      · exact ⟨-1, Ev.bind g1 (ev_neg c1 (Ev.bind g2 (ev_pos c2 (Ev.now _)))), .inl (by omega)⟩
      · obtain ⟨p2, q2⟩ := h2.resolve_left c2
        obtain ⟨r3, g3, h3⟩ := szStrS_ev own ho.2 ho.1 r2 p2 (by omega)
        by_cases c3 : r3 < 0
        · exact ⟨-1, Ev.bind g1 (ev_neg c1 (Ev.bind g2 (ev_neg c2 (Ev.bind g3 (ev_pos c3 (Ev.now _)))))), .inl (by omega)⟩
        · obtain ⟨⟨p3, q3⟩, l3⟩ := h3.resolve_left c3
          have hml := hm.1
          unfold maxLen at hml
          have hw : wrap64 (r3 - (mtus.length : Int)) = r3 - (mtus.length : Int) := wrap64_in (by omega) (by omega)
          have g4 := szIntS_ev mtus r3
          rw [hw] at g4
          by_cases c4 : r3 - (mtus.length : Int) < 0
          · rw [if_pos c4] at g4
            exact ⟨-1, Ev.bind g1 (ev_neg c1 (Ev.bind g2 (ev_neg c2 (Ev.bind g3 (ev_neg c3 (ev_bindc g4 (ev_pos (by omega) (Ev.now _)))))))), .inl (by omega)⟩
          · rw [if_neg c4] at g4
            exact ⟨_, Ev.bind g1 (ev_neg c1 (Ev.bind g2 (ev_neg c2 (Ev.bind g3 (ev_neg c3 (ev_bindc g4 (ev_neg c4 (Ev.now _)))))))), .inr ⟨by omega, by omega, l3, by omega⟩⟩
  obtain ⟨r, g, hr⟩ := sz
  refine Ev.bind g (ev_ite (fun _ => Ev.now _) (fun hn => ?_))
  obtain ⟨w1, w2, w3, w4⟩ := hr.resolve_left hn
  have nd1 : ∀ z : S85, wt (conv z) ≤ 1048576 → nd (⟨z.f0, z.f1, z.f2, z.f3, convS z.f4⟩ : S90) ≤ 2000000 := by
    intro z hz
    have h1 := nds_le (convS z.f4)
    rw [wt_eq, conv_eq] at hz
    have hz : z.f0.size + (convS z.f4).length + wts (convS z.f4) ≤ 1048576 := hz
    simp only [nd]
    omega
  have tn : Ev (fun k => laws_toNode.f k x.f0 x.f1 x.f2 x.f3 x.f4 y.f0 y.f1 y.f2 y.f3 y.f4 own mtus) (x.f0, x.f1, x.f2, x.f3, convS x.f4, y.f0, y.f1, y.f2, y.f3, convS y.f4, own, mtus) := by
    unfold laws_toNode.f
    exact Ev.bind (toP x hx w1) (Ev.bind (toP y hy w2) (Ev.bind (toStrS_ev w3) (Ev.bind (toIntS_ev w4) (Ev.now _))))
  have e1 := eqP x hx w1
  have e2 := eqP y hy w2
  rw [conv_eq] at e1 e2
  have en : Ev (fun k => laws_eqNode.f k x.f0 x.f1 x.f2 x.f3 (convS x.f4) y.f0 y.f1 y.f2 y.f3 (convS y.f4) own mtus x.f0 x.f1 x.f2 x.f3 (convS x.f4) y.f0 y.f1 y.f2 y.f3 (convS y.f4) own mtus) true := by
    unfold laws_eqNode.f
    exact Ev.bind e1 (ev_pos rfl (Ev.bind e2 (ev_pos rfl (Ev.bind (eqStrS_ev w3) (ev_pos rfl (Ev.bind (eqIntS_ev w4) (ev_pos rfl (Ev.now _))))))))
  obtain ⟨B, HB⟩ := bits_fun
  obtain ⟨v, g1, g2⟩ := nodeOK_ev ⟨x.f0, x.f1, x.f2, x.f3, convS x.f4⟩ ⟨y.f0, y.f1, y.f2, y.f3, convS y.f4⟩ own mtus B HB (nd1 x w1) (nd1 y w2) w3 w4
  exact Ev.bind tn (Ev.bind g1 (Ev.bind tn (Ev.bind g2 (ev_neg (by simp) (Ev.bind tn (Ev.bind en (ev_pos rfl (Ev.now _))))))))
end Go.Proofs.Ythknoffionodmaa.Pure

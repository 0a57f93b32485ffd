-- written by a program of this session
import Derived.Test.YthknoffionodmaaVShort
import Derived.Test.YthknoffionodmaaQFnExactNodeOKx0
import Derived.Test.YthknoffionodmaaQFnExactNodeOKx11
import Derived.Test.YthknoffionodmaaQFnExactNodeOKx12
namespace Go.Proofs.Ythknoffionodmaa.QFnExactNodeOK
open Go.RowKit Go.Proofs.YthknoffionodmaaV.PrintWords Go.Proofs.YthknoffionodmaaV.PrintLast Go.Proofs.YthknoffionodmaaV.PrintMore
attribute [local go_sem] max2_int min2_int max_two min_two max_three min_three max_four min_four   -- for this text's walks alone
set_option linter.unusedVariables false
set_option linter.unusedSimpArgs false

/-! ### impl_countRoutes: function 123 -/
mutual
def impl_countRoutes.j0 : Nat → Int → ByteArray → Bool → Int → Int → List (S90) → Option (Int)
  | 0, _, _, _, _, _, _ => none
  | k + 1, x5, x208000, x208001, x208002, x208003, x208004 => impl_countRoutes.l0 k x5 x208004 (x208004.length : Int) 0
def impl_countRoutes.l0 : Nat → Int → List (S90) → Int → Int → Option (Int)
  | 0, _, _, _, _ => none
  | k + 1, x5, x42, x43, x44 => if x44 < x43 then (if 0 ≤ x44 then (if x44 < (x42.length : Int) then ((impl_countRoutes.f k ((rd_T90 x42 x44).f0) ((rd_T90 x42 x44).f1) ((rd_T90 x42 x44).f2) ((rd_T90 x42 x44).f3) ((rd_T90 x42 x44).f4) false).bind fun t212 => (if t212 < 0 then (some (-1)) else (impl_countRoutes.l0 k (wrap64 (x5 + t212)) x42 x43 (wrap64 (x44 + 1))))) else (none)) else (none)) else (some x5)
def impl_countRoutes.f : Nat → ByteArray → Bool → Int → Int → List (S90) → Bool → Option (Int)
  | 0, _, _, _, _, _, _ => none
  | k + 1, a0_0, a0_1, a0_2, a0_3, l0_4, a1 => (impl_kidsOK.f k a0_0 a0_1 a0_2 a0_3 l0_4).bind fun t208 => (if t208 = true then (if a0_1 = true then ((impl_RouteOK.f k a0_0 a0_2 a0_3).bind fun t209 => (if t209 = true then (impl_countRoutes.j0 k 1 a0_0 a0_1 a0_2 a0_3 l0_4) else (some (-1)))) else (if a0_2 = 0 then (if a0_3 = 0 then (if a1 = true then (impl_countRoutes.j0 k 0 a0_0 a0_1 a0_2 a0_3 l0_4) else (if (l0_4.length : Int) = 2 then (impl_countRoutes.j0 k 0 a0_0 a0_1 a0_2 a0_3 l0_4) else (some (-1)))) else (some (-1))) else (some (-1)))) else (some (-1)))
end
theorem impl_countRoutes.mono_l : ∀ k, (∀ y0 y1 y2 y3 y4 y5, LeO (impl_countRoutes.f k y0 y1 y2 y3 y4 y5) (impl_countRoutes.f (k + 1) y0 y1 y2 y3 y4 y5)) ∧ (∀ y0 y1 y2 y3 y4 y5, LeO (impl_countRoutes.j0 k y0 y1 y2 y3 y4 y5) (impl_countRoutes.j0 (k + 1) y0 y1 y2 y3 y4 y5)) ∧ (∀ y0 y1 y2 y3, LeO (impl_countRoutes.l0 k y0 y1 y2 y3) (impl_countRoutes.l0 (k + 1) y0 y1 y2 y3))
  | 0 => ⟨fun _ _ _ _ _ _ r h => by simp [impl_countRoutes.f] at h, fun _ _ _ _ _ _ r h => by simp [impl_countRoutes.j0] at h, fun _ _ _ _ r h => by simp [impl_countRoutes.l0] at h⟩
  | k + 1 => by
    obtain ⟨ih0, ih1, ih2⟩ := impl_countRoutes.mono_l k
    refine ⟨?_, ?_, ?_⟩
    · intro y0 y1 y2 y3 y4 y5
      unfold impl_countRoutes.f
      repeat' first
      | (with_reducible exact ih0 _ _ _ _ _ _)
      | (with_reducible exact ih1 _ _ _ _ _ _)
      | (with_reducible exact ih2 _ _ _ _)
      | (with_reducible exact impl_RouteOK.mono _ _ _ _)
      | (with_reducible exact impl_kidsOK.mono _ _ _ _ _ _)
      | (with_reducible exact LeO.refl _)
      | (with_reducible exact LeO.none _)
      | (with_reducible refine LeO.ite ?_ ?_)
      | (with_reducible refine LeO.bind ?_ (fun _ => ?_))
      | exact ih0 _ _ _ _ _ _
      | exact ih1 _ _ _ _ _ _
      | exact ih2 _ _ _ _
      | exact impl_RouteOK.mono _ _ _ _
      | exact impl_kidsOK.mono _ _ _ _ _ _
      | exact LeO.none _
      | refine LeO.ite ?_ ?_
      | refine LeO.bind ?_ (fun _ => ?_)
    · intro y0 y1 y2 y3 y4 y5
      unfold impl_countRoutes.j0
      repeat' first
      | (with_reducible exact ih0 _ _ _ _ _ _)
      | (with_reducible exact ih1 _ _ _ _ _ _)
      | (with_reducible exact ih2 _ _ _ _)
      | (with_reducible exact impl_RouteOK.mono _ _ _ _)
      | (with_reducible exact impl_kidsOK.mono _ _ _ _ _ _)
      | (with_reducible exact LeO.refl _)
      | (with_reducible exact LeO.none _)
      | (with_reducible refine LeO.ite ?_ ?_)
      | (with_reducible refine LeO.bind ?_ (fun _ => ?_))
      | exact ih0 _ _ _ _ _ _
      | exact ih1 _ _ _ _ _ _
      | exact ih2 _ _ _ _
      | exact impl_RouteOK.mono _ _ _ _
      | exact impl_kidsOK.mono _ _ _ _ _ _
      | exact LeO.none _
      | refine LeO.ite ?_ ?_
      | refine LeO.bind ?_ (fun _ => ?_)
    · intro y0 y1 y2 y3
      unfold impl_countRoutes.l0
      repeat' first
      | (with_reducible exact ih0 _ _ _ _ _ _)
      | (with_reducible exact ih1 _ _ _ _ _ _)
      | (with_reducible exact ih2 _ _ _ _)
      | (with_reducible exact impl_RouteOK.mono _ _ _ _)
      | (with_reducible exact impl_kidsOK.mono _ _ _ _ _ _)
      | (with_reducible exact LeO.refl _)
      | (with_reducible exact LeO.none _)
      | (with_reducible refine LeO.ite ?_ ?_)
      | (with_reducible refine LeO.bind ?_ (fun _ => ?_))
      | exact ih0 _ _ _ _ _ _
      | exact ih1 _ _ _ _ _ _
      | exact ih2 _ _ _ _
      | exact impl_RouteOK.mono _ _ _ _
      | exact impl_kidsOK.mono _ _ _ _ _ _
      | exact LeO.none _
      | refine LeO.ite ?_ ?_
      | refine LeO.bind ?_ (fun _ => ?_)
theorem impl_countRoutes.mono : ∀ a0 a1 a2 a3 a4 a5 k, LeO (impl_countRoutes.f k a0 a1 a2 a3 a4 a5) (impl_countRoutes.f (k + 1) a0 a1 a2 a3 a4 a5) := by
  intro a0 a1 a2 a3 a4 a5 k
  obtain ⟨ih0, ih1, ih2⟩ := impl_countRoutes.mono_l k
  exact ih0 a0 a1 a2 a3 a4 a5
set_option maxHeartbeats 8000000 in
set_option maxRecDepth 100000 in
theorem impl_countRoutes.calls (k : Nat) : ∀ (a0_0 : ByteArray) (a0_1 : Bool) (a0_2 : Int) (a0_3 : Int) (A0_4 : Option Addr) (c0_4 : Nat) (l0_4 : List (S90)) (a1 : Bool) (r : Int) (w : World) (hr0_4 : Kd.C k90 w A0_4 l0_4.length l0_4) (hc0_4 : l0_4.length ≤ c0_4) (h : impl_countRoutes.f k a0_0 a0_1 a0_2 a0_3 l0_4 a1 = some r),
    Calls Try.prog 123 #[.agg #[.string a0_0, .bool a0_1, .int .i64 a0_2, .int .i64 a0_3, .slice A0_4 l0_4.length c0_4], .bool a1] w fun e w' => e = .returned (.int .i64 r) ∧ Below w.heap.size w w' := by
  induction k using Nat.strongRecOn with
  | _ k ih =>
  intro a0_0 a0_1 a0_2 a0_3 A0_4 c0_4 l0_4 a1 r w hr0_4 hc0_4 h
  cases k with
  | zero => exact absurd h (by simp [impl_countRoutes.f])
  | succ k =>
  simp only [impl_countRoutes.f] at h
  have hu90 := Try.underlying90
  have hu182 := Try.underlying182
  have HR0_4 := Aside0.mk hr0_4
  have HC0_4 := Aside0.mk hc0_4
  clear hr0_4 hc0_4
  have HB := Aside0.mk (Below.refl w.heap.size w)
  have H : ((impl_kidsOK.f k a0_0 a0_1 a0_2 a0_3 l0_4).bind fun t208 => (if t208 = true then (if a0_1 = true then ((impl_RouteOK.f k a0_0 a0_2 a0_3).bind fun t209 => (if t209 = true then (impl_countRoutes.j0 k 1 a0_0 a0_1 a0_2 a0_3 l0_4) else (some (-1)))) else (if a0_2 = 0 then (if a0_3 = 0 then (if a1 = true then (impl_countRoutes.j0 k 0 a0_0 a0_1 a0_2 a0_3 l0_4) else (if (l0_4.length : Int) = 2 then (impl_countRoutes.j0 k 0 a0_0 a0_1 a0_2 a0_3 l0_4) else (some (-1)))) else (some (-1))) else (some (-1)))) else (some (-1)))) = some r := h
  clear h
  replace H := Option.bind_eq_some_iff.mp H
  obtain ⟨t208, A30, H⟩ := H
  replace H : (if t208 = true then (if a0_1 = true then ((impl_RouteOK.f k a0_0 a0_2 a0_3).bind fun t209 => (if t209 = true then (impl_countRoutes.j0 k 1 a0_0 a0_1 a0_2 a0_3 l0_4) else (some (-1)))) else (if a0_2 = 0 then (if a0_3 = 0 then (if a1 = true then (impl_countRoutes.j0 k 0 a0_0 a0_1 a0_2 a0_3 l0_4) else (if (l0_4.length : Int) = 2 then (impl_countRoutes.j0 k 0 a0_0 a0_1 a0_2 a0_3 l0_4) else (some (-1)))) else (some (-1))) else (some (-1)))) else (some (-1))) = some r := H
  have A3 := Aside0.mk A30
  clear A30
  by_cases c4 : t208 = true
  rotate_left
  · replace c4 := Bool.eq_false_iff.mpr c4
    subst c4
    have H1 : (some (-1)) = some r := by rw [if_neg (show ¬ (false = true) by decide)] at H; exact H
    clear H
    have H := H1
    clear H1
    obtain rfl := Option.some.inj H
    go_enter Try.func123, Try.ntmps123
    go_wp2_with (first | ((with_reducible refine gate_dst (N := 2) rfl ?_); refine box_event ?hg (N := 2) ?hd (cs := #[.string a0_0, .bool a0_1, .int .i64 a0_2, .int .i64 a0_3, .slice A0_4 l0_4.length c0_4]) (t := 90) ?hr ?_; (case hd => rfl); (case hg => rfl); (case hr => first | (go_simp; done) | (go_simp; rfl)); intro gb207 hg w40 hbox hb; have n0_ := Aside0.mk (below_step (Bx0 HB) hb); have n1_ := Aside0.mk (hbox); have n2_ := Aside0.mk ((by rw [hg]; exact (below_size (Bx0 HB)) : w.heap.size ≤ gb207)); have n3_ := Aside0.mk ((by rw [hg]; exact (below_size (Bx0 HB)) : w.heap.size ≤ gb207)); clear HB; have HB := n0_; have BK207 := n1_; have GW207 := n2_; have GE207 := n3_; clear n0_ n1_ n2_ n3_; clear hb hbox hg; have hcz41_0 : w40.cell? ⟨gb207, 0, none⟩ = some (.string a0_0) := (blk_cell BK207.out 0).trans rfl; have hcz41_1 : w40.cell? ⟨gb207, 1, none⟩ = some (.bool a0_1) := (blk_cell BK207.out 1).trans rfl; have hcz41_2 : w40.cell? ⟨gb207, 2, none⟩ = some (.int .i64 a0_2) := (blk_cell BK207.out 2).trans rfl; have hcz41_3 : w40.cell? ⟨gb207, 3, none⟩ = some (.int .i64 a0_3) := (blk_cell BK207.out 3).trans rfl; have hcz41_4 : w40.cell? ⟨gb207, 4, none⟩ = some (.slice A0_4 l0_4.length c0_4) := (blk_cell BK207.out 4).trans rfl; have hfz41_0 := blk_frozen BK207.out 0; have hfz41_1 := blk_frozen BK207.out 1; have hfz41_2 := blk_frozen BK207.out 2; have hfz41_3 := blk_frozen BK207.out 3; have hfz41_4 := blk_frozen BK207.out 4) | ((with_reducible refine gate_callee (f := 180) rfl ?_); refine goesL_ (some 10) rfl rfl Try.func180 (by kernel_rfl) rfl #[.agg #[.string a0_0, .bool a0_1, .int .i64 a0_2, .int .i64 a0_3, .slice A0_4 l0_4.length c0_4]] rfl (by (try simp only [List.map_toArray, List.map_cons, List.map_nil]); first | done | rfl | (simp only [List.length_drop, List.length_take]; rfl)) ?_; (with_reducible refine (impl_kidsOK.calls k a0_0 a0_1 a0_2 a0_3 _ _ l0_4 false _ ?side1 ?side2 A3.out).mono ?_); (case side1 => repeat (first | exact (Kd.C_below HR0_4.out HB.out) | (with_reducible refine Kd.C_alloc ?_ _) | (with_reducible refine Kd.C_drewN ?_ _) | (with_reducible refine Kd.C_drew ?_))); (case side2 => exact HC0_4.out); rintro e w42 ⟨rfl, hb⟩; refine ⟨_, rfl, ?_⟩; have n0_ := Aside0.mk (blk_below (BKx BK207) hb); have n1_ := Aside0.mk (below_step (Bx1 HB GE207) hb); clear BK207; clear HB; have BK207 := n0_; have HB := n1_; clear n0_ n1_; (try clear hb); (try clear hb2); (try clear hk); (try clear hi)))
    go_ret
    exact ⟨by first | rfl | (simp [errW_none, errW_some] <;> rfl) | (simp [*, errW_none, errW_some] <;> rfl), Bx1 HB GE207⟩

  subst c4
  have H1 : (if a0_1 = true then ((impl_RouteOK.f k a0_0 a0_2 a0_3).bind fun t209 => (if t209 = true then (impl_countRoutes.j0 k 1 a0_0 a0_1 a0_2 a0_3 l0_4) else (some (-1)))) else (if a0_2 = 0 then (if a0_3 = 0 then (if a1 = true then (impl_countRoutes.j0 k 0 a0_0 a0_1 a0_2 a0_3 l0_4) else (if (l0_4.length : Int) = 2 then (impl_countRoutes.j0 k 0 a0_0 a0_1 a0_2 a0_3 l0_4) else (some (-1)))) else (some (-1))) else (some (-1)))) = some r := by rw [if_pos rfl] at H; exact H
  clear H
  have H := H1
  clear H1
  have HC5 := Aside0.mk H
  clear H
  go_enter Try.func123, Try.ntmps123
  go_upto_if 13 with (first | ((with_reducible refine gate_dst (N := 2) rfl ?_); refine box_event ?hg (N := 2) ?hd (cs := #[.string a0_0, .bool a0_1, .int .i64 a0_2, .int .i64 a0_3, .slice A0_4 l0_4.length c0_4]) (t := 90) ?hr ?_; (case hd => rfl); (case hg => rfl); (case hr => first | (go_simp; done) | (go_simp; rfl)); intro gb207 hg w6 hbox hb; have n0_ := Aside0.mk (below_step (Bx0 HB) hb); have n1_ := Aside0.mk (hbox); have n2_ := Aside0.mk ((by rw [hg]; exact (below_size (Bx0 HB)) : w.heap.size ≤ gb207)); have n3_ := Aside0.mk ((by rw [hg]; exact (below_size (Bx0 HB)) : w.heap.size ≤ gb207)); clear HB; have HB := n0_; have BK207 := n1_; have GW207 := n2_; have GE207 := n3_; clear n0_ n1_ n2_ n3_; clear hb hbox hg; have hcz7_0 : w6.cell? ⟨gb207, 0, none⟩ = some (.string a0_0) := (blk_cell BK207.out 0).trans rfl; have hcz7_1 : w6.cell? ⟨gb207, 1, none⟩ = some (.bool a0_1) := (blk_cell BK207.out 1).trans rfl; have hcz7_2 : w6.cell? ⟨gb207, 2, none⟩ = some (.int .i64 a0_2) := (blk_cell BK207.out 2).trans rfl; have hcz7_3 : w6.cell? ⟨gb207, 3, none⟩ = some (.int .i64 a0_3) := (blk_cell BK207.out 3).trans rfl; have hcz7_4 : w6.cell? ⟨gb207, 4, none⟩ = some (.slice A0_4 l0_4.length c0_4) := (blk_cell BK207.out 4).trans rfl; have hfz7_0 := blk_frozen BK207.out 0; have hfz7_1 := blk_frozen BK207.out 1; have hfz7_2 := blk_frozen BK207.out 2; have hfz7_3 := blk_frozen BK207.out 3; have hfz7_4 := blk_frozen BK207.out 4) | ((with_reducible refine gate_callee (f := 180) rfl ?_); refine goesL_ (some 10) rfl rfl Try.func180 (by kernel_rfl) rfl #[.agg #[.string a0_0, .bool a0_1, .int .i64 a0_2, .int .i64 a0_3, .slice A0_4 l0_4.length c0_4]] rfl (by (try simp only [List.map_toArray, List.map_cons, List.map_nil]); first | done | rfl | (simp only [List.length_drop, List.length_take]; rfl)) ?_; (with_reducible refine (impl_kidsOK.calls k a0_0 a0_1 a0_2 a0_3 _ _ l0_4 true _ ?side1 ?side2 A3.out).mono ?_); (case side1 => repeat (first | exact (Kd.C_below HR0_4.out HB.out) | (with_reducible refine Kd.C_alloc ?_ _) | (with_reducible refine Kd.C_drewN ?_ _) | (with_reducible refine Kd.C_drew ?_))); (case side2 => exact HC0_4.out); rintro e w8 ⟨rfl, hb⟩; refine ⟨_, rfl, ?_⟩; have n0_ := Aside0.mk (blk_below (BKx BK207) hb); have n1_ := Aside0.mk (below_step (Bx1 HB GE207) hb); clear BK207; clear HB; have BK207 := n0_; have HB := n1_; clear n0_ n1_; (try clear hb); (try clear hb2); (try clear hk); (try clear hi); have hcz9_0 : w8.cell? ⟨gb207, 0, none⟩ = some (.string a0_0) := (blk_cell BK207.out 0).trans rfl; have hcz9_1 : w8.cell? ⟨gb207, 1, none⟩ = some (.bool a0_1) := (blk_cell BK207.out 1).trans rfl; have hcz9_2 : w8.cell? ⟨gb207, 2, none⟩ = some (.int .i64 a0_2) := (blk_cell BK207.out 2).trans rfl; have hcz9_3 : w8.cell? ⟨gb207, 3, none⟩ = some (.int .i64 a0_3) := (blk_cell BK207.out 3).trans rfl; have hcz9_4 : w8.cell? ⟨gb207, 4, none⟩ = some (.slice A0_4 l0_4.length c0_4) := (blk_cell BK207.out 4).trans rfl; have hfz9_0 := blk_frozen BK207.out 0; have hfz9_1 := blk_frozen BK207.out 1; have hfz9_2 := blk_frozen BK207.out 2; have hfz9_3 := blk_frozen BK207.out 3; have hfz9_4 := blk_frozen BK207.out 4))
  (try simp only [Act.put, List.setIfInBounds_toArray, List.set_cons_zero, List.set_cons_succ])
  go_cut [5] (fun v5 wc => ∃ (kq : Nat) (x5_4 : Int), v5 = .int .i64 x5_4 ∧ Aside0 (impl_countRoutes.j0 kq x5_4 a0_0 a0_1 a0_2 a0_3 l0_4 = some r) ∧ Aside0 (kq ≤ k) ∧ Aside0 (wc.heap[gb207]? = some (.cells #[.string a0_0, .bool a0_1, .int .i64 a0_2, .int .i64 a0_3, (.slice A0_4 l0_4.length c0_4)] 90 (0, 0))) ∧ Aside0 (Below w.heap.size w wc))
  case first =>
    have H := HC5.out
    clear HC5
    by_cases c10 : a0_1 = true
    · subst c10
      have H1 : ((impl_RouteOK.f k a0_0 a0_2 a0_3).bind fun t209 => (if t209 = true then (impl_countRoutes.j0 k 1 a0_0 true a0_2 a0_3 l0_4) else (some (-1)))) = some r := by rw [if_pos rfl] at H; exact H
      clear H
      have H := H1
      clear H1
      replace H := Option.bind_eq_some_iff.mp H
      obtain ⟨t209, A110, H⟩ := H
      replace H : (if t209 = true then (impl_countRoutes.j0 k 1 a0_0 true a0_2 a0_3 l0_4) else (some (-1))) = some r := H
      have A11 := Aside0.mk A110
      clear A110
      by_cases c12 : t209 = true
      rotate_left
      · replace c12 := Bool.eq_false_iff.mpr c12
        subst c12
        have H1 : (some (-1)) = some r := by rw [if_neg (show ¬ (false = true) by decide)] at H; exact H
        clear H
        have H := H1
        clear H1
        obtain rfl := Option.some.inj H
        have hcz15_0 : w8.cell? ⟨gb207, 0, none⟩ = some (.string a0_0) := (blk_cell BK207.out 0).trans rfl
        have hcz15_1 : w8.cell? ⟨gb207, 1, none⟩ = some (.bool true) := (blk_cell BK207.out 1).trans rfl
        have hcz15_2 : w8.cell? ⟨gb207, 2, none⟩ = some (.int .i64 a0_2) := (blk_cell BK207.out 2).trans rfl
        have hcz15_3 : w8.cell? ⟨gb207, 3, none⟩ = some (.int .i64 a0_3) := (blk_cell BK207.out 3).trans rfl
        have hcz15_4 : w8.cell? ⟨gb207, 4, none⟩ = some (.slice A0_4 l0_4.length c0_4) := (blk_cell BK207.out 4).trans rfl
        have hfz15_0 := blk_frozen BK207.out 0
        have hfz15_1 := blk_frozen BK207.out 1
        have hfz15_2 := blk_frozen BK207.out 2
        have hfz15_3 := blk_frozen BK207.out 3
        have hfz15_4 := blk_frozen BK207.out 4
        go_wp2_with (first | ((with_reducible refine gate_callee (f := 181) rfl ?_); refine goesL_ (some 21) rfl rfl Try.func181 (by kernel_rfl) rfl #[.agg #[.string a0_0, .int .i64 a0_2, .int .i64 a0_3]] rfl (by (try simp only [List.map_toArray, List.map_cons, List.map_nil]); first | done | rfl | (simp only [List.length_drop, List.length_take]; rfl)) ?_; (with_reducible refine (impl_RouteOK.calls k a0_0 a0_2 a0_3 false _ A11.out).mono ?_); rintro e w16 ⟨rfl, hb⟩; refine ⟨_, rfl, ?_⟩; have n0_ := Aside0.mk (blk_below (BKx BK207) hb); have n1_ := Aside0.mk (below_step (Bx1 HB GE207) hb); clear BK207; clear HB; have BK207 := n0_; have HB := n1_; clear n0_ n1_; (try clear hb); (try clear hb2); (try clear hk); (try clear hi)))
        go_ret
        exact ⟨by first | rfl | (simp [errW_none, errW_some] <;> rfl) | (simp [*, errW_none, errW_some] <;> rfl), Bx1 HB GE207⟩
      subst c12
      have H1 : (impl_countRoutes.j0 k 1 a0_0 true a0_2 a0_3 l0_4) = some r := by rw [if_pos rfl] at H; exact H
      clear H
      have H := H1
      clear H1
      have H' := Aside0.mk H
      clear H
      have hcz13_0 : w8.cell? ⟨gb207, 0, none⟩ = some (.string a0_0) := (blk_cell BK207.out 0).trans rfl
      have hcz13_1 : w8.cell? ⟨gb207, 1, none⟩ = some (.bool true) := (blk_cell BK207.out 1).trans rfl
      have hcz13_2 : w8.cell? ⟨gb207, 2, none⟩ = some (.int .i64 a0_2) := (blk_cell BK207.out 2).trans rfl
      have hcz13_3 : w8.cell? ⟨gb207, 3, none⟩ = some (.int .i64 a0_3) := (blk_cell BK207.out 3).trans rfl
      have hcz13_4 : w8.cell? ⟨gb207, 4, none⟩ = some (.slice A0_4 l0_4.length c0_4) := (blk_cell BK207.out 4).trans rfl
      have hfz13_0 := blk_frozen BK207.out 0
      have hfz13_1 := blk_frozen BK207.out 1
      have hfz13_2 := blk_frozen BK207.out 2
      have hfz13_3 := blk_frozen BK207.out 3
      have hfz13_4 := blk_frozen BK207.out 4
      go_wp2_with (first | ((with_reducible refine gate_callee (f := 181) rfl ?_); refine goesL_ (some 21) rfl rfl Try.func181 (by kernel_rfl) rfl #[.agg #[.string a0_0, .int .i64 a0_2, .int .i64 a0_3]] rfl (by (try simp only [List.map_toArray, List.map_cons, List.map_nil]); first | done | rfl | (simp only [List.length_drop, List.length_take]; rfl)) ?_; (with_reducible refine (impl_RouteOK.calls k a0_0 a0_2 a0_3 true _ A11.out).mono ?_); rintro e w14 ⟨rfl, hb⟩; refine ⟨_, rfl, ?_⟩; have n0_ := Aside0.mk (blk_below (BKx BK207) hb); have n1_ := Aside0.mk (below_step (Bx1 HB GE207) hb); clear BK207; clear HB; have BK207 := n0_; have HB := n1_; clear n0_ n1_; (try clear hb); (try clear hb2); (try clear hk); (try clear hi)))
      go_meet
      case rel => exact ⟨_, (1), (by first | rfl | (simp; done) | (simp [*]; done)), H', ⟨by first | omega | exact Nat.le_refl _⟩, ⟨by (with_reducible repeat (first | refine blk_drewN ?_ _ | refine blk_drew ?_ | refine blk_alloc ?_ _)); exact BK207.out⟩, ⟨Bx1 HB GE207⟩⟩
    replace c10 := Bool.eq_false_iff.mpr c10
    subst c10
    have H1 : (if a0_2 = 0 then (if a0_3 = 0 then (if a1 = true then (impl_countRoutes.j0 k 0 a0_0 false a0_2 a0_3 l0_4) else (if (l0_4.length : Int) = 2 then (impl_countRoutes.j0 k 0 a0_0 false a0_2 a0_3 l0_4) else (some (-1)))) else (some (-1))) else (some (-1))) = some r := by rw [if_neg (show ¬ (false = true) by decide)] at H; exact H
    clear H
    have H := H1
    clear H1
    by_cases c17 : a0_2 = 0
    rotate_left
    · rw [if_neg c17] at H
      have c17b0 : (a0_2 == 0) = false := beq_eq_false_iff_ne.mpr c17
      have c17b1 : (a0_2 != 0) = true := bne_iff_ne.mpr c17
      (first | rw [c17b0] | (simp only [i64_w, i32_w]; rw [c17b0]) | skip)
      obtain rfl := Option.some.inj H
      have hcz25_0 : w8.cell? ⟨gb207, 0, none⟩ = some (.string a0_0) := (blk_cell BK207.out 0).trans rfl
      have hcz25_1 : w8.cell? ⟨gb207, 1, none⟩ = some (.bool false) := (blk_cell BK207.out 1).trans rfl
      have hcz25_2 : w8.cell? ⟨gb207, 2, none⟩ = some (.int .i64 a0_2) := (blk_cell BK207.out 2).trans rfl
      have hcz25_3 : w8.cell? ⟨gb207, 3, none⟩ = some (.int .i64 a0_3) := (blk_cell BK207.out 3).trans rfl
      have hcz25_4 : w8.cell? ⟨gb207, 4, none⟩ = some (.slice A0_4 l0_4.length c0_4) := (blk_cell BK207.out 4).trans rfl
      have hfz25_0 := blk_frozen BK207.out 0
      have hfz25_1 := blk_frozen BK207.out 1
      have hfz25_2 := blk_frozen BK207.out 2
      have hfz25_3 := blk_frozen BK207.out 3
      have hfz25_4 := blk_frozen BK207.out 4
      go_wp2
      go_ret
      exact ⟨by first | rfl | (simp [errW_none, errW_some] <;> rfl) | (simp [*, errW_none, errW_some] <;> rfl), Bx1 HB GE207⟩
    rw [if_pos c17] at H
    have c17b0 : (a0_2 == 0) = true := beq_iff_eq.mpr c17
    have c17b1 : (a0_2 != 0) = false := bne_eq_false_iff_eq.mpr c17
    clear c17
    (first | rw [c17b0] | (simp only [i64_w, i32_w]; rw [c17b0]) | skip)
    by_cases c18 : a0_3 = 0
    rotate_left
    · rw [if_neg c18] at H
      have c18b0 : (a0_3 == 0) = false := beq_eq_false_iff_ne.mpr c18
      have c18b1 : (a0_3 != 0) = true := bne_iff_ne.mpr c18
      obtain rfl := Option.some.inj H
      have hcz24_0 : w8.cell? ⟨gb207, 0, none⟩ = some (.string a0_0) := (blk_cell BK207.out 0).trans rfl
      have hcz24_1 : w8.cell? ⟨gb207, 1, none⟩ = some (.bool false) := (blk_cell BK207.out 1).trans rfl
      have hcz24_2 : w8.cell? ⟨gb207, 2, none⟩ = some (.int .i64 a0_2) := (blk_cell BK207.out 2).trans rfl
      have hcz24_3 : w8.cell? ⟨gb207, 3, none⟩ = some (.int .i64 a0_3) := (blk_cell BK207.out 3).trans rfl
      have hcz24_4 : w8.cell? ⟨gb207, 4, none⟩ = some (.slice A0_4 l0_4.length c0_4) := (blk_cell BK207.out 4).trans rfl
      have hfz24_0 := blk_frozen BK207.out 0
      have hfz24_1 := blk_frozen BK207.out 1
      have hfz24_2 := blk_frozen BK207.out 2
      have hfz24_3 := blk_frozen BK207.out 3
      have hfz24_4 := blk_frozen BK207.out 4
      go_wp2
      go_ret
      exact ⟨by first | rfl | (simp [errW_none, errW_some] <;> rfl) | (simp [*, errW_none, errW_some] <;> rfl), Bx1 HB GE207⟩
    rw [if_pos c18] at H
    have c18b0 : (a0_3 == 0) = true := beq_iff_eq.mpr c18
    have c18b1 : (a0_3 != 0) = false := bne_eq_false_iff_eq.mpr c18
    clear c18
    by_cases c19 : a1 = true
    · subst c19
      have H1 : (impl_countRoutes.j0 k 0 a0_0 false a0_2 a0_3 l0_4) = some r := by rw [if_pos rfl] at H; exact H
      clear H
      have H := H1
      clear H1
      have H' := Aside0.mk H
      clear H
      have hcz20_0 : w8.cell? ⟨gb207, 0, none⟩ = some (.string a0_0) := (blk_cell BK207.out 0).trans rfl
      have hcz20_1 : w8.cell? ⟨gb207, 1, none⟩ = some (.bool false) := (blk_cell BK207.out 1).trans rfl
      have hcz20_2 : w8.cell? ⟨gb207, 2, none⟩ = some (.int .i64 a0_2) := (blk_cell BK207.out 2).trans rfl
      have hcz20_3 : w8.cell? ⟨gb207, 3, none⟩ = some (.int .i64 a0_3) := (blk_cell BK207.out 3).trans rfl
      have hcz20_4 : w8.cell? ⟨gb207, 4, none⟩ = some (.slice A0_4 l0_4.length c0_4) := (blk_cell BK207.out 4).trans rfl
      have hfz20_0 := blk_frozen BK207.out 0
      have hfz20_1 := blk_frozen BK207.out 1
      have hfz20_2 := blk_frozen BK207.out 2
      have hfz20_3 := blk_frozen BK207.out 3
      have hfz20_4 := blk_frozen BK207.out 4
      go_wp2
      go_meet
      case rel => exact ⟨_, (0), (by first | rfl | (simp; done) | (simp [*]; done)), H', ⟨by first | omega | exact Nat.le_refl _⟩, ⟨by (with_reducible repeat (first | refine blk_drewN ?_ _ | refine blk_drew ?_ | refine blk_alloc ?_ _)); exact BK207.out⟩, ⟨Bx1 HB GE207⟩⟩
    replace c19 := Bool.eq_false_iff.mpr c19
    subst c19
    have H1 : (if (l0_4.length : Int) = 2 then (impl_countRoutes.j0 k 0 a0_0 false a0_2 a0_3 l0_4) else (some (-1))) = some r := by rw [if_neg (show ¬ (false = true) by decide)] at H; exact H
    clear H
    have H := H1
    clear H1
    by_cases c21 : (l0_4.length : Int) = 2
    rotate_left
    · rw [if_neg c21] at H
      have c21b0 : ((l0_4.length : Int) == 2) = false := beq_eq_false_iff_ne.mpr c21
      have c21b1 : ((l0_4.length : Int) != 2) = true := bne_iff_ne.mpr c21
      obtain rfl := Option.some.inj H
      have hcz23_0 : w8.cell? ⟨gb207, 0, none⟩ = some (.string a0_0) := (blk_cell BK207.out 0).trans rfl
      have hcz23_1 : w8.cell? ⟨gb207, 1, none⟩ = some (.bool false) := (blk_cell BK207.out 1).trans rfl
      have hcz23_2 : w8.cell? ⟨gb207, 2, none⟩ = some (.int .i64 a0_2) := (blk_cell BK207.out 2).trans rfl
      have hcz23_3 : w8.cell? ⟨gb207, 3, none⟩ = some (.int .i64 a0_3) := (blk_cell BK207.out 3).trans rfl
      have hcz23_4 : w8.cell? ⟨gb207, 4, none⟩ = some (.slice A0_4 l0_4.length c0_4) := (blk_cell BK207.out 4).trans rfl
      have hfz23_0 := blk_frozen BK207.out 0
      have hfz23_1 := blk_frozen BK207.out 1
      have hfz23_2 := blk_frozen BK207.out 2
      have hfz23_3 := blk_frozen BK207.out 3
      have hfz23_4 := blk_frozen BK207.out 4
      go_wp2
      go_ret
      exact ⟨by first | rfl | (simp [errW_none, errW_some] <;> rfl) | (simp [*, errW_none, errW_some] <;> rfl), Bx1 HB GE207⟩
    rw [if_pos c21] at H
    have c21b0 : ((l0_4.length : Int) == 2) = true := beq_iff_eq.mpr c21
    have c21b1 : ((l0_4.length : Int) != 2) = false := bne_eq_false_iff_eq.mpr c21
    clear c21
    have H' := Aside0.mk H
    clear H
    have hcz22_0 : w8.cell? ⟨gb207, 0, none⟩ = some (.string a0_0) := (blk_cell BK207.out 0).trans rfl
    have hcz22_1 : w8.cell? ⟨gb207, 1, none⟩ = some (.bool false) := (blk_cell BK207.out 1).trans rfl
    have hcz22_2 : w8.cell? ⟨gb207, 2, none⟩ = some (.int .i64 a0_2) := (blk_cell BK207.out 2).trans rfl
    have hcz22_3 : w8.cell? ⟨gb207, 3, none⟩ = some (.int .i64 a0_3) := (blk_cell BK207.out 3).trans rfl
    have hcz22_4 : w8.cell? ⟨gb207, 4, none⟩ = some (.slice A0_4 l0_4.length c0_4) := (blk_cell BK207.out 4).trans rfl
    have hfz22_0 := blk_frozen BK207.out 0
    have hfz22_1 := blk_frozen BK207.out 1
    have hfz22_2 := blk_frozen BK207.out 2
    have hfz22_3 := blk_frozen BK207.out 3
    have hfz22_4 := blk_frozen BK207.out 4
    go_wp2
    go_meet
    case rel => exact ⟨_, (0), (by first | rfl | (simp; done) | (simp [*]; done)), H', ⟨by first | omega | exact Nat.le_refl _⟩, ⟨by (with_reducible repeat (first | refine blk_drewN ?_ _ | refine blk_drew ?_ | refine blk_alloc ?_ _)); exact BK207.out⟩, ⟨Bx1 HB GE207⟩⟩
  case rest =>
    clear HC5
    try clear c1
    try clear c2
    try clear p2
    try clear c4
    try clear c10
    try clear c12
    try clear c17
    try clear c17b0
    try clear c17b1
    try clear c18
    try clear c18b0
    try clear c18b1
    try clear c19
    try clear c21
    try clear c21b0
    try clear c21b1
    try clear hcz13_0 hcz13_1 hcz13_2 hcz13_3 hcz13_4
    try clear hcz15_0 hcz15_1 hcz15_2 hcz15_3 hcz15_4
    try clear hcz20_0 hcz20_1 hcz20_2 hcz20_3 hcz20_4
    try clear hcz22_0 hcz22_1 hcz22_2 hcz22_3 hcz22_4
    try clear hcz23_0 hcz23_1 hcz23_2 hcz23_3 hcz23_4
    try clear hcz24_0 hcz24_1 hcz24_2 hcz24_3 hcz24_4
    try clear hcz25_0 hcz25_1 hcz25_2 hcz25_3 hcz25_4
    try clear hcz7_0 hcz7_1 hcz7_2 hcz7_3 hcz7_4
    try clear hcz9_0 hcz9_1 hcz9_2 hcz9_3 hcz9_4
    try clear hfz13_0 hfz13_1 hfz13_2 hfz13_3 hfz13_4
    try clear hfz15_0 hfz15_1 hfz15_2 hfz15_3 hfz15_4
    try clear hfz20_0 hfz20_1 hfz20_2 hfz20_3 hfz20_4
    try clear hfz22_0 hfz22_1 hfz22_2 hfz22_3 hfz22_4
    try clear hfz23_0 hfz23_1 hfz23_2 hfz23_3 hfz23_4
    try clear hfz24_0 hfz24_1 hfz24_2 hfz24_3 hfz24_4
    try clear hfz25_0 hfz25_1 hfz25_2 hfz25_3 hfz25_4
    try clear hfz7_0 hfz7_1 hfz7_2 hfz7_3 hfz7_4
    try clear hfz9_0 hfz9_1 hfz9_2 hfz9_3 hfz9_4
    obtain ⟨kq, x5_4, rfl, HA, HJ4, BK207, HB⟩ := hcut
    cases kq with
    | zero => exact absurd HA.out (by simp [impl_countRoutes.j0])
    | succ kj4 =>
      have H := HA.out
      clear HA
      simp only [impl_countRoutes.j0] at H
      have H' := Aside0.mk H
      clear H
      have hcz26_0 : wc.cell? ⟨gb207, 0, none⟩ = some (.string a0_0) := (blk_cell BK207.out 0).trans rfl
      have hcz26_1 : wc.cell? ⟨gb207, 1, none⟩ = some (.bool a0_1) := (blk_cell BK207.out 1).trans rfl
      have hcz26_2 : wc.cell? ⟨gb207, 2, none⟩ = some (.int .i64 a0_2) := (blk_cell BK207.out 2).trans rfl
      have hcz26_3 : wc.cell? ⟨gb207, 3, none⟩ = some (.int .i64 a0_3) := (blk_cell BK207.out 3).trans rfl
      have hcz26_4 : wc.cell? ⟨gb207, 4, none⟩ = some (.slice A0_4 l0_4.length c0_4) := (blk_cell BK207.out 4).trans rfl
      have hfz26_0 := blk_frozen BK207.out 0
      have hfz26_1 := blk_frozen BK207.out 1
      have hfz26_2 := blk_frozen BK207.out 2
      have hfz26_3 := blk_frozen BK207.out 3
      have hfz26_4 := blk_frozen BK207.out 4
      go_wp2
      go_loopg [5, 44] kj4 (fun kq v5 v44 w' => ∃ (x5_2 : Int) (x44_2 : Int), v5 = .int .i64 x5_2 ∧ v44 = .int .i64 x44_2 ∧ Aside0 (impl_countRoutes.l0 kq x5_2 l0_4 (l0_4.length : Int) x44_2 = some r) ∧ Aside0 (kq ≤ kj4) ∧ Aside0 (w'.heap[gb207]? = some (.cells #[.string a0_0, .bool a0_1, .int .i64 a0_2, .int .i64 a0_3, (.slice A0_4 l0_4.length c0_4)] 90 (0, 0))) ∧ Aside0 (Below w.heap.size w w'))
      case atStart => exact ⟨(x5_4), (0), (by first | rfl | (simp; done) | (simp [*]; done)), (by first | rfl | (simp; done) | (simp [*]; done)), H', ⟨Nat.le_refl _⟩, ⟨by (with_reducible repeat (first | refine blk_drewN ?_ _ | refine blk_drew ?_ | refine blk_alloc ?_ _)); exact BK207.out⟩, ⟨Bx1 HB GE207⟩⟩
      case round =>
        clear H'
        try clear c1
        try clear c2
        try clear p2
        try clear c4
        try clear c10
        try clear c12
        try clear c17
        try clear c17b0
        try clear c17b1
        try clear c18
        try clear c18b0
        try clear c18b1
        try clear c19
        try clear c21
        try clear c21b0
        try clear c21b1
        try clear hcz13_0 hcz13_1 hcz13_2 hcz13_3 hcz13_4
        try clear hcz15_0 hcz15_1 hcz15_2 hcz15_3 hcz15_4
        try clear hcz20_0 hcz20_1 hcz20_2 hcz20_3 hcz20_4
        try clear hcz22_0 hcz22_1 hcz22_2 hcz22_3 hcz22_4
        try clear hcz23_0 hcz23_1 hcz23_2 hcz23_3 hcz23_4
        try clear hcz24_0 hcz24_1 hcz24_2 hcz24_3 hcz24_4
        try clear hcz25_0 hcz25_1 hcz25_2 hcz25_3 hcz25_4
        try clear hcz26_0 hcz26_1 hcz26_2 hcz26_3 hcz26_4
        try clear hcz7_0 hcz7_1 hcz7_2 hcz7_3 hcz7_4
        try clear hcz9_0 hcz9_1 hcz9_2 hcz9_3 hcz9_4
        try clear hfz13_0 hfz13_1 hfz13_2 hfz13_3 hfz13_4
        try clear hfz15_0 hfz15_1 hfz15_2 hfz15_3 hfz15_4
        try clear hfz20_0 hfz20_1 hfz20_2 hfz20_3 hfz20_4
        try clear hfz22_0 hfz22_1 hfz22_2 hfz22_3 hfz22_4
        try clear hfz23_0 hfz23_1 hfz23_2 hfz23_3 hfz23_4
        try clear hfz24_0 hfz24_1 hfz24_2 hfz24_3 hfz24_4
        try clear hfz25_0 hfz25_1 hfz25_2 hfz25_3 hfz25_4
        try clear hfz26_0 hfz26_1 hfz26_2 hfz26_3 hfz26_4
        try clear hfz7_0 hfz7_1 hfz7_2 hfz7_3 hfz7_4
        try clear hfz9_0 hfz9_1 hfz9_2 hfz9_3 hfz9_4
        try clear p2
        obtain ⟨x5_2, x44_2, rfl, rfl, HA, HK2, BK207, HB⟩ := hrel
        cases gk with
        | zero => exact absurd HA.out (by simp [impl_countRoutes.l0])
        | succ k2 =>
          have H := HA.out
          clear HA
          simp only [impl_countRoutes.l0] at H
          by_cases c27 : x44_2 < (l0_4.length : Int)
          rotate_left
          · rw [if_neg c27] at H
            have c27b0 : decide (x44_2 < (l0_4.length : Int)) = false := decide_eq_false c27
            clear c27
            obtain rfl := Option.some.inj H
            go_wp2
            go_ret
            exact ⟨by first | rfl | (simp [errW_none, errW_some] <;> rfl) | (simp [*, errW_none, errW_some] <;> rfl), Bx1 HB GE207⟩
          rw [if_pos c27] at H
          have c27b0 : decide (x44_2 < (l0_4.length : Int)) = true := decide_eq_true c27
          clear c27
          by_cases c28 : 0 ≤ x44_2
          rotate_left
          · rw [if_neg c28] at H
            exact absurd H (by simp)
          rw [if_pos c28] at H
          have c28b0 : decide (0 ≤ x44_2) = true := decide_eq_true c28
          clear c28
          by_cases c29 : x44_2 < (l0_4.length : Int)
          rotate_left
          · rw [if_neg c29] at H
            exact absurd H (by simp)
          rw [if_pos c29] at H
          have c29b0 : decide (x44_2 < (l0_4.length : Int)) = true := decide_eq_true c29
          clear c29
          replace H := Option.bind_eq_some_iff.mp H
          obtain ⟨t212, A300, H⟩ := H
          replace H : (if t212 < 0 then (some (-1)) else (impl_countRoutes.l0 k2 (wrap64 (x5_2 + t212)) l0_4 (l0_4.length : Int) (wrap64 (x44_2 + 1)))) = some r := H
          have A30 := Aside0.mk A300
          clear A300
          by_cases c31 : t212 < 0
          · rw [if_pos c31] at H
            have c31b0 : decide (t212 < 0) = true := decide_eq_true c31
            clear c31
            obtain rfl := Option.some.inj H
            have p210 : 0 ≤ (x44_2 : Int) := of_decide_eq_true (by first | (with_reducible assumption) | assumption)
            have q210 : x44_2 < (l0_4.length : Int) := of_decide_eq_true (by first | (with_reducible assumption) | assumption)
            obtain ⟨ad210, A210_4, c210_4, e210, hx210_0, hx210_1, hx210_2, hx210_3, hx210_4, hl210_4, hi210_4⟩ := at_T90 HR0_4.out x44_2 p210 q210
            cases e210
            replace hx210_0 := (HB.out.cell (World.block_lt_of_cell? w _ hx210_0)).trans hx210_0
            replace hx210_1 := (HB.out.cell (World.block_lt_of_cell? w _ hx210_1)).trans hx210_1
            replace hx210_2 := (HB.out.cell (World.block_lt_of_cell? w _ hx210_2)).trans hx210_2
            replace hx210_3 := (HB.out.cell (World.block_lt_of_cell? w _ hx210_3)).trans hx210_3
            replace hx210_4 := (HB.out.cell (World.block_lt_of_cell? w _ hx210_4)).trans hx210_4
            have HR210_4 := Aside0.mk hi210_4
            have HC210_4 := Aside0.mk hl210_4
            clear hi210_4 hl210_4
            replace p210 := eq_true p210
            replace q210 := eq_true q210
            go_wp2_with (first | ((with_reducible refine gate_dst (N := 7) rfl ?_); refine box_event ?hg (N := 7) ?hd (cs := #[.string (⟨#[]⟩ : ByteArray), .bool false, .int .i64 0, .int .i64 0, .slice none 0 0]) (t := 90) ?hr ?_; (case hd => rfl); (case hg => rfl); (case hr => first | (go_simp; done) | (go_simp; rfl)); intro gb211 hg w32 hbox hb; have n0_ := Aside0.mk (blk_below (BKx BK207) hb); have n1_ := Aside0.mk (below_step (Bx1 HB GE207) hb); have n2_ := Aside0.mk (hbox); have n3_ := Aside0.mk ((by rw [hg]; exact (below_size (Bx1 HB GE207)) : w.heap.size ≤ gb211)); have n4_ := Aside0.mk ((by rw [hg]; exact (below_size (Bx1 HB GE207)) : w.heap.size ≤ gb211)); have n5_ := Aside0.mk ((by rw [hg]; exact Nat.ne_of_lt (blk_lt (BKx BK207)) : gb207 ≠ gb211)); have n6_ := Aside0.mk ((by rw [hg]; exact Nat.ne_of_gt (blk_lt (BKx BK207)) : gb211 ≠ gb207)); clear BK207; clear HB; have BK207 := n0_; have HB := n1_; have BK211 := n2_; have GW211 := n3_; have GE211 := n4_; have NB207_211 := n5_; have NB211_207 := n6_; clear n0_ n1_ n2_ n3_ n4_ n5_ n6_; clear hb hbox hg; have hnb33 := NB211_207.out; have hnc33 := NB207_211.out; have hcz34_0 : w32.cell? ⟨gb211, 0, none⟩ = some (.string (⟨#[]⟩ : ByteArray)) := (blk_cell BK211.out 0).trans rfl; have hcz34_1 : w32.cell? ⟨gb211, 1, none⟩ = some (.bool false) := (blk_cell BK211.out 1).trans rfl; have hcz34_2 : w32.cell? ⟨gb211, 2, none⟩ = some (.int .i64 0) := (blk_cell BK211.out 2).trans rfl; have hcz34_3 : w32.cell? ⟨gb211, 3, none⟩ = some (.int .i64 0) := (blk_cell BK211.out 3).trans rfl; have hcz34_4 : w32.cell? ⟨gb211, 4, none⟩ = some (.slice none 0 0) := (blk_cell BK211.out 4).trans rfl; have hfz34_0 := blk_frozen BK211.out 0; have hfz34_1 := blk_frozen BK211.out 1; have hfz34_2 := blk_frozen BK211.out 2; have hfz34_3 := blk_frozen BK211.out 3; have hfz34_4 := blk_frozen BK211.out 4) | ((with_reducible refine gate_callee (f := 123) rfl ?_); refine goesL_ (some 49) rfl rfl Try.func123 (by kernel_rfl) rfl #[.agg #[.string ((rd_T90 l0_4 x44_2).f0), .bool ((rd_T90 l0_4 x44_2).f1), .int .i64 ((rd_T90 l0_4 x44_2).f2), .int .i64 ((rd_T90 l0_4 x44_2).f3), .slice A210_4 ((rd_T90 l0_4 x44_2).f4).length c210_4], .bool false] rfl (by (try simp only [List.map_toArray, List.map_cons, List.map_nil]); first | done | rfl | (simp only [List.length_drop, List.length_take]; rfl)) ?_; (with_reducible refine (ih k2 (by have := HJ4.out; have := HK2.out; omega) ((rd_T90 l0_4 x44_2).f0) ((rd_T90 l0_4 x44_2).f1) ((rd_T90 l0_4 x44_2).f2) ((rd_T90 l0_4 x44_2).f3) _ _ ((rd_T90 l0_4 x44_2).f4) false t212 _ ?side1 ?side2 A30.out).mono ?_); (case side1 => exact Kd.C_below HR210_4.out (Bx2 HB GE207 GE211)); (case side2 => exact HC210_4.out); rintro e w35 ⟨rfl, hb⟩; refine ⟨_, rfl, ?_⟩; have n0_ := Aside0.mk (blk_below (g := gb207) (o := .cells #[.string a0_0, .bool a0_1, .int .i64 a0_2, .int .i64 a0_3, .slice (some ad210) l0_4.length c0_4] 90 (0, 0)) (by (with_reducible repeat (first | refine blk_drewN ?_ _ | refine blk_drew ?_ | refine blk_alloc ?_ _)); refine blk_far ?_ NB207_211.out _; (with_reducible repeat (first | refine blk_drewN ?_ _ | refine blk_drew ?_ | refine blk_alloc ?_ _)); refine blk_far ?_ NB207_211.out _; (with_reducible repeat (first | refine blk_drewN ?_ _ | refine blk_drew ?_ | refine blk_alloc ?_ _)); refine blk_far ?_ NB207_211.out _; (with_reducible repeat (first | refine blk_drewN ?_ _ | refine blk_drew ?_ | refine blk_alloc ?_ _)); refine blk_far ?_ NB207_211.out _; (with_reducible repeat (first | refine blk_drewN ?_ _ | refine blk_drew ?_ | refine blk_alloc ?_ _)); refine blk_far ?_ NB207_211.out _; (with_reducible repeat (first | refine blk_drewN ?_ _ | refine blk_drew ?_ | refine blk_alloc ?_ _)); exact BK207.out) hb); have n1_ := Aside0.mk (blk_below (g := gb211) (o := .cells #[.string ((rd_T90 l0_4 x44_2).f0), .bool ((rd_T90 l0_4 x44_2).f1), .int .i64 ((rd_T90 l0_4 x44_2).f2), .int .i64 ((rd_T90 l0_4 x44_2).f3), .slice A210_4 ((rd_T90 l0_4 x44_2).f4).length c210_4] 90 (0, 0)) (by (with_reducible repeat (first | refine blk_drewN ?_ _ | refine blk_drew ?_ | refine blk_alloc ?_ _)); refine blk_put (cs := #[.string ((rd_T90 l0_4 x44_2).f0), .bool ((rd_T90 l0_4 x44_2).f1), .int .i64 ((rd_T90 l0_4 x44_2).f2), .int .i64 ((rd_T90 l0_4 x44_2).f3), .slice none 0 0]) ?_ 4 _ rfl; (with_reducible repeat (first | refine blk_drewN ?_ _ | refine blk_drew ?_ | refine blk_alloc ?_ _)); refine blk_put (cs := #[.string ((rd_T90 l0_4 x44_2).f0), .bool ((rd_T90 l0_4 x44_2).f1), .int .i64 ((rd_T90 l0_4 x44_2).f2), .int .i64 0, .slice none 0 0]) ?_ 3 _ rfl; (with_reducible repeat (first | refine blk_drewN ?_ _ | refine blk_drew ?_ | refine blk_alloc ?_ _)); refine blk_put (cs := #[.string ((rd_T90 l0_4 x44_2).f0), .bool ((rd_T90 l0_4 x44_2).f1), .int .i64 0, .int .i64 0, .slice none 0 0]) ?_ 2 _ rfl; (with_reducible repeat (first | refine blk_drewN ?_ _ | refine blk_drew ?_ | refine blk_alloc ?_ _)); refine blk_put (cs := #[.string ((rd_T90 l0_4 x44_2).f0), .bool false, .int .i64 0, .int .i64 0, .slice none 0 0]) ?_ 1 _ rfl; (with_reducible repeat (first | refine blk_drewN ?_ _ | refine blk_drew ?_ | refine blk_alloc ?_ _)); refine blk_put (cs := #[.string (⟨#[]⟩ : ByteArray), .bool false, .int .i64 0, .int .i64 0, .slice none 0 0]) ?_ 0 _ rfl; (with_reducible repeat (first | refine blk_drewN ?_ _ | refine blk_drew ?_ | refine blk_alloc ?_ _)); exact BK211.out) hb); have n2_ := Aside0.mk (below_step (Bx2 HB GE207 GE211) hb); clear BK207; clear BK211; clear HB; have BK207 := n0_; have BK211 := n1_; have HB := n2_; clear n0_ n1_ n2_; (try clear hb); (try clear hb2); (try clear hk); (try clear hi)))
            go_ret
            exact ⟨by first | rfl | (simp [errW_none, errW_some] <;> rfl) | (simp [*, errW_none, errW_some] <;> rfl), Bx2 HB GE207 GE211⟩
          rw [if_neg c31] at H
          have c31b0 : decide (t212 < 0) = false := decide_eq_false c31
          clear c31
          have H' := Aside0.mk H
          clear H
          have p210 : 0 ≤ (x44_2 : Int) := of_decide_eq_true (by first | (with_reducible assumption) | assumption)
          have q210 : x44_2 < (l0_4.length : Int) := of_decide_eq_true (by first | (with_reducible assumption) | assumption)
          obtain ⟨ad210, A210_4, c210_4, e210, hx210_0, hx210_1, hx210_2, hx210_3, hx210_4, hl210_4, hi210_4⟩ := at_T90 HR0_4.out x44_2 p210 q210
          cases e210
          replace hx210_0 := (HB.out.cell (World.block_lt_of_cell? w _ hx210_0)).trans hx210_0
          replace hx210_1 := (HB.out.cell (World.block_lt_of_cell? w _ hx210_1)).trans hx210_1
          replace hx210_2 := (HB.out.cell (World.block_lt_of_cell? w _ hx210_2)).trans hx210_2
          replace hx210_3 := (HB.out.cell (World.block_lt_of_cell? w _ hx210_3)).trans hx210_3
          replace hx210_4 := (HB.out.cell (World.block_lt_of_cell? w _ hx210_4)).trans hx210_4
          have HR210_4 := Aside0.mk hi210_4
          have HC210_4 := Aside0.mk hl210_4
          clear hi210_4 hl210_4
          replace p210 := eq_true p210
          replace q210 := eq_true q210
          go_wp2_with (first | ((with_reducible refine gate_dst (N := 7) rfl ?_); refine box_event ?hg (N := 7) ?hd (cs := #[.string (⟨#[]⟩ : ByteArray), .bool false, .int .i64 0, .int .i64 0, .slice none 0 0]) (t := 90) ?hr ?_; (case hd => rfl); (case hg => rfl); (case hr => first | (go_simp; done) | (go_simp; rfl)); intro gb211 hg w36 hbox hb; have n0_ := Aside0.mk (blk_below (BKx BK207) hb); have n1_ := Aside0.mk (below_step (Bx1 HB GE207) hb); have n2_ := Aside0.mk (hbox); have n3_ := Aside0.mk ((by rw [hg]; exact (below_size (Bx1 HB GE207)) : w.heap.size ≤ gb211)); have n4_ := Aside0.mk ((by rw [hg]; exact (below_size (Bx1 HB GE207)) : w.heap.size ≤ gb211)); have n5_ := Aside0.mk ((by rw [hg]; exact Nat.ne_of_lt (blk_lt (BKx BK207)) : gb207 ≠ gb211)); have n6_ := Aside0.mk ((by rw [hg]; exact Nat.ne_of_gt (blk_lt (BKx BK207)) : gb211 ≠ gb207)); clear BK207; clear HB; have BK207 := n0_; have HB := n1_; have BK211 := n2_; have GW211 := n3_; have GE211 := n4_; have NB207_211 := n5_; have NB211_207 := n6_; clear n0_ n1_ n2_ n3_ n4_ n5_ n6_; clear hb hbox hg; have hnb37 := NB211_207.out; have hnc37 := NB207_211.out; have hcz38_0 : w36.cell? ⟨gb211, 0, none⟩ = some (.string (⟨#[]⟩ : ByteArray)) := (blk_cell BK211.out 0).trans rfl; have hcz38_1 : w36.cell? ⟨gb211, 1, none⟩ = some (.bool false) := (blk_cell BK211.out 1).trans rfl; have hcz38_2 : w36.cell? ⟨gb211, 2, none⟩ = some (.int .i64 0) := (blk_cell BK211.out 2).trans rfl; have hcz38_3 : w36.cell? ⟨gb211, 3, none⟩ = some (.int .i64 0) := (blk_cell BK211.out 3).trans rfl; have hcz38_4 : w36.cell? ⟨gb211, 4, none⟩ = some (.slice none 0 0) := (blk_cell BK211.out 4).trans rfl; have hfz38_0 := blk_frozen BK211.out 0; have hfz38_1 := blk_frozen BK211.out 1; have hfz38_2 := blk_frozen BK211.out 2; have hfz38_3 := blk_frozen BK211.out 3; have hfz38_4 := blk_frozen BK211.out 4) | ((with_reducible refine gate_callee (f := 123) rfl ?_); refine goesL_ (some 49) rfl rfl Try.func123 (by kernel_rfl) rfl #[.agg #[.string ((rd_T90 l0_4 x44_2).f0), .bool ((rd_T90 l0_4 x44_2).f1), .int .i64 ((rd_T90 l0_4 x44_2).f2), .int .i64 ((rd_T90 l0_4 x44_2).f3), .slice A210_4 ((rd_T90 l0_4 x44_2).f4).length c210_4], .bool false] rfl (by (try simp only [List.map_toArray, List.map_cons, List.map_nil]); first | done | rfl | (simp only [List.length_drop, List.length_take]; rfl)) ?_; (with_reducible refine (ih k2 (by have := HJ4.out; have := HK2.out; omega) ((rd_T90 l0_4 x44_2).f0) ((rd_T90 l0_4 x44_2).f1) ((rd_T90 l0_4 x44_2).f2) ((rd_T90 l0_4 x44_2).f3) _ _ ((rd_T90 l0_4 x44_2).f4) false t212 _ ?side1 ?side2 A30.out).mono ?_); (case side1 => exact Kd.C_below HR210_4.out (Bx2 HB GE207 GE211)); (case side2 => exact HC210_4.out); rintro e w39 ⟨rfl, hb⟩; refine ⟨_, rfl, ?_⟩; have n0_ := Aside0.mk (blk_below (g := gb207) (o := .cells #[.string a0_0, .bool a0_1, .int .i64 a0_2, .int .i64 a0_3, .slice (some ad210) l0_4.length c0_4] 90 (0, 0)) (by (with_reducible repeat (first | refine blk_drewN ?_ _ | refine blk_drew ?_ | refine blk_alloc ?_ _)); refine blk_far ?_ NB207_211.out _; (with_reducible repeat (first | refine blk_drewN ?_ _ | refine blk_drew ?_ | refine blk_alloc ?_ _)); refine blk_far ?_ NB207_211.out _; (with_reducible repeat (first | refine blk_drewN ?_ _ | refine blk_drew ?_ | refine blk_alloc ?_ _)); refine blk_far ?_ NB207_211.out _; (with_reducible repeat (first | refine blk_drewN ?_ _ | refine blk_drew ?_ | refine blk_alloc ?_ _)); refine blk_far ?_ NB207_211.out _; (with_reducible repeat (first | refine blk_drewN ?_ _ | refine blk_drew ?_ | refine blk_alloc ?_ _)); refine blk_far ?_ NB207_211.out _; (with_reducible repeat (first | refine blk_drewN ?_ _ | refine blk_drew ?_ | refine blk_alloc ?_ _)); exact BK207.out) hb); have n1_ := Aside0.mk (blk_below (g := gb211) (o := .cells #[.string ((rd_T90 l0_4 x44_2).f0), .bool ((rd_T90 l0_4 x44_2).f1), .int .i64 ((rd_T90 l0_4 x44_2).f2), .int .i64 ((rd_T90 l0_4 x44_2).f3), .slice A210_4 ((rd_T90 l0_4 x44_2).f4).length c210_4] 90 (0, 0)) (by (with_reducible repeat (first | refine blk_drewN ?_ _ | refine blk_drew ?_ | refine blk_alloc ?_ _)); refine blk_put (cs := #[.string ((rd_T90 l0_4 x44_2).f0), .bool ((rd_T90 l0_4 x44_2).f1), .int .i64 ((rd_T90 l0_4 x44_2).f2), .int .i64 ((rd_T90 l0_4 x44_2).f3), .slice none 0 0]) ?_ 4 _ rfl; (with_reducible repeat (first | refine blk_drewN ?_ _ | refine blk_drew ?_ | refine blk_alloc ?_ _)); refine blk_put (cs := #[.string ((rd_T90 l0_4 x44_2).f0), .bool ((rd_T90 l0_4 x44_2).f1), .int .i64 ((rd_T90 l0_4 x44_2).f2), .int .i64 0, .slice none 0 0]) ?_ 3 _ rfl; (with_reducible repeat (first | refine blk_drewN ?_ _ | refine blk_drew ?_ | refine blk_alloc ?_ _)); refine blk_put (cs := #[.string ((rd_T90 l0_4 x44_2).f0), .bool ((rd_T90 l0_4 x44_2).f1), .int .i64 0, .int .i64 0, .slice none 0 0]) ?_ 2 _ rfl; (with_reducible repeat (first | refine blk_drewN ?_ _ | refine blk_drew ?_ | refine blk_alloc ?_ _)); refine blk_put (cs := #[.string ((rd_T90 l0_4 x44_2).f0), .bool false, .int .i64 0, .int .i64 0, .slice none 0 0]) ?_ 1 _ rfl; (with_reducible repeat (first | refine blk_drewN ?_ _ | refine blk_drew ?_ | refine blk_alloc ?_ _)); refine blk_put (cs := #[.string (⟨#[]⟩ : ByteArray), .bool false, .int .i64 0, .int .i64 0, .slice none 0 0]) ?_ 0 _ rfl; (with_reducible repeat (first | refine blk_drewN ?_ _ | refine blk_drew ?_ | refine blk_alloc ?_ _)); exact BK211.out) hb); have n2_ := Aside0.mk (below_step (Bx2 HB GE207 GE211) hb); clear BK207; clear BK211; clear HB; have BK207 := n0_; have BK211 := n1_; have HB := n2_; clear n0_ n1_ n2_; (try clear hb); (try clear hb2); (try clear hk); (try clear hi)))
          go_roundg k2
          case measure => have := HJ4.out; have := HK2.out; omega
          case rel => exact ⟨(wrap64 (x5_2 + t212)), (wrap64 (x44_2 + 1)), (by first | rfl | (simp; done) | (simp [*]; done)), (by first | rfl | (simp; done) | (simp [*]; done)), H', ⟨by have := HJ4.out; have := HK2.out; omega⟩, ⟨by (with_reducible repeat (first | refine blk_drewN ?_ _ | refine blk_drew ?_ | refine blk_alloc ?_ _)); exact BK207.out⟩, ⟨Bx2 HB GE207 GE211⟩⟩
end Go.Proofs.Ythknoffionodmaa.QFnExactNodeOK

-- written by a program of this session
import Derived.Test.YthknoffionodmaaVShort
import Derived.Test.YthknoffionodmaaQFnExactNodeOKx0
import Derived.Test.YthknoffionodmaaQFnExactNodeOKx9
import Derived.Test.YthknoffionodmaaQFnExactNodeOKx10
namespace Go.Proofs.Ythknoffionodmaa.QFnExactNodeOK
open Go.RowKit Go.Proofs.YthknoffionodmaaV.PrintWords Go.Proofs.YthknoffionodmaaV.PrintLast Go.Proofs.YthknoffionodmaaV.PrintMore
attribute [local go_sem] max2_int min2_int max_two min_two max_three min_three max_four min_four   -- for this text's walks alone
set_option linter.unusedVariables false
set_option linter.unusedSimpArgs false

/-! ### impl_kidsOK: function 180 -/
mutual
def impl_kidsOK.l0 : Nat → List (S90) → Int → Int → ByteArray → Bool → Int → Int → List (S90) → Option (Bool)
  | 0, _, _, _, _, _, _, _, _ => none
  | k + 1, x10, x11, x12, x198000, x198001, x198002, x198003, x198004 => if x12 < x11 then (if 0 ≤ x12 then (if x12 < (x10.length : Int) then (if (((rd_T90 x10 x12).f0).size : Int) ≤ (x198000.size : Int) then (impl_kidsOK.j1 k x12 x10 x11 x12 true x198000 x198001 x198002 x198003 x198004 ((rd_T90 x10 x12).f0) ((rd_T90 x10 x12).f1) ((rd_T90 x10 x12).f2) ((rd_T90 x10 x12).f3) ((rd_T90 x10 x12).f4)) else ((impl_bitsOK.f k ((rd_T90 x10 x12).f0)).bind fun t200 => (if t200 = true then ((strings_HasPrefix.f ((rd_T90 x10 x12).f0) x198000).bind fun t201 => (impl_kidsOK.j1 k x12 x10 x11 x12 (!t201) x198000 x198001 x198002 x198003 x198004 ((rd_T90 x10 x12).f0) ((rd_T90 x10 x12).f1) ((rd_T90 x10 x12).f2) ((rd_T90 x10 x12).f3) ((rd_T90 x10 x12).f4))) else (impl_kidsOK.j1 k x12 x10 x11 x12 true x198000 x198001 x198002 x198003 x198004 ((rd_T90 x10 x12).f0) ((rd_T90 x10 x12).f1) ((rd_T90 x10 x12).f2) ((rd_T90 x10 x12).f3) ((rd_T90 x10 x12).f4))))) else (none)) else (none)) else (some true)
def impl_kidsOK.j1 : Nat → Int → List (S90) → Int → Int → Bool → ByteArray → Bool → Int → Int → List (S90) → ByteArray → Bool → Int → Int → List (S90) → Option (Bool)
  | 0, _, _, _, _, _, _, _, _, _, _, _, _, _, _, _ => none
  | k + 1, x3, x10, x11, x12, x37, x198000, x198001, x198002, x198003, x198004, x200000, x200001, x200002, x200003, x200004 => if x37 = true then (some false) else (if x3 = 1 then (if 0 < (x198004.length : Int) then (if 0 ≤ (x198000.size : Int) then (if (x198000.size : Int) < (((rd_T90 x198004 0).f0).size : Int) then (if (x198000.size : Int) < (x200000.size : Int) then (if (bt ((rd_T90 x198004 0).f0) (x198000.size : Int)) ≥ (bt x200000 (x198000.size : Int)) then (some false) else (impl_kidsOK.l0 k x10 x11 (wrap64 (x12 + 1)) x198000 x198001 x198002 x198003 x198004)) else (none)) else (none)) else (none)) else (none)) else (impl_kidsOK.l0 k x10 x11 (wrap64 (x12 + 1)) x198000 x198001 x198002 x198003 x198004))
end
def impl_kidsOK.f (k : Nat) (a0_0 : ByteArray) (a0_1 : Bool) (a0_2 : Int) (a0_3 : Int) (l0_4 : List (S90)) : Option (Bool) := if (l0_4.length : Int) > 2 then (some false) else (impl_kidsOK.l0 k l0_4 (l0_4.length : Int) 0 a0_0 a0_1 a0_2 a0_3 l0_4)
theorem impl_kidsOK.mono_l : ∀ k, (∀ y0 y1 y2 y3 y4 y5 y6 y7, LeO (impl_kidsOK.l0 k y0 y1 y2 y3 y4 y5 y6 y7) (impl_kidsOK.l0 (k + 1) y0 y1 y2 y3 y4 y5 y6 y7)) ∧ (∀ y0 y1 y2 y3 y4 y5 y6 y7 y8 y9 y10 y11 y12 y13 y14, LeO (impl_kidsOK.j1 k y0 y1 y2 y3 y4 y5 y6 y7 y8 y9 y10 y11 y12 y13 y14) (impl_kidsOK.j1 (k + 1) y0 y1 y2 y3 y4 y5 y6 y7 y8 y9 y10 y11 y12 y13 y14))
  | 0 => ⟨fun _ _ _ _ _ _ _ _ r h => by simp [impl_kidsOK.l0] at h, fun _ _ _ _ _ _ _ _ _ _ _ _ _ _ _ r h => by simp [impl_kidsOK.j1] at h⟩
  | k + 1 => by
    obtain ⟨ih0, ih1⟩ := impl_kidsOK.mono_l k
    refine ⟨?_, ?_⟩
    · intro y0 y1 y2 y3 y4 y5 y6 y7
      unfold impl_kidsOK.l0
      repeat' first
      | (with_reducible exact ih0 _ _ _ _ _ _ _ _)
      | (with_reducible exact ih1 _ _ _ _ _ _ _ _ _ _ _ _ _ _ _)
      | (with_reducible exact impl_bitsOK.mono _ _)
      | (with_reducible exact LeO.refl _)
      | (with_reducible exact LeO.none _)
      | (with_reducible refine LeO.ite ?_ ?_)
      | (with_reducible refine LeO.bind ?_ (fun _ => ?_))
      | exact ih0 _ _ _ _ _ _ _ _
      | exact ih1 _ _ _ _ _ _ _ _ _ _ _ _ _ _ _
      | exact impl_bitsOK.mono _ _
      | exact LeO.none _
      | refine LeO.ite ?_ ?_
      | refine LeO.bind ?_ (fun _ => ?_)
    · intro y0 y1 y2 y3 y4 y5 y6 y7 y8 y9 y10 y11 y12 y13 y14
      unfold impl_kidsOK.j1
      repeat' first
      | (with_reducible exact ih0 _ _ _ _ _ _ _ _)
      | (with_reducible exact ih1 _ _ _ _ _ _ _ _ _ _ _ _ _ _ _)
      | (with_reducible exact impl_bitsOK.mono _ _)
      | (with_reducible exact LeO.refl _)
      | (with_reducible exact LeO.none _)
      | (with_reducible refine LeO.ite ?_ ?_)
      | (with_reducible refine LeO.bind ?_ (fun _ => ?_))
      | exact ih0 _ _ _ _ _ _ _ _
      | exact ih1 _ _ _ _ _ _ _ _ _ _ _ _ _ _ _
      | exact impl_bitsOK.mono _ _
      | exact LeO.none _
      | refine LeO.ite ?_ ?_
      | refine LeO.bind ?_ (fun _ => ?_)
theorem impl_kidsOK.mono : ∀ a0 a1 a2 a3 a4 k, LeO (impl_kidsOK.f k a0 a1 a2 a3 a4) (impl_kidsOK.f (k + 1) a0 a1 a2 a3 a4) := by
  intro a0 a1 a2 a3 a4 k
  obtain ⟨ih0, ih1⟩ := impl_kidsOK.mono_l k
  unfold impl_kidsOK.f
  repeat' first
      | (with_reducible exact ih0 _ _ _ _ _ _ _ _)
      | (with_reducible exact ih1 _ _ _ _ _ _ _ _ _ _ _ _ _ _ _)
      | (with_reducible exact impl_bitsOK.mono _ _)
      | (with_reducible exact LeO.refl _)
      | (with_reducible exact LeO.none _)
      | (with_reducible refine LeO.ite ?_ ?_)
      | (with_reducible refine LeO.bind ?_ (fun _ => ?_))
      | exact ih0 _ _ _ _ _ _ _ _
      | exact ih1 _ _ _ _ _ _ _ _ _ _ _ _ _ _ _
      | exact impl_bitsOK.mono _ _
      | exact LeO.none _
      | refine LeO.ite ?_ ?_
      | refine LeO.bind ?_ (fun _ => ?_)
set_option maxHeartbeats 8000000 in
set_option maxRecDepth 100000 in
theorem impl_kidsOK.calls (k : Nat) (a0_0 : ByteArray) (a0_1 : Bool) (a0_2 : Int) (a0_3 : Int) (A0_4 : Option Addr) (c0_4 : Nat) (l0_4 : List (S90)) (r : Bool) (w : World) (hr0_4 : Kd.C k90 w A0_4 l0_4.length l0_4) (hc0_4 : l0_4.length ≤ c0_4) (h : impl_kidsOK.f k a0_0 a0_1 a0_2 a0_3 l0_4 = some r) :
    Calls Try.prog 180 #[.agg #[.string a0_0, .bool a0_1, .int .i64 a0_2, .int .i64 a0_3, .slice A0_4 l0_4.length c0_4]] w fun e w' => e = .returned (.bool r) ∧ Below w.heap.size w w' := by
  have hu90 := Try.underlying90
  have HR0_4 := Aside0.mk hr0_4
  have HC0_4 := Aside0.mk hc0_4
  clear hr0_4 hc0_4
  have HB := Aside0.mk (Below.refl w.heap.size w)
  have H : (if (l0_4.length : Int) > 2 then (some false) else (impl_kidsOK.l0 k l0_4 (l0_4.length : Int) 0 a0_0 a0_1 a0_2 a0_3 l0_4)) = some r := h
  clear h
  by_cases c2 : (l0_4.length : Int) > 2
  · rw [if_pos c2] at H
    have c2b0 : decide (2 < (l0_4.length : Int)) = true := decide_eq_true c2
    have c2b1 : decide (2 < l0_4.length) = true := decide_eq_true (by omega)
    clear c2
    obtain rfl := Option.some.inj H
    go_enter Try.func180, Try.ntmps180
    go_wp2_with (first | ((with_reducible refine gate_dst (N := 1) rfl ?_); refine box_event ?hg (N := 1) ?hd (cs := #[.string a0_0, .bool a0_1, .int .i64 a0_2, .int .i64 a0_3, .slice A0_4 l0_4.length c0_4]) (t := 90) ?hr ?_; (case hd => rfl); (case hg => rfl); (case hr => first | (go_simp; done) | (go_simp; rfl)); intro gb197 hg w3 hbox hb; have n0_ := Aside0.mk (below_step (Bx0 HB) hb); have n1_ := Aside0.mk (hbox); have n2_ := Aside0.mk ((by rw [hg]; exact (below_size (Bx0 HB)) : w.heap.size ≤ gb197)); have n3_ := Aside0.mk ((by rw [hg]; exact (below_size (Bx0 HB)) : w.heap.size ≤ gb197)); clear HB; have HB := n0_; have BK197 := n1_; have GW197 := n2_; have GE197 := n3_; clear n0_ n1_ n2_ n3_; clear hb hbox hg; have hcz4_0 : w3.cell? ⟨gb197, 0, none⟩ = some (.string a0_0) := (blk_cell BK197.out 0).trans rfl; have hcz4_1 : w3.cell? ⟨gb197, 1, none⟩ = some (.bool a0_1) := (blk_cell BK197.out 1).trans rfl; have hcz4_2 : w3.cell? ⟨gb197, 2, none⟩ = some (.int .i64 a0_2) := (blk_cell BK197.out 2).trans rfl; have hcz4_3 : w3.cell? ⟨gb197, 3, none⟩ = some (.int .i64 a0_3) := (blk_cell BK197.out 3).trans rfl; have hcz4_4 : w3.cell? ⟨gb197, 4, none⟩ = some (.slice A0_4 l0_4.length c0_4) := (blk_cell BK197.out 4).trans rfl; have hfz4_0 := blk_frozen BK197.out 0; have hfz4_1 := blk_frozen BK197.out 1; have hfz4_2 := blk_frozen BK197.out 2; have hfz4_3 := blk_frozen BK197.out 3; have hfz4_4 := blk_frozen BK197.out 4))
    repeat (go_quiet (first | ((with_reducible refine gate_dst (N := 1) rfl ?_); refine box_event ?hg (N := 1) ?hd (cs := #[.string a0_0, .bool a0_1, .int .i64 a0_2, .int .i64 a0_3, .slice A0_4 l0_4.length c0_4]) (t := 90) ?hr ?_; (case hd => rfl); (case hg => rfl); (case hr => first | (go_simp; done) | (go_simp; rfl)); intro gb197 hg w3 hbox hb; have n0_ := Aside0.mk (below_step (Bx0 HB) hb); have n1_ := Aside0.mk (hbox); have n2_ := Aside0.mk ((by rw [hg]; exact (below_size (Bx0 HB)) : w.heap.size ≤ gb197)); have n3_ := Aside0.mk ((by rw [hg]; exact (below_size (Bx0 HB)) : w.heap.size ≤ gb197)); clear HB; have HB := n0_; have BK197 := n1_; have GW197 := n2_; have GE197 := n3_; clear n0_ n1_ n2_ n3_; clear hb hbox hg; have hcz4_0 : w3.cell? ⟨gb197, 0, none⟩ = some (.string a0_0) := (blk_cell BK197.out 0).trans rfl; have hcz4_1 : w3.cell? ⟨gb197, 1, none⟩ = some (.bool a0_1) := (blk_cell BK197.out 1).trans rfl; have hcz4_2 : w3.cell? ⟨gb197, 2, none⟩ = some (.int .i64 a0_2) := (blk_cell BK197.out 2).trans rfl; have hcz4_3 : w3.cell? ⟨gb197, 3, none⟩ = some (.int .i64 a0_3) := (blk_cell BK197.out 3).trans rfl; have hcz4_4 : w3.cell? ⟨gb197, 4, none⟩ = some (.slice A0_4 l0_4.length c0_4) := (blk_cell BK197.out 4).trans rfl; have hfz4_0 := blk_frozen BK197.out 0; have hfz4_1 := blk_frozen BK197.out 1; have hfz4_2 := blk_frozen BK197.out 2; have hfz4_3 := blk_frozen BK197.out 3; have hfz4_4 := blk_frozen BK197.out 4)); try go_wp2_with (first | ((with_reducible refine gate_dst (N := 1) rfl ?_); refine box_event ?hg (N := 1) ?hd (cs := #[.string a0_0, .bool a0_1, .int .i64 a0_2, .int .i64 a0_3, .slice A0_4 l0_4.length c0_4]) (t := 90) ?hr ?_; (case hd => rfl); (case hg => rfl); (case hr => first | (go_simp; done) | (go_simp; rfl)); intro gb197 hg w3 hbox hb; have n0_ := Aside0.mk (below_step (Bx0 HB) hb); have n1_ := Aside0.mk (hbox); have n2_ := Aside0.mk ((by rw [hg]; exact (below_size (Bx0 HB)) : w.heap.size ≤ gb197)); have n3_ := Aside0.mk ((by rw [hg]; exact (below_size (Bx0 HB)) : w.heap.size ≤ gb197)); clear HB; have HB := n0_; have BK197 := n1_; have GW197 := n2_; have GE197 := n3_; clear n0_ n1_ n2_ n3_; clear hb hbox hg; have hcz4_0 : w3.cell? ⟨gb197, 0, none⟩ = some (.string a0_0) := (blk_cell BK197.out 0).trans rfl; have hcz4_1 : w3.cell? ⟨gb197, 1, none⟩ = some (.bool a0_1) := (blk_cell BK197.out 1).trans rfl; have hcz4_2 : w3.cell? ⟨gb197, 2, none⟩ = some (.int .i64 a0_2) := (blk_cell BK197.out 2).trans rfl; have hcz4_3 : w3.cell? ⟨gb197, 3, none⟩ = some (.int .i64 a0_3) := (blk_cell BK197.out 3).trans rfl; have hcz4_4 : w3.cell? ⟨gb197, 4, none⟩ = some (.slice A0_4 l0_4.length c0_4) := (blk_cell BK197.out 4).trans rfl; have hfz4_0 := blk_frozen BK197.out 0; have hfz4_1 := blk_frozen BK197.out 1; have hfz4_2 := blk_frozen BK197.out 2; have hfz4_3 := blk_frozen BK197.out 3; have hfz4_4 := blk_frozen BK197.out 4)))
    go_ret
    exact ⟨by first | rfl | (simp [errW_none, errW_some] <;> rfl) | (simp [*, errW_none, errW_some] <;> rfl), Bx1 HB GE197⟩
  rw [if_neg c2] at H
  have c2b0 : decide (2 < (l0_4.length : Int)) = false := decide_eq_false c2
  have c2b1 : decide (2 < l0_4.length) = false := decide_eq_false (by omega)
  clear c2
  have H' := Aside0.mk H
  clear H
  go_enter Try.func180, Try.ntmps180
  go_wp2_with (first | ((with_reducible refine gate_dst (N := 1) rfl ?_); refine box_event ?hg (N := 1) ?hd (cs := #[.string a0_0, .bool a0_1, .int .i64 a0_2, .int .i64 a0_3, .slice A0_4 l0_4.length c0_4]) (t := 90) ?hr ?_; (case hd => rfl); (case hg => rfl); (case hr => first | (go_simp; done) | (go_simp; rfl)); intro gb197 hg w5 hbox hb; have n0_ := Aside0.mk (below_step (Bx0 HB) hb); have n1_ := Aside0.mk (hbox); have n2_ := Aside0.mk ((by rw [hg]; exact (below_size (Bx0 HB)) : w.heap.size ≤ gb197)); have n3_ := Aside0.mk ((by rw [hg]; exact (below_size (Bx0 HB)) : w.heap.size ≤ gb197)); clear HB; have HB := n0_; have BK197 := n1_; have GW197 := n2_; have GE197 := n3_; clear n0_ n1_ n2_ n3_; clear hb hbox hg; have hcz6_0 : w5.cell? ⟨gb197, 0, none⟩ = some (.string a0_0) := (blk_cell BK197.out 0).trans rfl; have hcz6_1 : w5.cell? ⟨gb197, 1, none⟩ = some (.bool a0_1) := (blk_cell BK197.out 1).trans rfl; have hcz6_2 : w5.cell? ⟨gb197, 2, none⟩ = some (.int .i64 a0_2) := (blk_cell BK197.out 2).trans rfl; have hcz6_3 : w5.cell? ⟨gb197, 3, none⟩ = some (.int .i64 a0_3) := (blk_cell BK197.out 3).trans rfl; have hcz6_4 : w5.cell? ⟨gb197, 4, none⟩ = some (.slice A0_4 l0_4.length c0_4) := (blk_cell BK197.out 4).trans rfl; have hfz6_0 := blk_frozen BK197.out 0; have hfz6_1 := blk_frozen BK197.out 1; have hfz6_2 := blk_frozen BK197.out 2; have hfz6_3 := blk_frozen BK197.out 3; have hfz6_4 := blk_frozen BK197.out 4))
  repeat (go_quiet (first | ((with_reducible refine gate_dst (N := 1) rfl ?_); refine box_event ?hg (N := 1) ?hd (cs := #[.string a0_0, .bool a0_1, .int .i64 a0_2, .int .i64 a0_3, .slice A0_4 l0_4.length c0_4]) (t := 90) ?hr ?_; (case hd => rfl); (case hg => rfl); (case hr => first | (go_simp; done) | (go_simp; rfl)); intro gb197 hg w5 hbox hb; have n0_ := Aside0.mk (below_step (Bx0 HB) hb); have n1_ := Aside0.mk (hbox); have n2_ := Aside0.mk ((by rw [hg]; exact (below_size (Bx0 HB)) : w.heap.size ≤ gb197)); have n3_ := Aside0.mk ((by rw [hg]; exact (below_size (Bx0 HB)) : w.heap.size ≤ gb197)); clear HB; have HB := n0_; have BK197 := n1_; have GW197 := n2_; have GE197 := n3_; clear n0_ n1_ n2_ n3_; clear hb hbox hg; have hcz6_0 : w5.cell? ⟨gb197, 0, none⟩ = some (.string a0_0) := (blk_cell BK197.out 0).trans rfl; have hcz6_1 : w5.cell? ⟨gb197, 1, none⟩ = some (.bool a0_1) := (blk_cell BK197.out 1).trans rfl; have hcz6_2 : w5.cell? ⟨gb197, 2, none⟩ = some (.int .i64 a0_2) := (blk_cell BK197.out 2).trans rfl; have hcz6_3 : w5.cell? ⟨gb197, 3, none⟩ = some (.int .i64 a0_3) := (blk_cell BK197.out 3).trans rfl; have hcz6_4 : w5.cell? ⟨gb197, 4, none⟩ = some (.slice A0_4 l0_4.length c0_4) := (blk_cell BK197.out 4).trans rfl; have hfz6_0 := blk_frozen BK197.out 0; have hfz6_1 := blk_frozen BK197.out 1; have hfz6_2 := blk_frozen BK197.out 2; have hfz6_3 := blk_frozen BK197.out 3; have hfz6_4 := blk_frozen BK197.out 4)); try go_wp2_with (first | ((with_reducible refine gate_dst (N := 1) rfl ?_); refine box_event ?hg (N := 1) ?hd (cs := #[.string a0_0, .bool a0_1, .int .i64 a0_2, .int .i64 a0_3, .slice A0_4 l0_4.length c0_4]) (t := 90) ?hr ?_; (case hd => rfl); (case hg => rfl); (case hr => first | (go_simp; done) | (go_simp; rfl)); intro gb197 hg w5 hbox hb; have n0_ := Aside0.mk (below_step (Bx0 HB) hb); have n1_ := Aside0.mk (hbox); have n2_ := Aside0.mk ((by rw [hg]; exact (below_size (Bx0 HB)) : w.heap.size ≤ gb197)); have n3_ := Aside0.mk ((by rw [hg]; exact (below_size (Bx0 HB)) : w.heap.size ≤ gb197)); clear HB; have HB := n0_; have BK197 := n1_; have GW197 := n2_; have GE197 := n3_; clear n0_ n1_ n2_ n3_; clear hb hbox hg; have hcz6_0 : w5.cell? ⟨gb197, 0, none⟩ = some (.string a0_0) := (blk_cell BK197.out 0).trans rfl; have hcz6_1 : w5.cell? ⟨gb197, 1, none⟩ = some (.bool a0_1) := (blk_cell BK197.out 1).trans rfl; have hcz6_2 : w5.cell? ⟨gb197, 2, none⟩ = some (.int .i64 a0_2) := (blk_cell BK197.out 2).trans rfl; have hcz6_3 : w5.cell? ⟨gb197, 3, none⟩ = some (.int .i64 a0_3) := (blk_cell BK197.out 3).trans rfl; have hcz6_4 : w5.cell? ⟨gb197, 4, none⟩ = some (.slice A0_4 l0_4.length c0_4) := (blk_cell BK197.out 4).trans rfl; have hfz6_0 := blk_frozen BK197.out 0; have hfz6_1 := blk_frozen BK197.out 1; have hfz6_2 := blk_frozen BK197.out 2; have hfz6_3 := blk_frozen BK197.out 3; have hfz6_4 := blk_frozen BK197.out 4)))
  go_loopg [12] k (fun kq v12 w' => ∃ (x12_1 : Int), v12 = .int .i64 x12_1 ∧ Aside0 (impl_kidsOK.l0 kq l0_4 (l0_4.length : Int) x12_1 a0_0 a0_1 a0_2 a0_3 l0_4 = some r) ∧ Aside0 (kq ≤ k) ∧ Aside0 (w'.heap[gb197]? = some (.cells #[.string a0_0, .bool a0_1, .int .i64 a0_2, .int .i64 a0_3, (.slice A0_4 l0_4.length c0_4)] 90 (0, 0))) ∧ Aside0 (Below w.heap.size w w'))
  case atStart => exact ⟨(0), (by first | rfl | (simp; done) | (simp [*]; done)), H', ⟨Nat.le_refl _⟩, ⟨by (with_reducible repeat (first | refine blk_drewN ?_ _ | refine blk_drew ?_ | refine blk_alloc ?_ _)); exact BK197.out⟩, ⟨Bx1 HB GE197⟩⟩
  case round =>
    clear H'
    try clear c1
    try clear c2
    try clear c2b0
    try clear c2b1
    try clear p2
    try clear hcz4_0 hcz4_1 hcz4_2 hcz4_3 hcz4_4
    try clear hcz6_0 hcz6_1 hcz6_2 hcz6_3 hcz6_4
    try clear hfz4_0 hfz4_1 hfz4_2 hfz4_3 hfz4_4
    try clear hfz6_0 hfz6_1 hfz6_2 hfz6_3 hfz6_4
    obtain ⟨x12_1, rfl, HA, HK1, BK197, HB⟩ := hrel
    cases gk with
    | zero => exact absurd HA.out (by simp [impl_kidsOK.l0])
    | succ k1 =>
      have H := HA.out
      clear HA
      simp only [impl_kidsOK.l0] at H
      by_cases c7 : x12_1 < (l0_4.length : Int)
      rotate_left
      · rw [if_neg c7] at H
        have c7b0 : decide (x12_1 < (l0_4.length : Int)) = false := decide_eq_false c7
        clear c7
        obtain rfl := Option.some.inj H
        go_wp2
        repeat (go_quiet (fail); try go_wp2)
        go_ret
        exact ⟨by first | rfl | (simp [errW_none, errW_some] <;> rfl) | (simp [*, errW_none, errW_some] <;> rfl), Bx1 HB GE197⟩

      rw [if_pos c7] at H
      have c7b0 : decide (x12_1 < (l0_4.length : Int)) = true := decide_eq_true c7
      clear c7
      by_cases c8 : 0 ≤ x12_1
      rotate_left
      · rw [if_neg c8] at H
        exact absurd H (by simp)
      rw [if_pos c8] at H
      have c8b0 : decide (0 ≤ x12_1) = true := decide_eq_true c8
      clear c8
      by_cases c9 : x12_1 < (l0_4.length : Int)
      rotate_left
      · rw [if_neg c9] at H
        exact absurd H (by simp)
      rw [if_pos c9] at H
      have c9b0 : decide (x12_1 < (l0_4.length : Int)) = true := decide_eq_true c9
      clear c9
      have HC10 := Aside0.mk H
      clear H
      have p198 : 0 ≤ (x12_1 : Int) := of_decide_eq_true (by first | (with_reducible assumption) | assumption)
      have q198 : x12_1 < (l0_4.length : Int) := of_decide_eq_true (by first | (with_reducible assumption) | assumption)
      obtain ⟨ad198, A198_4, c198_4, e198, hx198_0, hx198_1, hx198_2, hx198_3, hx198_4, hl198_4, hi198_4⟩ := at_T90 HR0_4.out x12_1 p198 q198
      cases e198
      replace hx198_0 := (HB.out.cell (World.block_lt_of_cell? w _ hx198_0)).trans hx198_0
      replace hx198_1 := (HB.out.cell (World.block_lt_of_cell? w _ hx198_1)).trans hx198_1
      replace hx198_2 := (HB.out.cell (World.block_lt_of_cell? w _ hx198_2)).trans hx198_2
      replace hx198_3 := (HB.out.cell (World.block_lt_of_cell? w _ hx198_3)).trans hx198_3
      replace hx198_4 := (HB.out.cell (World.block_lt_of_cell? w _ hx198_4)).trans hx198_4
      have HR198_4 := Aside0.mk hi198_4
      have HC198_4 := Aside0.mk hl198_4
      clear hi198_4 hl198_4
      replace p198 := eq_true p198
      replace q198 := eq_true q198
      go_upto_region 6 with (first | ((with_reducible refine gate_dst (N := 4) rfl ?_); refine box_event ?hg (N := 4) ?hd (cs := #[.string (⟨#[]⟩ : ByteArray), .bool false, .int .i64 0, .int .i64 0, .slice none 0 0]) (t := 90) ?hr ?_; (case hd => rfl); (case hg => rfl); (case hr => first | (go_simp; done) | (go_simp; rfl)); intro gb199 hg w11 hbox hb; have n0_ := Aside0.mk (blk_below (BKx BK197) hb); have n1_ := Aside0.mk (below_step (Bx1 HB GE197) hb); have n2_ := Aside0.mk (hbox); have n3_ := Aside0.mk ((by rw [hg]; exact (below_size (Bx1 HB GE197)) : w.heap.size ≤ gb199)); have n4_ := Aside0.mk ((by rw [hg]; exact (below_size (Bx1 HB GE197)) : w.heap.size ≤ gb199)); have n5_ := Aside0.mk ((by rw [hg]; exact Nat.ne_of_lt (blk_lt (BKx BK197)) : gb197 ≠ gb199)); have n6_ := Aside0.mk ((by rw [hg]; exact Nat.ne_of_gt (blk_lt (BKx BK197)) : gb199 ≠ gb197)); clear BK197; clear HB; have BK197 := n0_; have HB := n1_; have BK199 := n2_; have GW199 := n3_; have GE199 := n4_; have NB197_199 := n5_; have NB199_197 := n6_; clear n0_ n1_ n2_ n3_ n4_ n5_ n6_; clear hb hbox hg; have hnb12 := NB199_197.out; have hnc12 := NB197_199.out; have hcz13_0 : w11.cell? ⟨gb199, 0, none⟩ = some (.string (⟨#[]⟩ : ByteArray)) := (blk_cell BK199.out 0).trans rfl; have hcz13_1 : w11.cell? ⟨gb199, 1, none⟩ = some (.bool false) := (blk_cell BK199.out 1).trans rfl; have hcz13_2 : w11.cell? ⟨gb199, 2, none⟩ = some (.int .i64 0) := (blk_cell BK199.out 2).trans rfl; have hcz13_3 : w11.cell? ⟨gb199, 3, none⟩ = some (.int .i64 0) := (blk_cell BK199.out 3).trans rfl; have hcz13_4 : w11.cell? ⟨gb199, 4, none⟩ = some (.slice none 0 0) := (blk_cell BK199.out 4).trans rfl; have hfz13_0 := blk_frozen BK199.out 0; have hfz13_1 := blk_frozen BK199.out 1; have hfz13_2 := blk_frozen BK199.out 2; have hfz13_3 := blk_frozen BK199.out 3; have hfz13_4 := blk_frozen BK199.out 4))
      repeat (go_quiet (first | ((with_reducible refine gate_dst (N := 4) rfl ?_); refine box_event ?hg (N := 4) ?hd (cs := #[.string (⟨#[]⟩ : ByteArray), .bool false, .int .i64 0, .int .i64 0, .slice none 0 0]) (t := 90) ?hr ?_; (case hd => rfl); (case hg => rfl); (case hr => first | (go_simp; done) | (go_simp; rfl)); intro gb199 hg w11 hbox hb; have n0_ := Aside0.mk (blk_below (BKx BK197) hb); have n1_ := Aside0.mk (below_step (Bx1 HB GE197) hb); have n2_ := Aside0.mk (hbox); have n3_ := Aside0.mk ((by rw [hg]; exact (below_size (Bx1 HB GE197)) : w.heap.size ≤ gb199)); have n4_ := Aside0.mk ((by rw [hg]; exact (below_size (Bx1 HB GE197)) : w.heap.size ≤ gb199)); have n5_ := Aside0.mk ((by rw [hg]; exact Nat.ne_of_lt (blk_lt (BKx BK197)) : gb197 ≠ gb199)); have n6_ := Aside0.mk ((by rw [hg]; exact Nat.ne_of_gt (blk_lt (BKx BK197)) : gb199 ≠ gb197)); clear BK197; clear HB; have BK197 := n0_; have HB := n1_; have BK199 := n2_; have GW199 := n3_; have GE199 := n4_; have NB197_199 := n5_; have NB199_197 := n6_; clear n0_ n1_ n2_ n3_ n4_ n5_ n6_; clear hb hbox hg; have hnb12 := NB199_197.out; have hnc12 := NB197_199.out; have hcz13_0 : w11.cell? ⟨gb199, 0, none⟩ = some (.string (⟨#[]⟩ : ByteArray)) := (blk_cell BK199.out 0).trans rfl; have hcz13_1 : w11.cell? ⟨gb199, 1, none⟩ = some (.bool false) := (blk_cell BK199.out 1).trans rfl; have hcz13_2 : w11.cell? ⟨gb199, 2, none⟩ = some (.int .i64 0) := (blk_cell BK199.out 2).trans rfl; have hcz13_3 : w11.cell? ⟨gb199, 3, none⟩ = some (.int .i64 0) := (blk_cell BK199.out 3).trans rfl; have hcz13_4 : w11.cell? ⟨gb199, 4, none⟩ = some (.slice none 0 0) := (blk_cell BK199.out 4).trans rfl; have hfz13_0 := blk_frozen BK199.out 0; have hfz13_1 := blk_frozen BK199.out 1; have hfz13_2 := blk_frozen BK199.out 2; have hfz13_3 := blk_frozen BK199.out 3; have hfz13_4 := blk_frozen BK199.out 4)); go_upto_region 6 with (first | ((with_reducible refine gate_dst (N := 4) rfl ?_); refine box_event ?hg (N := 4) ?hd (cs := #[.string (⟨#[]⟩ : ByteArray), .bool false, .int .i64 0, .int .i64 0, .slice none 0 0]) (t := 90) ?hr ?_; (case hd => rfl); (case hg => rfl); (case hr => first | (go_simp; done) | (go_simp; rfl)); intro gb199 hg w11 hbox hb; have n0_ := Aside0.mk (blk_below (BKx BK197) hb); have n1_ := Aside0.mk (below_step (Bx1 HB GE197) hb); have n2_ := Aside0.mk (hbox); have n3_ := Aside0.mk ((by rw [hg]; exact (below_size (Bx1 HB GE197)) : w.heap.size ≤ gb199)); have n4_ := Aside0.mk ((by rw [hg]; exact (below_size (Bx1 HB GE197)) : w.heap.size ≤ gb199)); have n5_ := Aside0.mk ((by rw [hg]; exact Nat.ne_of_lt (blk_lt (BKx BK197)) : gb197 ≠ gb199)); have n6_ := Aside0.mk ((by rw [hg]; exact Nat.ne_of_gt (blk_lt (BKx BK197)) : gb199 ≠ gb197)); clear BK197; clear HB; have BK197 := n0_; have HB := n1_; have BK199 := n2_; have GW199 := n3_; have GE199 := n4_; have NB197_199 := n5_; have NB199_197 := n6_; clear n0_ n1_ n2_ n3_ n4_ n5_ n6_; clear hb hbox hg; have hnb12 := NB199_197.out; have hnc12 := NB197_199.out; have hcz13_0 : w11.cell? ⟨gb199, 0, none⟩ = some (.string (⟨#[]⟩ : ByteArray)) := (blk_cell BK199.out 0).trans rfl; have hcz13_1 : w11.cell? ⟨gb199, 1, none⟩ = some (.bool false) := (blk_cell BK199.out 1).trans rfl; have hcz13_2 : w11.cell? ⟨gb199, 2, none⟩ = some (.int .i64 0) := (blk_cell BK199.out 2).trans rfl; have hcz13_3 : w11.cell? ⟨gb199, 3, none⟩ = some (.int .i64 0) := (blk_cell BK199.out 3).trans rfl; have hcz13_4 : w11.cell? ⟨gb199, 4, none⟩ = some (.slice none 0 0) := (blk_cell BK199.out 4).trans rfl; have hfz13_0 := blk_frozen BK199.out 0; have hfz13_1 := blk_frozen BK199.out 1; have hfz13_2 := blk_frozen BK199.out 2; have hfz13_3 := blk_frozen BK199.out 3; have hfz13_4 := blk_frozen BK199.out 4)))
      (try simp only [Act.put, List.setIfInBounds_toArray, List.set_cons_zero, List.set_cons_succ])
      go_cut [37] (fun v37 wc => ∃ (kq : Nat) (x37_9 : Bool), v37 = .bool x37_9 ∧ Aside0 (impl_kidsOK.j1 kq x12_1 l0_4 (l0_4.length : Int) x12_1 x37_9 a0_0 a0_1 a0_2 a0_3 l0_4 ((rd_T90 l0_4 x12_1).f0) ((rd_T90 l0_4 x12_1).f1) ((rd_T90 l0_4 x12_1).f2) ((rd_T90 l0_4 x12_1).f3) ((rd_T90 l0_4 x12_1).f4) = some r) ∧ Aside0 (kq ≤ k1) ∧ Aside0 (wc.heap[gb197]? = some (.cells #[.string a0_0, .bool a0_1, .int .i64 a0_2, .int .i64 a0_3, (.slice (some ad198) l0_4.length c0_4)] 90 (0, 0))) ∧ Aside0 (wc.heap[gb199]? = some (.cells #[.string ((rd_T90 l0_4 x12_1).f0), .bool ((rd_T90 l0_4 x12_1).f1), .int .i64 ((rd_T90 l0_4 x12_1).f2), .int .i64 ((rd_T90 l0_4 x12_1).f3), (.slice A198_4 ((rd_T90 l0_4 x12_1).f4).length c198_4)] 90 (0, 0))) ∧ Aside0 (Below w.heap.size w wc))
      case first =>
        have H := HC10.out
        clear HC10
        by_cases c14 : (((rd_T90 l0_4 x12_1).f0).size : Int) ≤ (a0_0.size : Int)
        · rw [if_pos c14] at H
          have c14b0 : decide ((((rd_T90 l0_4 x12_1).f0).size : Int) ≤ (a0_0.size : Int)) = true := decide_eq_true c14
          have c14b1 : decide (((rd_T90 l0_4 x12_1).f0).size ≤ a0_0.size) = true := decide_eq_true (Int.ofNat_le.mp c14)
          clear c14
          (first | rw [c14b0] | (simp only [i64_w, i32_w]; rw [c14b0]) | skip)
          have H' := Aside0.mk H
          clear H
          have hnb15 := NB199_197.out
          have hnc15 := NB197_199.out
          have hcz16_0 : w11.cell? ⟨gb199, 0, none⟩ = some (.string (⟨#[]⟩ : ByteArray)) := (blk_cell BK199.out 0).trans rfl
          have hcz16_1 : w11.cell? ⟨gb199, 1, none⟩ = some (.bool false) := (blk_cell BK199.out 1).trans rfl
          have hcz16_2 : w11.cell? ⟨gb199, 2, none⟩ = some (.int .i64 0) := (blk_cell BK199.out 2).trans rfl
          have hcz16_3 : w11.cell? ⟨gb199, 3, none⟩ = some (.int .i64 0) := (blk_cell BK199.out 3).trans rfl
          have hcz16_4 : w11.cell? ⟨gb199, 4, none⟩ = some (.slice none 0 0) := (blk_cell BK199.out 4).trans rfl
          have hfz16_0 := blk_frozen BK199.out 0
          have hfz16_1 := blk_frozen BK199.out 1
          have hfz16_2 := blk_frozen BK199.out 2
          have hfz16_3 := blk_frozen BK199.out 3
          have hfz16_4 := blk_frozen BK199.out 4
          have hcz17_0 : w11.cell? ⟨gb197, 0, none⟩ = some (.string a0_0) := (blk_cell BK197.out 0).trans rfl
          have hcz17_1 : w11.cell? ⟨gb197, 1, none⟩ = some (.bool a0_1) := (blk_cell BK197.out 1).trans rfl
          have hcz17_2 : w11.cell? ⟨gb197, 2, none⟩ = some (.int .i64 a0_2) := (blk_cell BK197.out 2).trans rfl
          have hcz17_3 : w11.cell? ⟨gb197, 3, none⟩ = some (.int .i64 a0_3) := (blk_cell BK197.out 3).trans rfl
          have hcz17_4 : w11.cell? ⟨gb197, 4, none⟩ = some (.slice (some ad198) l0_4.length c0_4) := (blk_cell BK197.out 4).trans rfl
          have hfz17_0 := blk_frozen BK197.out 0
          have hfz17_1 := blk_frozen BK197.out 1
          have hfz17_2 := blk_frozen BK197.out 2
          have hfz17_3 := blk_frozen BK197.out 3
          have hfz17_4 := blk_frozen BK197.out 4
          go_wp2
          repeat (go_quiet (fail); try go_wp2)
          go_meet
          case rel => exact ⟨_, (true), (by first | rfl | (simp; done) | (simp [*]; done)), H', ⟨by have := HK1.out; first | omega | exact Nat.le_refl _⟩, ⟨by (with_reducible repeat (first | refine blk_drewN ?_ _ | refine blk_drew ?_ | refine blk_alloc ?_ _)); refine blk_far ?_ NB197_199.out _; (with_reducible repeat (first | refine blk_drewN ?_ _ | refine blk_drew ?_ | refine blk_alloc ?_ _)); refine blk_far ?_ NB197_199.out _; (with_reducible repeat (first | refine blk_drewN ?_ _ | refine blk_drew ?_ | refine blk_alloc ?_ _)); refine blk_far ?_ NB197_199.out _; (with_reducible repeat (first | refine blk_drewN ?_ _ | refine blk_drew ?_ | refine blk_alloc ?_ _)); refine blk_far ?_ NB197_199.out _; (with_reducible repeat (first | refine blk_drewN ?_ _ | refine blk_drew ?_ | refine blk_alloc ?_ _)); refine blk_far ?_ NB197_199.out _; (with_reducible repeat (first | refine blk_drewN ?_ _ | refine blk_drew ?_ | refine blk_alloc ?_ _)); exact BK197.out⟩, ⟨by (with_reducible repeat (first | refine blk_drewN ?_ _ | refine blk_drew ?_ | refine blk_alloc ?_ _)); refine blk_put (cs := #[.string ((rd_T90 l0_4 x12_1).f0), .bool ((rd_T90 l0_4 x12_1).f1), .int .i64 ((rd_T90 l0_4 x12_1).f2), .int .i64 ((rd_T90 l0_4 x12_1).f3), .slice none 0 0]) ?_ 4 _ rfl; (with_reducible repeat (first | refine blk_drewN ?_ _ | refine blk_drew ?_ | refine blk_alloc ?_ _)); refine blk_put (cs := #[.string ((rd_T90 l0_4 x12_1).f0), .bool ((rd_T90 l0_4 x12_1).f1), .int .i64 ((rd_T90 l0_4 x12_1).f2), .int .i64 0, .slice none 0 0]) ?_ 3 _ rfl; (with_reducible repeat (first | refine blk_drewN ?_ _ | refine blk_drew ?_ | refine blk_alloc ?_ _)); refine blk_put (cs := #[.string ((rd_T90 l0_4 x12_1).f0), .bool ((rd_T90 l0_4 x12_1).f1), .int .i64 0, .int .i64 0, .slice none 0 0]) ?_ 2 _ rfl; (with_reducible repeat (first | refine blk_drewN ?_ _ | refine blk_drew ?_ | refine blk_alloc ?_ _)); refine blk_put (cs := #[.string ((rd_T90 l0_4 x12_1).f0), .bool false, .int .i64 0, .int .i64 0, .slice none 0 0]) ?_ 1 _ rfl; (with_reducible repeat (first | refine blk_drewN ?_ _ | refine blk_drew ?_ | refine blk_alloc ?_ _)); refine blk_put (cs := #[.string (⟨#[]⟩ : ByteArray), .bool false, .int .i64 0, .int .i64 0, .slice none 0 0]) ?_ 0 _ rfl; (with_reducible repeat (first | refine blk_drewN ?_ _ | refine blk_drew ?_ | refine blk_alloc ?_ _)); exact BK199.out⟩, ⟨Bx2 HB GE197 GE199⟩⟩
        rw [if_neg c14] at H
        have c14b0 : decide ((((rd_T90 l0_4 x12_1).f0).size : Int) ≤ (a0_0.size : Int)) = false := decide_eq_false c14
        have c14b1 : decide (((rd_T90 l0_4 x12_1).f0).size ≤ a0_0.size) = false := decide_eq_false (fun h => c14 (Int.ofNat_le.mpr h))
        clear c14
        (first | rw [c14b0] | (simp only [i64_w, i32_w]; rw [c14b0]) | skip)
        replace H := Option.bind_eq_some_iff.mp H
        obtain ⟨t200, A180, H⟩ := H
        replace H : (if t200 = true then ((strings_HasPrefix.f ((rd_T90 l0_4 x12_1).f0) a0_0).bind fun t201 => (impl_kidsOK.j1 k1 x12_1 l0_4 (l0_4.length : Int) x12_1 (!t201) a0_0 a0_1 a0_2 a0_3 l0_4 ((rd_T90 l0_4 x12_1).f0) ((rd_T90 l0_4 x12_1).f1) ((rd_T90 l0_4 x12_1).f2) ((rd_T90 l0_4 x12_1).f3) ((rd_T90 l0_4 x12_1).f4))) else (impl_kidsOK.j1 k1 x12_1 l0_4 (l0_4.length : Int) x12_1 true a0_0 a0_1 a0_2 a0_3 l0_4 ((rd_T90 l0_4 x12_1).f0) ((rd_T90 l0_4 x12_1).f1) ((rd_T90 l0_4 x12_1).f2) ((rd_T90 l0_4 x12_1).f3) ((rd_T90 l0_4 x12_1).f4))) = some r := H
        have A18 := Aside0.mk A180
        clear A180
        by_cases c19 : t200 = true
        rotate_left
        · replace c19 := Bool.eq_false_iff.mpr c19
          subst c19
          have H1 : (impl_kidsOK.j1 k1 x12_1 l0_4 (l0_4.length : Int) x12_1 true a0_0 a0_1 a0_2 a0_3 l0_4 ((rd_T90 l0_4 x12_1).f0) ((rd_T90 l0_4 x12_1).f1) ((rd_T90 l0_4 x12_1).f2) ((rd_T90 l0_4 x12_1).f3) ((rd_T90 l0_4 x12_1).f4)) = some r := by rw [if_neg (show ¬ (false = true) by decide)] at H; exact H
          clear H
          have H := H1
          clear H1
          have H' := Aside0.mk H
          clear H
          have hnb24 := NB199_197.out
          have hnc24 := NB197_199.out
          have hcz25_0 : w11.cell? ⟨gb199, 0, none⟩ = some (.string (⟨#[]⟩ : ByteArray)) := (blk_cell BK199.out 0).trans rfl
          have hcz25_1 : w11.cell? ⟨gb199, 1, none⟩ = some (.bool false) := (blk_cell BK199.out 1).trans rfl
          have hcz25_2 : w11.cell? ⟨gb199, 2, none⟩ = some (.int .i64 0) := (blk_cell BK199.out 2).trans rfl
          have hcz25_3 : w11.cell? ⟨gb199, 3, none⟩ = some (.int .i64 0) := (blk_cell BK199.out 3).trans rfl
          have hcz25_4 : w11.cell? ⟨gb199, 4, none⟩ = some (.slice none 0 0) := (blk_cell BK199.out 4).trans rfl
          have hfz25_0 := blk_frozen BK199.out 0
          have hfz25_1 := blk_frozen BK199.out 1
          have hfz25_2 := blk_frozen BK199.out 2
          have hfz25_3 := blk_frozen BK199.out 3
          have hfz25_4 := blk_frozen BK199.out 4
          have hcz26_0 : w11.cell? ⟨gb197, 0, none⟩ = some (.string a0_0) := (blk_cell BK197.out 0).trans rfl
          have hcz26_1 : w11.cell? ⟨gb197, 1, none⟩ = some (.bool a0_1) := (blk_cell BK197.out 1).trans rfl
          have hcz26_2 : w11.cell? ⟨gb197, 2, none⟩ = some (.int .i64 a0_2) := (blk_cell BK197.out 2).trans rfl
          have hcz26_3 : w11.cell? ⟨gb197, 3, none⟩ = some (.int .i64 a0_3) := (blk_cell BK197.out 3).trans rfl
          have hcz26_4 : w11.cell? ⟨gb197, 4, none⟩ = some (.slice (some ad198) l0_4.length c0_4) := (blk_cell BK197.out 4).trans rfl
          have hfz26_0 := blk_frozen BK197.out 0
          have hfz26_1 := blk_frozen BK197.out 1
          have hfz26_2 := blk_frozen BK197.out 2
          have hfz26_3 := blk_frozen BK197.out 3
          have hfz26_4 := blk_frozen BK197.out 4
          go_wp2_with (first | (go_at_call 215; (with_reducible refine (impl_bitsOK.calls k1 ((rd_T90 l0_4 x12_1).f0) false _ A18.out).mono ?_); rintro e w' ⟨rfl, ⟨nd, rfl⟩⟩; (try first | exact ⟨rfl, _, World.drewN_drewN _ _ _⟩ | exact ⟨rfl, _, Eq.trans (World.drewN_drewN _ _ _) (congrArg (World.drewN _) (Nat.add_assoc _ _ _))⟩)))
          repeat (go_quiet (first | (go_at_call 215; (with_reducible refine (impl_bitsOK.calls k1 ((rd_T90 l0_4 x12_1).f0) false _ A18.out).mono ?_); rintro e w' ⟨rfl, ⟨nd, rfl⟩⟩; (try first | exact ⟨rfl, _, World.drewN_drewN _ _ _⟩ | exact ⟨rfl, _, Eq.trans (World.drewN_drewN _ _ _) (congrArg (World.drewN _) (Nat.add_assoc _ _ _))⟩))); try go_wp2_with (first | (go_at_call 215; (with_reducible refine (impl_bitsOK.calls k1 ((rd_T90 l0_4 x12_1).f0) false _ A18.out).mono ?_); rintro e w' ⟨rfl, ⟨nd, rfl⟩⟩; (try first | exact ⟨rfl, _, World.drewN_drewN _ _ _⟩ | exact ⟨rfl, _, Eq.trans (World.drewN_drewN _ _ _) (congrArg (World.drewN _) (Nat.add_assoc _ _ _))⟩))))
          go_meet
          case rel => exact ⟨_, (true), (by first | rfl | (simp; done) | (simp [*]; done)), H', ⟨by have := HK1.out; first | omega | exact Nat.le_refl _⟩, ⟨by (with_reducible repeat (first | refine blk_drewN ?_ _ | refine blk_drew ?_ | refine blk_alloc ?_ _)); refine blk_far ?_ NB197_199.out _; (with_reducible repeat (first | refine blk_drewN ?_ _ | refine blk_drew ?_ | refine blk_alloc ?_ _)); refine blk_far ?_ NB197_199.out _; (with_reducible repeat (first | refine blk_drewN ?_ _ | refine blk_drew ?_ | refine blk_alloc ?_ _)); refine blk_far ?_ NB197_199.out _; (with_reducible repeat (first | refine blk_drewN ?_ _ | refine blk_drew ?_ | refine blk_alloc ?_ _)); refine blk_far ?_ NB197_199.out _; (with_reducible repeat (first | refine blk_drewN ?_ _ | refine blk_drew ?_ | refine blk_alloc ?_ _)); refine blk_far ?_ NB197_199.out _; (with_reducible repeat (first | refine blk_drewN ?_ _ | refine blk_drew ?_ | refine blk_alloc ?_ _)); exact BK197.out⟩, ⟨by (with_reducible repeat (first | refine blk_drewN ?_ _ | refine blk_drew ?_ | refine blk_alloc ?_ _)); refine blk_put (cs := #[.string ((rd_T90 l0_4 x12_1).f0), .bool ((rd_T90 l0_4 x12_1).f1), .int .i64 ((rd_T90 l0_4 x12_1).f2), .int .i64 ((rd_T90 l0_4 x12_1).f3), .slice none 0 0]) ?_ 4 _ rfl; (with_reducible repeat (first | refine blk_drewN ?_ _ | refine blk_drew ?_ | refine blk_alloc ?_ _)); refine blk_put (cs := #[.string ((rd_T90 l0_4 x12_1).f0), .bool ((rd_T90 l0_4 x12_1).f1), .int .i64 ((rd_T90 l0_4 x12_1).f2), .int .i64 0, .slice none 0 0]) ?_ 3 _ rfl; (with_reducible repeat (first | refine blk_drewN ?_ _ | refine blk_drew ?_ | refine blk_alloc ?_ _)); refine blk_put (cs := #[.string ((rd_T90 l0_4 x12_1).f0), .bool ((rd_T90 l0_4 x12_1).f1), .int .i64 0, .int .i64 0, .slice none 0 0]) ?_ 2 _ rfl; (with_reducible repeat (first | refine blk_drewN ?_ _ | refine blk_drew ?_ | refine blk_alloc ?_ _)); refine blk_put (cs := #[.string ((rd_T90 l0_4 x12_1).f0), .bool false, .int .i64 0, .int .i64 0, .slice none 0 0]) ?_ 1 _ rfl; (with_reducible repeat (first | refine blk_drewN ?_ _ | refine blk_drew ?_ | refine blk_alloc ?_ _)); refine blk_put (cs := #[.string (⟨#[]⟩ : ByteArray), .bool false, .int .i64 0, .int .i64 0, .slice none 0 0]) ?_ 0 _ rfl; (with_reducible repeat (first | refine blk_drewN ?_ _ | refine blk_drew ?_ | refine blk_alloc ?_ _)); exact BK199.out⟩, ⟨Bx2 HB GE197 GE199⟩⟩
        subst c19
        have H1 : ((strings_HasPrefix.f ((rd_T90 l0_4 x12_1).f0) a0_0).bind fun t201 => (impl_kidsOK.j1 k1 x12_1 l0_4 (l0_4.length : Int) x12_1 (!t201) a0_0 a0_1 a0_2 a0_3 l0_4 ((rd_T90 l0_4 x12_1).f0) ((rd_T90 l0_4 x12_1).f1) ((rd_T90 l0_4 x12_1).f2) ((rd_T90 l0_4 x12_1).f3) ((rd_T90 l0_4 x12_1).f4))) = some r := by rw [if_pos rfl] at H; exact H
        clear H
        have H := H1
        clear H1
        replace H := Option.bind_eq_some_iff.mp H
        obtain ⟨t201, A200, H⟩ := H
        replace H : (impl_kidsOK.j1 k1 x12_1 l0_4 (l0_4.length : Int) x12_1 (!t201) a0_0 a0_1 a0_2 a0_3 l0_4 ((rd_T90 l0_4 x12_1).f0) ((rd_T90 l0_4 x12_1).f1) ((rd_T90 l0_4 x12_1).f2) ((rd_T90 l0_4 x12_1).f3) ((rd_T90 l0_4 x12_1).f4)) = some r := H
        have A20 := Aside0.mk A200
        clear A200
        have H' := Aside0.mk H
        clear H
        have hnb21 := NB199_197.out
        have hnc21 := NB197_199.out
        have hcz22_0 : w11.cell? ⟨gb199, 0, none⟩ = some (.string (⟨#[]⟩ : ByteArray)) := (blk_cell BK199.out 0).trans rfl
        have hcz22_1 : w11.cell? ⟨gb199, 1, none⟩ = some (.bool false) := (blk_cell BK199.out 1).trans rfl
        have hcz22_2 : w11.cell? ⟨gb199, 2, none⟩ = some (.int .i64 0) := (blk_cell BK199.out 2).trans rfl
        have hcz22_3 : w11.cell? ⟨gb199, 3, none⟩ = some (.int .i64 0) := (blk_cell BK199.out 3).trans rfl
        have hcz22_4 : w11.cell? ⟨gb199, 4, none⟩ = some (.slice none 0 0) := (blk_cell BK199.out 4).trans rfl
        have hfz22_0 := blk_frozen BK199.out 0
        have hfz22_1 := blk_frozen BK199.out 1
        have hfz22_2 := blk_frozen BK199.out 2
        have hfz22_3 := blk_frozen BK199.out 3
        have hfz22_4 := blk_frozen BK199.out 4
        have hcz23_0 : w11.cell? ⟨gb197, 0, none⟩ = some (.string a0_0) := (blk_cell BK197.out 0).trans rfl
        have hcz23_1 : w11.cell? ⟨gb197, 1, none⟩ = some (.bool a0_1) := (blk_cell BK197.out 1).trans rfl
        have hcz23_2 : w11.cell? ⟨gb197, 2, none⟩ = some (.int .i64 a0_2) := (blk_cell BK197.out 2).trans rfl
        have hcz23_3 : w11.cell? ⟨gb197, 3, none⟩ = some (.int .i64 a0_3) := (blk_cell BK197.out 3).trans rfl
        have hcz23_4 : w11.cell? ⟨gb197, 4, none⟩ = some (.slice (some ad198) l0_4.length c0_4) := (blk_cell BK197.out 4).trans rfl
        have hfz23_0 := blk_frozen BK197.out 0
        have hfz23_1 := blk_frozen BK197.out 1
        have hfz23_2 := blk_frozen BK197.out 2
        have hfz23_3 := blk_frozen BK197.out 3
        have hfz23_4 := blk_frozen BK197.out 4
        go_wp2_with (first | (go_at_call 215; (with_reducible refine (impl_bitsOK.calls k1 ((rd_T90 l0_4 x12_1).f0) true _ A18.out).mono ?_); rintro e w' ⟨rfl, ⟨nd, rfl⟩⟩; (try first | exact ⟨rfl, _, World.drewN_drewN _ _ _⟩ | exact ⟨rfl, _, Eq.trans (World.drewN_drewN _ _ _) (congrArg (World.drewN _) (Nat.add_assoc _ _ _))⟩)) | (go_at_call 216; (with_reducible refine (strings_HasPrefix.calls ((rd_T90 l0_4 x12_1).f0) a0_0 t201 _ A20.out).mono ?_); rintro e w' ⟨rfl, ⟨nd, rfl⟩⟩; (try first | exact ⟨rfl, _, World.drewN_drewN _ _ _⟩ | exact ⟨rfl, _, Eq.trans (World.drewN_drewN _ _ _) (congrArg (World.drewN _) (Nat.add_assoc _ _ _))⟩)))
        repeat (go_quiet (first | (go_at_call 215; (with_reducible refine (impl_bitsOK.calls k1 ((rd_T90 l0_4 x12_1).f0) true _ A18.out).mono ?_); rintro e w' ⟨rfl, ⟨nd, rfl⟩⟩; (try first | exact ⟨rfl, _, World.drewN_drewN _ _ _⟩ | exact ⟨rfl, _, Eq.trans (World.drewN_drewN _ _ _) (congrArg (World.drewN _) (Nat.add_assoc _ _ _))⟩)) | (go_at_call 216; (with_reducible refine (strings_HasPrefix.calls ((rd_T90 l0_4 x12_1).f0) a0_0 t201 _ A20.out).mono ?_); rintro e w' ⟨rfl, ⟨nd, rfl⟩⟩; (try first | exact ⟨rfl, _, World.drewN_drewN _ _ _⟩ | exact ⟨rfl, _, Eq.trans (World.drewN_drewN _ _ _) (congrArg (World.drewN _) (Nat.add_assoc _ _ _))⟩))); try go_wp2_with (first | (go_at_call 215; (with_reducible refine (impl_bitsOK.calls k1 ((rd_T90 l0_4 x12_1).f0) true _ A18.out).mono ?_); rintro e w' ⟨rfl, ⟨nd, rfl⟩⟩; (try first | exact ⟨rfl, _, World.drewN_drewN _ _ _⟩ | exact ⟨rfl, _, Eq.trans (World.drewN_drewN _ _ _) (congrArg (World.drewN _) (Nat.add_assoc _ _ _))⟩)) | (go_at_call 216; (with_reducible refine (strings_HasPrefix.calls ((rd_T90 l0_4 x12_1).f0) a0_0 t201 _ A20.out).mono ?_); rintro e w' ⟨rfl, ⟨nd, rfl⟩⟩; (try first | exact ⟨rfl, _, World.drewN_drewN _ _ _⟩ | exact ⟨rfl, _, Eq.trans (World.drewN_drewN _ _ _) (congrArg (World.drewN _) (Nat.add_assoc _ _ _))⟩))))
        go_meet
        case rel => exact ⟨_, (!t201), (by first | rfl | (simp; done) | (simp [*]; done)), H', ⟨by have := HK1.out; first | omega | exact Nat.le_refl _⟩, ⟨by (with_reducible repeat (first | refine blk_drewN ?_ _ | refine blk_drew ?_ | refine blk_alloc ?_ _)); refine blk_far ?_ NB197_199.out _; (with_reducible repeat (first | refine blk_drewN ?_ _ | refine blk_drew ?_ | refine blk_alloc ?_ _)); refine blk_far ?_ NB197_199.out _; (with_reducible repeat (first | refine blk_drewN ?_ _ | refine blk_drew ?_ | refine blk_alloc ?_ _)); refine blk_far ?_ NB197_199.out _; (with_reducible repeat (first | refine blk_drewN ?_ _ | refine blk_drew ?_ | refine blk_alloc ?_ _)); refine blk_far ?_ NB197_199.out _; (with_reducible repeat (first | refine blk_drewN ?_ _ | refine blk_drew ?_ | refine blk_alloc ?_ _)); refine blk_far ?_ NB197_199.out _; (with_reducible repeat (first | refine blk_drewN ?_ _ | refine blk_drew ?_ | refine blk_alloc ?_ _)); exact BK197.out⟩, ⟨by (with_reducible repeat (first | refine blk_drewN ?_ _ | refine blk_drew ?_ | refine blk_alloc ?_ _)); refine blk_put (cs := #[.string ((rd_T90 l0_4 x12_1).f0), .bool ((rd_T90 l0_4 x12_1).f1), .int .i64 ((rd_T90 l0_4 x12_1).f2), .int .i64 ((rd_T90 l0_4 x12_1).f3), .slice none 0 0]) ?_ 4 _ rfl; (with_reducible repeat (first | refine blk_drewN ?_ _ | refine blk_drew ?_ | refine blk_alloc ?_ _)); refine blk_put (cs := #[.string ((rd_T90 l0_4 x12_1).f0), .bool ((rd_T90 l0_4 x12_1).f1), .int .i64 ((rd_T90 l0_4 x12_1).f2), .int .i64 0, .slice none 0 0]) ?_ 3 _ rfl; (with_reducible repeat (first | refine blk_drewN ?_ _ | refine blk_drew ?_ | refine blk_alloc ?_ _)); refine blk_put (cs := #[.string ((rd_T90 l0_4 x12_1).f0), .bool ((rd_T90 l0_4 x12_1).f1), .int .i64 0, .int .i64 0, .slice none 0 0]) ?_ 2 _ rfl; (with_reducible repeat (first | refine blk_drewN ?_ _ | refine blk_drew ?_ | refine blk_alloc ?_ _)); refine blk_put (cs := #[.string ((rd_T90 l0_4 x12_1).f0), .bool false, .int .i64 0, .int .i64 0, .slice none 0 0]) ?_ 1 _ rfl; (with_reducible repeat (first | refine blk_drewN ?_ _ | refine blk_drew ?_ | refine blk_alloc ?_ _)); refine blk_put (cs := #[.string (⟨#[]⟩ : ByteArray), .bool false, .int .i64 0, .int .i64 0, .slice none 0 0]) ?_ 0 _ rfl; (with_reducible repeat (first | refine blk_drewN ?_ _ | refine blk_drew ?_ | refine blk_alloc ?_ _)); exact BK199.out⟩, ⟨Bx2 HB GE197 GE199⟩⟩
      case rest =>
        clear HC10
        try clear c1
        try clear p1
        try clear q1
        try clear hx1
        try clear c2
        try clear c2b0
        try clear c2b1
        try clear p2
        try clear c7
        try clear c7b0
        try clear c8
        try clear c8b0
        try clear c9
        try clear c9b0
        try clear c12
        try clear c14
        try clear c14b0
        try clear c14b1
        try clear c15
        try clear c18
        try clear c19
        try clear p19
        try clear q19
        try clear hx19
        try clear c21
        try clear c24
        try clear hcz13_0 hcz13_1 hcz13_2 hcz13_3 hcz13_4
        try clear hcz16_0 hcz16_1 hcz16_2 hcz16_3 hcz16_4
        try clear hcz17_0 hcz17_1 hcz17_2 hcz17_3 hcz17_4
        try clear hcz22_0 hcz22_1 hcz22_2 hcz22_3 hcz22_4
        try clear hcz23_0 hcz23_1 hcz23_2 hcz23_3 hcz23_4
        try clear hcz25_0 hcz25_1 hcz25_2 hcz25_3 hcz25_4
        try clear hcz26_0 hcz26_1 hcz26_2 hcz26_3 hcz26_4
        try clear hcz4_0 hcz4_1 hcz4_2 hcz4_3 hcz4_4
        try clear hcz6_0 hcz6_1 hcz6_2 hcz6_3 hcz6_4
        try clear hfz13_0 hfz13_1 hfz13_2 hfz13_3 hfz13_4
        try clear hfz16_0 hfz16_1 hfz16_2 hfz16_3 hfz16_4
        try clear hfz17_0 hfz17_1 hfz17_2 hfz17_3 hfz17_4
        try clear hfz22_0 hfz22_1 hfz22_2 hfz22_3 hfz22_4
        try clear hfz23_0 hfz23_1 hfz23_2 hfz23_3 hfz23_4
        try clear hfz25_0 hfz25_1 hfz25_2 hfz25_3 hfz25_4
        try clear hfz26_0 hfz26_1 hfz26_2 hfz26_3 hfz26_4
        try clear hfz4_0 hfz4_1 hfz4_2 hfz4_3 hfz4_4
        try clear hfz6_0 hfz6_1 hfz6_2 hfz6_3 hfz6_4
        try clear hx198_0
        try clear hx198_1
        try clear hx198_2
        try clear hx198_3
        try clear hx198_4
        try clear p198
        try clear p2
        try clear q198
        obtain ⟨kq, x37_9, rfl, HA, HJ9, BK197, BK199, HB⟩ := hcut
        cases kq with
        | zero => exact absurd HA.out (by simp [impl_kidsOK.j1])
        | succ kj9 =>
          have H := HA.out
          clear HA
          simp only [impl_kidsOK.j1] at H
          by_cases c27 : x37_9 = true
          · subst c27
            have H1 : (some false) = some r := by rw [if_pos rfl] at H; exact H
            clear H
            have H := H1
            clear H1
            obtain rfl := Option.some.inj H
            go_wp2
            repeat (go_quiet (fail); try go_wp2)
            go_ret
            exact ⟨by first | rfl | (simp [errW_none, errW_some] <;> rfl) | (simp [*, errW_none, errW_some] <;> rfl), Bx2 HB GE197 GE199⟩
          replace c27 := Bool.eq_false_iff.mpr c27
          subst c27
          have H1 : (if x12_1 = 1 then (if 0 < (l0_4.length : Int) then (if 0 ≤ (a0_0.size : Int) then (if (a0_0.size : Int) < (((rd_T90 l0_4 0).f0).size : Int) then (if (a0_0.size : Int) < (((rd_T90 l0_4 x12_1).f0).size : Int) then (if (bt ((rd_T90 l0_4 0).f0) (a0_0.size : Int)) ≥ (bt ((rd_T90 l0_4 x12_1).f0) (a0_0.size : Int)) then (some false) else (impl_kidsOK.l0 kj9 l0_4 (l0_4.length : Int) (wrap64 (x12_1 + 1)) a0_0 a0_1 a0_2 a0_3 l0_4)) else (none)) else (none)) else (none)) else (none)) else (impl_kidsOK.l0 kj9 l0_4 (l0_4.length : Int) (wrap64 (x12_1 + 1)) a0_0 a0_1 a0_2 a0_3 l0_4)) = some r := by rw [if_neg (show ¬ (false = true) by decide)] at H; exact H
          clear H
          have H := H1
          clear H1
          by_cases c28 : x12_1 = 1
          rotate_left
          · rw [if_neg c28] at H
            have c28b0 : (x12_1 == 1) = false := beq_eq_false_iff_ne.mpr c28
            have c28b1 : (x12_1 != 1) = true := bne_iff_ne.mpr c28
            have H' := Aside0.mk H
            clear H
            go_wp2
            repeat (go_quiet (fail); try go_wp2)
            go_roundg kj9
            case measure => have := HK1.out; have := HJ9.out; omega
            case rel => exact ⟨(wrap64 (x12_1 + 1)), (by first | rfl | (simp; done) | (simp [*]; done)), H', ⟨by have := HK1.out; have := HJ9.out; omega⟩, ⟨by (with_reducible repeat (first | refine blk_drewN ?_ _ | refine blk_drew ?_ | refine blk_alloc ?_ _)); exact BK197.out⟩, ⟨Bx2 HB GE197 GE199⟩⟩
          rw [if_pos c28] at H
          have c28b0 : (x12_1 == 1) = true := beq_iff_eq.mpr c28
          have c28b1 : (x12_1 != 1) = false := bne_eq_false_iff_eq.mpr c28
          clear c28
          by_cases c29 : 0 < (l0_4.length : Int)
          rotate_left
          · rw [if_neg c29] at H
            exact absurd H (by simp)
          rw [if_pos c29] at H
          have c29b0 : decide (0 < (l0_4.length : Int)) = true := decide_eq_true c29
          have c29b1 : decide (0 < l0_4.length) = true := decide_eq_true (by omega)
          clear c29
          by_cases c30 : 0 ≤ (a0_0.size : Int)
          rotate_left
          · rw [if_neg c30] at H
            exact absurd H (by simp)
          rw [if_pos c30] at H
          have c30b0 : decide (0 ≤ (a0_0.size : Int)) = true := decide_eq_true c30
          have c30b1 : decide (0 ≤ a0_0.size) = true := decide_eq_true (by omega)
          clear c30
          by_cases c31 : (a0_0.size : Int) < (((rd_T90 l0_4 0).f0).size : Int)
          rotate_left
          · rw [if_neg c31] at H
            exact absurd H (by simp)
          rw [if_pos c31] at H
          have c31b0 : decide ((a0_0.size : Int) < (((rd_T90 l0_4 0).f0).size : Int)) = true := decide_eq_true c31
          have c31b1 : decide (a0_0.size < ((rd_T90 l0_4 0).f0).size) = true := decide_eq_true (Int.ofNat_lt.mp c31)
          clear c31
          by_cases c33 : (a0_0.size : Int) < (((rd_T90 l0_4 x12_1).f0).size : Int)
          rotate_left
          · rw [if_neg c33] at H
            exact absurd H (by simp)
          rw [if_pos c33] at H
          have c33b0 : decide ((a0_0.size : Int) < (((rd_T90 l0_4 x12_1).f0).size : Int)) = true := decide_eq_true c33
          have c33b1 : decide (a0_0.size < ((rd_T90 l0_4 x12_1).f0).size) = true := decide_eq_true (Int.ofNat_lt.mp c33)
          clear c33
          by_cases c35 : (bt ((rd_T90 l0_4 0).f0) (a0_0.size : Int)) ≥ (bt ((rd_T90 l0_4 x12_1).f0) (a0_0.size : Int))
          · rw [if_pos c35] at H
            have c35b0 : decide ((bt ((rd_T90 l0_4 x12_1).f0) (a0_0.size : Int)) ≤ (bt ((rd_T90 l0_4 0).f0) (a0_0.size : Int))) = true := decide_eq_true c35
            clear c35
            obtain rfl := Option.some.inj H
            have hnb36 := NB197_199.out
            have hnc36 := NB199_197.out
            have hcz37_0 : wc.cell? ⟨gb197, 0, none⟩ = some (.string a0_0) := (blk_cell BK197.out 0).trans rfl
            have hcz37_1 : wc.cell? ⟨gb197, 1, none⟩ = some (.bool a0_1) := (blk_cell BK197.out 1).trans rfl
            have hcz37_2 : wc.cell? ⟨gb197, 2, none⟩ = some (.int .i64 a0_2) := (blk_cell BK197.out 2).trans rfl
            have hcz37_3 : wc.cell? ⟨gb197, 3, none⟩ = some (.int .i64 a0_3) := (blk_cell BK197.out 3).trans rfl
            have hcz37_4 : wc.cell? ⟨gb197, 4, none⟩ = some (.slice (some ad198) l0_4.length c0_4) := (blk_cell BK197.out 4).trans rfl
            have hfz37_0 := blk_frozen BK197.out 0
            have hfz37_1 := blk_frozen BK197.out 1
            have hfz37_2 := blk_frozen BK197.out 2
            have hfz37_3 := blk_frozen BK197.out 3
            have hfz37_4 := blk_frozen BK197.out 4
            have p202 : 0 ≤ (0 : Int) := (by omega)
            have q202 : 0 < (l0_4.length : Int) := of_decide_eq_true (by first | (with_reducible assumption) | assumption)
            obtain ⟨ad202, A202_4, c202_4, e202, hx202_0, hx202_1, hx202_2, hx202_3, hx202_4, hl202_4, hi202_4⟩ := at_T90 HR0_4.out 0 p202 q202
            obtain rfl : ad198 = ad202 := (by injection e202)
            have qi202 : (0 < l0_4.length) = True := eq_true (by omega)
            (try rw [show ((0 : Int)).toNat = 0 from rfl] at hx202_0)
            (try rw [show 0 * 5 = 0 from rfl] at hx202_0)
            (try rw [Addr.add_zero'] at hx202_0)
            (try rw [show ((0 : Int)).toNat = 0 from rfl] at hx202_1)
            (try rw [show 0 * 5 = 0 from rfl] at hx202_1)
            (try rw [Addr.add_zero'] at hx202_1)
            (try rw [show ((0 : Int)).toNat = 0 from rfl] at hx202_2)
            (try rw [show 0 * 5 = 0 from rfl] at hx202_2)
            (try rw [Addr.add_zero'] at hx202_2)
            (try rw [show ((0 : Int)).toNat = 0 from rfl] at hx202_3)
            (try rw [show 0 * 5 = 0 from rfl] at hx202_3)
            (try rw [Addr.add_zero'] at hx202_3)
            (try rw [show ((0 : Int)).toNat = 0 from rfl] at hx202_4)
            (try rw [show 0 * 5 = 0 from rfl] at hx202_4)
            (try rw [Addr.add_zero'] at hx202_4)
            replace hx202_0 := (HB.out.cell (World.block_lt_of_cell? w _ hx202_0)).trans hx202_0
            replace hx202_1 := (HB.out.cell (World.block_lt_of_cell? w _ hx202_1)).trans hx202_1
            replace hx202_2 := (HB.out.cell (World.block_lt_of_cell? w _ hx202_2)).trans hx202_2
            replace hx202_3 := (HB.out.cell (World.block_lt_of_cell? w _ hx202_3)).trans hx202_3
            replace hx202_4 := (HB.out.cell (World.block_lt_of_cell? w _ hx202_4)).trans hx202_4
            have HR202_4 := Aside0.mk hi202_4
            have HC202_4 := Aside0.mk hl202_4
            clear hi202_4 hl202_4
            replace p202 := eq_true p202
            replace q202 := eq_true q202
            have p32 : 0 ≤ ((a0_0.size : Int) : Int) := of_decide_eq_true (by first | (with_reducible assumption) | assumption)
            have q32 : (a0_0.size : Int) < (((rd_T90 l0_4 0).f0).size : Int) := of_decide_eq_true (by first | (with_reducible assumption) | assumption)
            have hx32 : ∀ h_ : a0_0.size < (((rd_T90 l0_4 0).f0)).size, (((((rd_T90 l0_4 0).f0))[a0_0.size]'h_).toNat : Int) = bt ((rd_T90 l0_4 0).f0) (a0_0.size : Int) := bt_at ((rd_T90 l0_4 0).f0) (a0_0.size : Int)
            replace p32 := eq_true p32
            replace q32 := eq_true q32
            have hcz38_0 : wc.cell? ⟨gb199, 0, none⟩ = some (.string ((rd_T90 l0_4 x12_1).f0)) := (blk_cell BK199.out 0).trans rfl
            have hcz38_1 : wc.cell? ⟨gb199, 1, none⟩ = some (.bool ((rd_T90 l0_4 x12_1).f1)) := (blk_cell BK199.out 1).trans rfl
            have hcz38_2 : wc.cell? ⟨gb199, 2, none⟩ = some (.int .i64 ((rd_T90 l0_4 x12_1).f2)) := (blk_cell BK199.out 2).trans rfl
            have hcz38_3 : wc.cell? ⟨gb199, 3, none⟩ = some (.int .i64 ((rd_T90 l0_4 x12_1).f3)) := (blk_cell BK199.out 3).trans rfl
            have hcz38_4 : wc.cell? ⟨gb199, 4, none⟩ = some (.slice A198_4 ((rd_T90 l0_4 x12_1).f4).length c198_4) := (blk_cell BK199.out 4).trans rfl
            have hfz38_0 := blk_frozen BK199.out 0
            have hfz38_1 := blk_frozen BK199.out 1
            have hfz38_2 := blk_frozen BK199.out 2
            have hfz38_3 := blk_frozen BK199.out 3
            have hfz38_4 := blk_frozen BK199.out 4
            have p34 : 0 ≤ ((a0_0.size : Int) : Int) := of_decide_eq_true (by first | (with_reducible assumption) | assumption)
            have q34 : (a0_0.size : Int) < (((rd_T90 l0_4 x12_1).f0).size : Int) := of_decide_eq_true (by first | (with_reducible assumption) | assumption)
            have hx34 : ∀ h_ : a0_0.size < (((rd_T90 l0_4 x12_1).f0)).size, (((((rd_T90 l0_4 x12_1).f0))[a0_0.size]'h_).toNat : Int) = bt ((rd_T90 l0_4 x12_1).f0) (a0_0.size : Int) := bt_at ((rd_T90 l0_4 x12_1).f0) (a0_0.size : Int)
            replace p34 := eq_true p34
            replace q34 := eq_true q34
            go_wp2
            repeat (go_quiet (fail); try go_wp2)
            go_ret
            exact ⟨by first | rfl | (simp [errW_none, errW_some] <;> rfl) | (simp [*, errW_none, errW_some] <;> rfl), Bx2 HB GE197 GE199⟩
          rw [if_neg c35] at H
          have c35b0 : decide ((bt ((rd_T90 l0_4 x12_1).f0) (a0_0.size : Int)) ≤ (bt ((rd_T90 l0_4 0).f0) (a0_0.size : Int))) = false := decide_eq_false c35
          clear c35
          have H' := Aside0.mk H
          clear H
          have hnb39 := NB197_199.out
          have hnc39 := NB199_197.out
          have hcz40_0 : wc.cell? ⟨gb197, 0, none⟩ = some (.string a0_0) := (blk_cell BK197.out 0).trans rfl
          have hcz40_1 : wc.cell? ⟨gb197, 1, none⟩ = some (.bool a0_1) := (blk_cell BK197.out 1).trans rfl
          have hcz40_2 : wc.cell? ⟨gb197, 2, none⟩ = some (.int .i64 a0_2) := (blk_cell BK197.out 2).trans rfl
          have hcz40_3 : wc.cell? ⟨gb197, 3, none⟩ = some (.int .i64 a0_3) := (blk_cell BK197.out 3).trans rfl
          have hcz40_4 : wc.cell? ⟨gb197, 4, none⟩ = some (.slice (some ad198) l0_4.length c0_4) := (blk_cell BK197.out 4).trans rfl
          have hfz40_0 := blk_frozen BK197.out 0
          have hfz40_1 := blk_frozen BK197.out 1
          have hfz40_2 := blk_frozen BK197.out 2
          have hfz40_3 := blk_frozen BK197.out 3
          have hfz40_4 := blk_frozen BK197.out 4
          have p202 : 0 ≤ (0 : Int) := (by omega)
          have q202 : 0 < (l0_4.length : Int) := of_decide_eq_true (by first | (with_reducible assumption) | assumption)
          obtain ⟨ad202, A202_4, c202_4, e202, hx202_0, hx202_1, hx202_2, hx202_3, hx202_4, hl202_4, hi202_4⟩ := at_T90 HR0_4.out 0 p202 q202
          obtain rfl : ad198 = ad202 := (by injection e202)
          have qi202 : (0 < l0_4.length) = True := eq_true (by omega)
          (try rw [show ((0 : Int)).toNat = 0 from rfl] at hx202_0)
          (try rw [show 0 * 5 = 0 from rfl] at hx202_0)
          (try rw [Addr.add_zero'] at hx202_0)
          (try rw [show ((0 : Int)).toNat = 0 from rfl] at hx202_1)
          (try rw [show 0 * 5 = 0 from rfl] at hx202_1)
          (try rw [Addr.add_zero'] at hx202_1)
          (try rw [show ((0 : Int)).toNat = 0 from rfl] at hx202_2)
          (try rw [show 0 * 5 = 0 from rfl] at hx202_2)
          (try rw [Addr.add_zero'] at hx202_2)
          (try rw [show ((0 : Int)).toNat = 0 from rfl] at hx202_3)
          (try rw [show 0 * 5 = 0 from rfl] at hx202_3)
          (try rw [Addr.add_zero'] at hx202_3)
          (try rw [show ((0 : Int)).toNat = 0 from rfl] at hx202_4)
          (try rw [show 0 * 5 = 0 from rfl] at hx202_4)
          (try rw [Addr.add_zero'] at hx202_4)
          replace hx202_0 := (HB.out.cell (World.block_lt_of_cell? w _ hx202_0)).trans hx202_0
          replace hx202_1 := (HB.out.cell (World.block_lt_of_cell? w _ hx202_1)).trans hx202_1
          replace hx202_2 := (HB.out.cell (World.block_lt_of_cell? w _ hx202_2)).trans hx202_2
          replace hx202_3 := (HB.out.cell (World.block_lt_of_cell? w _ hx202_3)).trans hx202_3
          replace hx202_4 := (HB.out.cell (World.block_lt_of_cell? w _ hx202_4)).trans hx202_4
          have HR202_4 := Aside0.mk hi202_4
          have HC202_4 := Aside0.mk hl202_4
          clear hi202_4 hl202_4
          replace p202 := eq_true p202
          replace q202 := eq_true q202
          have p32 : 0 ≤ ((a0_0.size : Int) : Int) := of_decide_eq_true (by first | (with_reducible assumption) | assumption)
          have q32 : (a0_0.size : Int) < (((rd_T90 l0_4 0).f0).size : Int) := of_decide_eq_true (by first | (with_reducible assumption) | assumption)
          have hx32 : ∀ h_ : a0_0.size < (((rd_T90 l0_4 0).f0)).size, (((((rd_T90 l0_4 0).f0))[a0_0.size]'h_).toNat : Int) = bt ((rd_T90 l0_4 0).f0) (a0_0.size : Int) := bt_at ((rd_T90 l0_4 0).f0) (a0_0.size : Int)
          replace p32 := eq_true p32
          replace q32 := eq_true q32
          have hcz41_0 : wc.cell? ⟨gb199, 0, none⟩ = some (.string ((rd_T90 l0_4 x12_1).f0)) := (blk_cell BK199.out 0).trans rfl
          have hcz41_1 : wc.cell? ⟨gb199, 1, none⟩ = some (.bool ((rd_T90 l0_4 x12_1).f1)) := (blk_cell BK199.out 1).trans rfl
          have hcz41_2 : wc.cell? ⟨gb199, 2, none⟩ = some (.int .i64 ((rd_T90 l0_4 x12_1).f2)) := (blk_cell BK199.out 2).trans rfl
          have hcz41_3 : wc.cell? ⟨gb199, 3, none⟩ = some (.int .i64 ((rd_T90 l0_4 x12_1).f3)) := (blk_cell BK199.out 3).trans rfl
          have hcz41_4 : wc.cell? ⟨gb199, 4, none⟩ = some (.slice A198_4 ((rd_T90 l0_4 x12_1).f4).length c198_4) := (blk_cell BK199.out 4).trans rfl
          have hfz41_0 := blk_frozen BK199.out 0
          have hfz41_1 := blk_frozen BK199.out 1
          have hfz41_2 := blk_frozen BK199.out 2
          have hfz41_3 := blk_frozen BK199.out 3
          have hfz41_4 := blk_frozen BK199.out 4
          have p34 : 0 ≤ ((a0_0.size : Int) : Int) := of_decide_eq_true (by first | (with_reducible assumption) | assumption)
          have q34 : (a0_0.size : Int) < (((rd_T90 l0_4 x12_1).f0).size : Int) := of_decide_eq_true (by first | (with_reducible assumption) | assumption)
          have hx34 : ∀ h_ : a0_0.size < (((rd_T90 l0_4 x12_1).f0)).size, (((((rd_T90 l0_4 x12_1).f0))[a0_0.size]'h_).toNat : Int) = bt ((rd_T90 l0_4 x12_1).f0) (a0_0.size : Int) := bt_at ((rd_T90 l0_4 x12_1).f0) (a0_0.size : Int)
          replace p34 := eq_true p34
          replace q34 := eq_true q34
          go_wp2
          repeat (go_quiet (fail); try go_wp2)
          go_roundg kj9
          case measure => have := HK1.out; have := HJ9.out; omega
          case rel => exact ⟨(wrap64 (x12_1 + 1)), (by first | rfl | (simp; done) | (simp [*]; done)), H', ⟨by have := HK1.out; have := HJ9.out; omega⟩, ⟨by (with_reducible repeat (first | refine blk_drewN ?_ _ | refine blk_drew ?_ | refine blk_alloc ?_ _)); exact BK197.out⟩, ⟨Bx2 HB GE197 GE199⟩⟩
end Go.Proofs.Ythknoffionodmaa.QFnExactNodeOK

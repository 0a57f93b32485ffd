-- written by a program of this session
import Derived.Test.YthknoffionodmaaVShort
import Derived.Test.YthknoffionodmaaVStep
import Derived.Test.YthknoffionodmaaQFnExactNodeOKx0
import Derived.Test.YthknoffionodmaaQFnExactNodeOKx2
import Derived.Test.YthknoffionodmaaQFnExactNodeOKx3
namespace Go.Proofs.Ythknoffionodmaa.QFnExactNodeOK
open Go.RowKit Go.Proofs.YthknoffionodmaaV.PrintWords Go.Proofs.YthknoffionodmaaV.PrintLast Go.Proofs.YthknoffionodmaaV.PrintMore
attribute [local go_sem] max2_int min2_int max_two min_two max_three min_three max_four min_four   -- for this text's walks alone
set_option linter.unusedVariables false
set_option linter.unusedSimpArgs false

/-! ### spec_l02Right: function 120 -/
mutual
def spec_l02Right.j0 : Nat → Int → Bool → ByteArray → Bool → Int → Int → List (S90) → Option (Bool)
  | 0, _, _, _, _, _, _, _ => none
  | k + 1, x2, x65, x116000, x116001, x116002, x116003, x116004 => if x65 = true then (some false) else (spec_l02Right.l0 k x2 0 x116000 x116001 x116002 x116003 x116004)
def spec_l02Right.l0 : Nat → Int → Int → ByteArray → Bool → Int → Int → List (S90) → Option (Bool)
  | 0, _, _, _, _, _, _, _ => none
  | k + 1, x2, x7, x116000, x116001, x116002, x116003, x116004 => if x7 < (x116004.length : Int) then (if 0 ≤ x7 then ((spec_l02Begins.f ((rd_T90 x116004 x7).f0) x116000).bind fun t119 => (if t119 = true then (if (((rd_T90 x116004 x7).f0).size : Int) = (x116000.size : Int) then (some false) else (if x7 = 1 then (if 0 < (x116004.length : Int) then (if 0 ≤ (x116000.size : Int) then (if (x116000.size : Int) < (((rd_T90 x116004 0).f0).size : Int) then (if (x116000.size : Int) < (((rd_T90 x116004 x7).f0).size : Int) then (if (bt ((rd_T90 x116004 0).f0) (x116000.size : Int)) ≥ (bt ((rd_T90 x116004 x7).f0) (x116000.size : Int)) then (some false) else ((spec_l02Right.f k ((rd_T90 x116004 x7).f0) ((rd_T90 x116004 x7).f1) ((rd_T90 x116004 x7).f2) ((rd_T90 x116004 x7).f3) ((rd_T90 x116004 x7).f4) false (wrap64 (x2 + 1))).bind fun t121 => (if t121 = true then (spec_l02Right.l0 k x2 (wrap64 (x7 + 1)) x116000 x116001 x116002 x116003 x116004) else (some false)))) else (none)) else (none)) else (none)) else (none)) else ((spec_l02Right.f k ((rd_T90 x116004 x7).f0) ((rd_T90 x116004 x7).f1) ((rd_T90 x116004 x7).f2) ((rd_T90 x116004 x7).f3) ((rd_T90 x116004 x7).f4) false (wrap64 (x2 + 1))).bind fun t122 => (if t122 = true then (spec_l02Right.l0 k x2 (wrap64 (x7 + 1)) x116000 x116001 x116002 x116003 x116004) else (some false))))) else (some false))) else (none)) else (some true)
def spec_l02Right.f : Nat → ByteArray → Bool → Int → Int → List (S90) → Bool → Int → Option (Bool)
  | 0, _, _, _, _, _, _, _ => none
  | k + 1, a0_0, a0_1, a0_2, a0_3, l0_4, a1, a2 => if a2 > 128 then (spec_l02Right.j0 k a2 true a0_0 a0_1 a0_2 a0_3 l0_4) else ((spec_RouteOK.f k a0_0 a0_2 a0_3).bind fun t116 => (if t116 = true then (if a0_1 = true then (if (l0_4.length : Int) > 2 then (spec_l02Right.j0 k a2 true a0_0 a0_1 a0_2 a0_3 l0_4) else (if a1 = true then (if a0_0.toList = ([] : List UInt8) then (spec_l02Right.j0 k a2 false a0_0 a0_1 a0_2 a0_3 l0_4) else (spec_l02Right.j0 k a2 true a0_0 a0_1 a0_2 a0_3 l0_4)) else (spec_l02Right.j0 k a2 false a0_0 a0_1 a0_2 a0_3 l0_4))) else (if a0_2 = 0 then (if a0_3 = 0 then (if (l0_4.length : Int) > 2 then (spec_l02Right.j0 k a2 true a0_0 a0_1 a0_2 a0_3 l0_4) else (if a1 = true then (if a0_0.toList = ([] : List UInt8) then (spec_l02Right.j0 k a2 false a0_0 a0_1 a0_2 a0_3 l0_4) else (spec_l02Right.j0 k a2 true a0_0 a0_1 a0_2 a0_3 l0_4)) else (spec_l02Right.j0 k a2 (decide ((l0_4.length : Int) < 2)) a0_0 a0_1 a0_2 a0_3 l0_4))) else (spec_l02Right.j0 k a2 true a0_0 a0_1 a0_2 a0_3 l0_4)) else (spec_l02Right.j0 k a2 true a0_0 a0_1 a0_2 a0_3 l0_4))) else (spec_l02Right.j0 k a2 true a0_0 a0_1 a0_2 a0_3 l0_4)))
end
theorem spec_l02Right.mono_l : ∀ k, (∀ y0 y1 y2 y3 y4 y5 y6, LeO (spec_l02Right.f k y0 y1 y2 y3 y4 y5 y6) (spec_l02Right.f (k + 1) y0 y1 y2 y3 y4 y5 y6)) ∧ (∀ y0 y1 y2 y3 y4 y5 y6, LeO (spec_l02Right.j0 k y0 y1 y2 y3 y4 y5 y6) (spec_l02Right.j0 (k + 1) y0 y1 y2 y3 y4 y5 y6)) ∧ (∀ y0 y1 y2 y3 y4 y5 y6, LeO (spec_l02Right.l0 k y0 y1 y2 y3 y4 y5 y6) (spec_l02Right.l0 (k + 1) y0 y1 y2 y3 y4 y5 y6))
  | 0 => ⟨fun _ _ _ _ _ _ _ r h => by simp [spec_l02Right.f] at h, fun _ _ _ _ _ _ _ r h => by simp [spec_l02Right.j0] at h, fun _ _ _ _ _ _ _ r h => by simp [spec_l02Right.l0] at h⟩
  | k + 1 => by
    obtain ⟨ih0, ih1, ih2⟩ := spec_l02Right.mono_l k
    refine ⟨?_, ?_, ?_⟩
    · intro y0 y1 y2 y3 y4 y5 y6
      unfold spec_l02Right.f
      repeat' first
      | (with_reducible exact ih0 _ _ _ _ _ _ _)
      | (with_reducible exact ih1 _ _ _ _ _ _ _)
      | (with_reducible exact ih2 _ _ _ _ _ _ _)
      | (with_reducible exact spec_RouteOK.mono _ _ _ _)
      | (with_reducible exact LeO.refl _)
      | (with_reducible exact LeO.none _)
      | (with_reducible refine LeO.ite ?_ ?_)
      | (with_reducible refine LeO.bind ?_ (fun _ => ?_))
      | exact ih0 _ _ _ _ _ _ _
      | exact ih1 _ _ _ _ _ _ _
      | exact ih2 _ _ _ _ _ _ _
      | exact spec_RouteOK.mono _ _ _ _
      | exact LeO.none _
      | refine LeO.ite ?_ ?_
      | refine LeO.bind ?_ (fun _ => ?_)
    · intro y0 y1 y2 y3 y4 y5 y6
      unfold spec_l02Right.j0
      repeat' first
      | (with_reducible exact ih0 _ _ _ _ _ _ _)
      | (with_reducible exact ih1 _ _ _ _ _ _ _)
      | (with_reducible exact ih2 _ _ _ _ _ _ _)
      | (with_reducible exact spec_RouteOK.mono _ _ _ _)
      | (with_reducible exact LeO.refl _)
      | (with_reducible exact LeO.none _)
      | (with_reducible refine LeO.ite ?_ ?_)
      | (with_reducible refine LeO.bind ?_ (fun _ => ?_))
      | exact ih0 _ _ _ _ _ _ _
      | exact ih1 _ _ _ _ _ _ _
      | exact ih2 _ _ _ _ _ _ _
      | exact spec_RouteOK.mono _ _ _ _
      | exact LeO.none _
      | refine LeO.ite ?_ ?_
      | refine LeO.bind ?_ (fun _ => ?_)
    · intro y0 y1 y2 y3 y4 y5 y6
      unfold spec_l02Right.l0
      repeat' first
      | (with_reducible exact ih0 _ _ _ _ _ _ _)
      | (with_reducible exact ih1 _ _ _ _ _ _ _)
      | (with_reducible exact ih2 _ _ _ _ _ _ _)
      | (with_reducible exact spec_RouteOK.mono _ _ _ _)
      | (with_reducible exact LeO.refl _)
      | (with_reducible exact LeO.none _)
      | (with_reducible refine LeO.ite ?_ ?_)
      | (with_reducible refine LeO.bind ?_ (fun _ => ?_))
      | exact ih0 _ _ _ _ _ _ _
      | exact ih1 _ _ _ _ _ _ _
      | exact ih2 _ _ _ _ _ _ _
      | exact spec_RouteOK.mono _ _ _ _
      | exact LeO.none _
      | refine LeO.ite ?_ ?_
      | refine LeO.bind ?_ (fun _ => ?_)
theorem spec_l02Right.mono : ∀ a0 a1 a2 a3 a4 a5 a6 k, LeO (spec_l02Right.f k a0 a1 a2 a3 a4 a5 a6) (spec_l02Right.f (k + 1) a0 a1 a2 a3 a4 a5 a6) := by
  intro a0 a1 a2 a3 a4 a5 a6 k
  obtain ⟨ih0, ih1, ih2⟩ := spec_l02Right.mono_l k
  exact ih0 a0 a1 a2 a3 a4 a5 a6
def spec_l02Right.T7 : Bool × List (List Nat × List Nat) := (true, [([], []), ([0], [0]), ([], []), ([2], [2]), ([1, 3], [1, 3]), ([4], [4]), ([5, 4], [5]), ([6], [6]), ([7, 6], [6, 7]), ([8, 6], [6, 8]), ([6], [6]), ([10, 6], [6, 10]), ([11, 6], [6, 11]), ([9, 12, 6], [6, 9, 12]), ([6, 13], [6, 13]), ([14, 6], [14]), ([15], [15]), ([16, 15], [15, 16]), ([17, 15, 15], [15, 17]), ([18], [18]), ([19, 18], [18, 19]), ([20, 18], [18, 20]), ([21, 18], [18, 21]), ([22, 18], [18, 22]), ([18], [18]), ([24, 18], [18, 24]), ([25, 18], [18, 25]), ([23, 26, 18], [18, 23, 26]), ([18], [18]), ([28, 18], [18, 28]), ([18], [18]), ([30, 18], [18, 30]), ([31, 18], [18, 31]), ([29, 32, 18], [18, 29, 32]), ([27, 33, 18], [18, 27, 33]), ([18, 34, 15], [15, 18, 34]), ([15, 35], [15, 35]), ([36, 18], [36]), ([37], [37]), ([37], [37]), ([39, 37], [37, 39]), ([38, 40, 37, 37], [37, 38, 40]), ([41, 37], [37, 41]), ([37, 42], [37, 42])])
def spec_l02Right.B7 : List Nat := [0, 1, 0, 4, 15, 31, 63, 127, 255, 511, 127, 1151, 3199, 8191, 16383, 32767, 65535, 131071, 262143, 524287, 1048575, 2097151, 4194303, 8388607, 524287, 17301503, 50855935, 134217727, 524287, 268959743, 524287, 1074266111, 3221749759, 8322023423, 17179869183, 34359738367, 68719476735, 137438953471, 274877906943, 274877906943, 824633720831, 2199023255551, 4398046511103, 8796093022207]
theorem spec_l02Right.tab7 : rtab .any (opsOf Try.f120 7) = spec_l02Right.T7 := by kernel_rfl
theorem spec_l02Right.bits7 : waitsOk spec_l02Right.T7.2 spec_l02Right.B7 = true := by kernel_rfl
set_option maxHeartbeats 8000000 in
set_option maxRecDepth 100000 in
theorem spec_l02Right.calls (k : Nat) : ∀ (a0_0 : ByteArray) (a0_1 : Bool) (a0_2 : Int) (a0_3 : Int) (A0_4 : Option Addr) (c0_4 : Nat) (l0_4 : List (S90)) (a1 : Bool) (a2 : Int) (r : Bool) (w : World) (hr0_4 : Kd.C k90 w A0_4 l0_4.length l0_4) (hc0_4 : l0_4.length ≤ c0_4) (h : spec_l02Right.f k a0_0 a0_1 a0_2 a0_3 l0_4 a1 a2 = some r),
    Calls Try.prog 120 #[.agg #[.string a0_0, .bool a0_1, .int .i64 a0_2, .int .i64 a0_3, .slice A0_4 l0_4.length c0_4], .bool a1, .int .i64 a2] w fun e w' => e = .returned (.bool r) ∧ Below w.heap.size w w' := by
  induction k using Nat.strongRecOn with
  | _ k ih =>
  intro a0_0 a0_1 a0_2 a0_3 A0_4 c0_4 l0_4 a1 a2 r w hr0_4 hc0_4 h
  cases k with
  | zero => exact absurd h (by simp [spec_l02Right.f])
  | succ k =>
  simp only [spec_l02Right.f] at h
  have hu90 := Try.underlying90
  have hu182 := Try.underlying182
  have HR0_4 := Aside0.mk hr0_4
  have HC0_4 := Aside0.mk hc0_4
  clear hr0_4 hc0_4
  have HB := Aside0.mk (Below.refl w.heap.size w)
  have H : (if a2 > 128 then (spec_l02Right.j0 k a2 true a0_0 a0_1 a0_2 a0_3 l0_4) else ((spec_RouteOK.f k a0_0 a0_2 a0_3).bind fun t116 => (if t116 = true then (if a0_1 = true then (if (l0_4.length : Int) > 2 then (spec_l02Right.j0 k a2 true a0_0 a0_1 a0_2 a0_3 l0_4) else (if a1 = true then (if a0_0.toList = ([] : List UInt8) then (spec_l02Right.j0 k a2 false a0_0 a0_1 a0_2 a0_3 l0_4) else (spec_l02Right.j0 k a2 true a0_0 a0_1 a0_2 a0_3 l0_4)) else (spec_l02Right.j0 k a2 false a0_0 a0_1 a0_2 a0_3 l0_4))) else (if a0_2 = 0 then (if a0_3 = 0 then (if (l0_4.length : Int) > 2 then (spec_l02Right.j0 k a2 true a0_0 a0_1 a0_2 a0_3 l0_4) else (if a1 = true then (if a0_0.toList = ([] : List UInt8) then (spec_l02Right.j0 k a2 false a0_0 a0_1 a0_2 a0_3 l0_4) else (spec_l02Right.j0 k a2 true a0_0 a0_1 a0_2 a0_3 l0_4)) else (spec_l02Right.j0 k a2 (decide ((l0_4.length : Int) < 2)) a0_0 a0_1 a0_2 a0_3 l0_4))) else (spec_l02Right.j0 k a2 true a0_0 a0_1 a0_2 a0_3 l0_4)) else (spec_l02Right.j0 k a2 true a0_0 a0_1 a0_2 a0_3 l0_4))) else (spec_l02Right.j0 k a2 true a0_0 a0_1 a0_2 a0_3 l0_4)))) = some r := h
  clear h
  have HC4 := Aside0.mk H
  clear H
  go_enter Try.func120, Try.ntmps120
  go_upto_region 1 with (first | ((with_reducible refine gate_dst (N := 3) rfl ?_); refine box_event ?hg (N := 3) ?hd (cs := #[.string a0_0, .bool a0_1, .int .i64 a0_2, .int .i64 a0_3, .slice A0_4 l0_4.length c0_4]) (t := 90) ?hr ?_; (case hd => rfl); (case hg => rfl); (case hr => first | (go_simp; done) | (go_simp; rfl)); intro gb115 hg w5 hbox hb; have n0_ := Aside0.mk (below_step (Bx0 HB) hb); have n1_ := Aside0.mk (hbox); have n2_ := Aside0.mk ((by rw [hg]; exact (below_size (Bx0 HB)) : w.heap.size ≤ gb115)); have n3_ := Aside0.mk ((by rw [hg]; exact (below_size (Bx0 HB)) : w.heap.size ≤ gb115)); clear HB; have HB := n0_; have BK115 := n1_; have GW115 := n2_; have GE115 := n3_; clear n0_ n1_ n2_ n3_; clear hb hbox hg))
  (try simp only [Act.put, List.setIfInBounds_toArray, List.set_cons_zero, List.set_cons_succ])
  go_cut [65] (fun v65 wc => ∃ (kq : Nat) (x65_3 : Bool), v65 = .bool x65_3 ∧ Aside0 (spec_l02Right.j0 kq a2 x65_3 a0_0 a0_1 a0_2 a0_3 l0_4 = some r) ∧ Aside0 (kq ≤ k) ∧ Aside0 (wc.heap[gb115]? = some (.cells #[.string a0_0, .bool a0_1, .int .i64 a0_2, .int .i64 a0_3, (.slice A0_4 l0_4.length c0_4)] 90 (0, 0))) ∧ Aside0 (Below w.heap.size w wc))
  case first =>
    have H := HC4.out
    clear HC4
    by_cases c6 : a2 > 128
    · rw [if_pos c6] at H
      have c6b0 : decide (128 < a2) = true := decide_eq_true c6
      clear c6
      (first | rw [c6b0] | (simp only [i64_w, i32_w]; rw [c6b0]) | skip)
      have H' := Aside0.mk H
      clear H
      go_wp2
      go_meet
      case rel => exact ⟨_, (true), (by first | rfl | (simp; done) | (simp [*]; done)), H', ⟨by first | omega | exact Nat.le_refl _⟩, ⟨by (with_reducible repeat (first | refine blk_drewN ?_ _ | refine blk_drew ?_ | refine blk_alloc ?_ _)); exact BK115.out⟩, ⟨Bx1 HB GE115⟩⟩
    rw [if_neg c6] at H
    have c6b0 : decide (128 < a2) = false := decide_eq_false c6
    clear c6
    (first | rw [c6b0] | (simp only [i64_w, i32_w]; rw [c6b0]) | skip)
    replace H := Option.bind_eq_some_iff.mp H
    obtain ⟨t116, A70, H⟩ := H
    replace H : (if t116 = true then (if a0_1 = true then (if (l0_4.length : Int) > 2 then (spec_l02Right.j0 k a2 true a0_0 a0_1 a0_2 a0_3 l0_4) else (if a1 = true then (if a0_0.toList = ([] : List UInt8) then (spec_l02Right.j0 k a2 false a0_0 a0_1 a0_2 a0_3 l0_4) else (spec_l02Right.j0 k a2 true a0_0 a0_1 a0_2 a0_3 l0_4)) else (spec_l02Right.j0 k a2 false a0_0 a0_1 a0_2 a0_3 l0_4))) else (if a0_2 = 0 then (if a0_3 = 0 then (if (l0_4.length : Int) > 2 then (spec_l02Right.j0 k a2 true a0_0 a0_1 a0_2 a0_3 l0_4) else (if a1 = true then (if a0_0.toList = ([] : List UInt8) then (spec_l02Right.j0 k a2 false a0_0 a0_1 a0_2 a0_3 l0_4) else (spec_l02Right.j0 k a2 true a0_0 a0_1 a0_2 a0_3 l0_4)) else (spec_l02Right.j0 k a2 (decide ((l0_4.length : Int) < 2)) a0_0 a0_1 a0_2 a0_3 l0_4))) else (spec_l02Right.j0 k a2 true a0_0 a0_1 a0_2 a0_3 l0_4)) else (spec_l02Right.j0 k a2 true a0_0 a0_1 a0_2 a0_3 l0_4))) else (spec_l02Right.j0 k a2 true a0_0 a0_1 a0_2 a0_3 l0_4)) = some r := H
    have A7 := Aside0.mk A70
    clear A70
    by_cases c8 : t116 = true
    rotate_left
    · replace c8 := Bool.eq_false_iff.mpr c8
      subst c8
      have H1 : (spec_l02Right.j0 k a2 true a0_0 a0_1 a0_2 a0_3 l0_4) = some r := by rw [if_neg (show ¬ (false = true) by decide)] at H; exact H
      clear H
      have H := H1
      clear H1
      have H' := Aside0.mk H
      clear H
      have hcz48_0 : w5.cell? ⟨gb115, 0, none⟩ = some (.string a0_0) := (blk_cell BK115.out 0).trans rfl
      have hcz48_1 : w5.cell? ⟨gb115, 1, none⟩ = some (.bool a0_1) := (blk_cell BK115.out 1).trans rfl
      have hcz48_2 : w5.cell? ⟨gb115, 2, none⟩ = some (.int .i64 a0_2) := (blk_cell BK115.out 2).trans rfl
      have hcz48_3 : w5.cell? ⟨gb115, 3, none⟩ = some (.int .i64 a0_3) := (blk_cell BK115.out 3).trans rfl
      have hcz48_4 : w5.cell? ⟨gb115, 4, none⟩ = some (.slice A0_4 l0_4.length c0_4) := (blk_cell BK115.out 4).trans rfl
      have hfz48_0 := blk_frozen BK115.out 0
      have hfz48_1 := blk_frozen BK115.out 1
      have hfz48_2 := blk_frozen BK115.out 2
      have hfz48_3 := blk_frozen BK115.out 3
      have hfz48_4 := blk_frozen BK115.out 4
      go_wp2_with (first | (go_at_call 178; (with_reducible refine (spec_RouteOK.calls k a0_0 a0_2 a0_3 false _ A7.out).mono ?_); rintro e w49 ⟨rfl, hb⟩; have n0_ := Aside0.mk (blk_below (BKx BK115) hb); have n1_ := Aside0.mk (below_step (Bx1 HB GE115) hb); clear BK115; clear HB; have BK115 := n0_; have HB := n1_; clear n0_ n1_; (try clear hb); (try clear hb2); (try clear hk); (try clear hi)))
      go_meet
      case rel => exact ⟨_, (true), (by first | rfl | (simp; done) | (simp [*]; done)), H', ⟨by first | omega | exact Nat.le_refl _⟩, ⟨by (with_reducible repeat (first | refine blk_drewN ?_ _ | refine blk_drew ?_ | refine blk_alloc ?_ _)); exact BK115.out⟩, ⟨Bx1 HB GE115⟩⟩
    subst c8
    have H1 : (if a0_1 = true then (if (l0_4.length : Int) > 2 then (spec_l02Right.j0 k a2 true a0_0 a0_1 a0_2 a0_3 l0_4) else (if a1 = true then (if a0_0.toList = ([] : List UInt8) then (spec_l02Right.j0 k a2 false a0_0 a0_1 a0_2 a0_3 l0_4) else (spec_l02Right.j0 k a2 true a0_0 a0_1 a0_2 a0_3 l0_4)) else (spec_l02Right.j0 k a2 false a0_0 a0_1 a0_2 a0_3 l0_4))) else (if a0_2 = 0 then (if a0_3 = 0 then (if (l0_4.length : Int) > 2 then (spec_l02Right.j0 k a2 true a0_0 a0_1 a0_2 a0_3 l0_4) else (if a1 = true then (if a0_0.toList = ([] : List UInt8) then (spec_l02Right.j0 k a2 false a0_0 a0_1 a0_2 a0_3 l0_4) else (spec_l02Right.j0 k a2 true a0_0 a0_1 a0_2 a0_3 l0_4)) else (spec_l02Right.j0 k a2 (decide ((l0_4.length : Int) < 2)) a0_0 a0_1 a0_2 a0_3 l0_4))) else (spec_l02Right.j0 k a2 true a0_0 a0_1 a0_2 a0_3 l0_4)) else (spec_l02Right.j0 k a2 true a0_0 a0_1 a0_2 a0_3 l0_4))) = some r := by rw [if_pos rfl] at H; exact H
    clear H
    have H := H1
    clear H1
    by_cases c9 : a0_1 = true
    · subst c9
      have H1 : (if (l0_4.length : Int) > 2 then (spec_l02Right.j0 k a2 true a0_0 true a0_2 a0_3 l0_4) else (if a1 = true then (if a0_0.toList = ([] : List UInt8) then (spec_l02Right.j0 k a2 false a0_0 true a0_2 a0_3 l0_4) else (spec_l02Right.j0 k a2 true a0_0 true a0_2 a0_3 l0_4)) else (spec_l02Right.j0 k a2 false a0_0 true a0_2 a0_3 l0_4))) = some r := by rw [if_pos rfl] at H; exact H
      clear H
      have H := H1
      clear H1
      by_cases c10 : (l0_4.length : Int) > 2
      · rw [if_pos c10] at H
        have c10b0 : decide (2 < (l0_4.length : Int)) = true := decide_eq_true c10
        have c10b1 : decide (2 < l0_4.length) = true := decide_eq_true (by omega)
        clear c10
        have H' := Aside0.mk H
        clear H
        have hcz11_0 : w5.cell? ⟨gb115, 0, none⟩ = some (.string a0_0) := (blk_cell BK115.out 0).trans rfl
        have hcz11_1 : w5.cell? ⟨gb115, 1, none⟩ = some (.bool true) := (blk_cell BK115.out 1).trans rfl
        have hcz11_2 : w5.cell? ⟨gb115, 2, none⟩ = some (.int .i64 a0_2) := (blk_cell BK115.out 2).trans rfl
        have hcz11_3 : w5.cell? ⟨gb115, 3, none⟩ = some (.int .i64 a0_3) := (blk_cell BK115.out 3).trans rfl
        have hcz11_4 : w5.cell? ⟨gb115, 4, none⟩ = some (.slice A0_4 l0_4.length c0_4) := (blk_cell BK115.out 4).trans rfl
        have hfz11_0 := blk_frozen BK115.out 0
        have hfz11_1 := blk_frozen BK115.out 1
        have hfz11_2 := blk_frozen BK115.out 2
        have hfz11_3 := blk_frozen BK115.out 3
        have hfz11_4 := blk_frozen BK115.out 4
        go_wp2_with (first | (go_at_call 178; (with_reducible refine (spec_RouteOK.calls k a0_0 a0_2 a0_3 true _ A7.out).mono ?_); rintro e w12 ⟨rfl, hb⟩; have n0_ := Aside0.mk (blk_below (BKx BK115) hb); have n1_ := Aside0.mk (below_step (Bx1 HB GE115) hb); clear BK115; clear HB; have BK115 := n0_; have HB := n1_; clear n0_ n1_; (try clear hb); (try clear hb2); (try clear hk); (try clear hi); have hcz13_0 : w12.cell? ⟨gb115, 0, none⟩ = some (.string a0_0) := (blk_cell BK115.out 0).trans rfl; have hcz13_1 : w12.cell? ⟨gb115, 1, none⟩ = some (.bool true) := (blk_cell BK115.out 1).trans rfl; have hcz13_2 : w12.cell? ⟨gb115, 2, none⟩ = some (.int .i64 a0_2) := (blk_cell BK115.out 2).trans rfl; have hcz13_3 : w12.cell? ⟨gb115, 3, none⟩ = some (.int .i64 a0_3) := (blk_cell BK115.out 3).trans rfl; have hcz13_4 : w12.cell? ⟨gb115, 4, none⟩ = some (.slice A0_4 l0_4.length c0_4) := (blk_cell BK115.out 4).trans rfl; have hfz13_0 := blk_frozen BK115.out 0; have hfz13_1 := blk_frozen BK115.out 1; have hfz13_2 := blk_frozen BK115.out 2; have hfz13_3 := blk_frozen BK115.out 3; have hfz13_4 := blk_frozen BK115.out 4))
        go_meet
        case rel => exact ⟨_, (true), (by first | rfl | (simp; done) | (simp [*]; done)), H', ⟨by first | omega | exact Nat.le_refl _⟩, ⟨by (with_reducible repeat (first | refine blk_drewN ?_ _ | refine blk_drew ?_ | refine blk_alloc ?_ _)); exact BK115.out⟩, ⟨Bx1 HB GE115⟩⟩
      rw [if_neg c10] at H
      have c10b0 : decide (2 < (l0_4.length : Int)) = false := decide_eq_false c10
      have c10b1 : decide (2 < l0_4.length) = false := decide_eq_false (by omega)
      clear c10
      by_cases c14 : a1 = true
      rotate_left
      · replace c14 := Bool.eq_false_iff.mpr c14
        subst c14
        have H1 : (spec_l02Right.j0 k a2 false a0_0 true a0_2 a0_3 l0_4) = some r := by rw [if_neg (show ¬ (false = true) by decide)] at H; exact H
        clear H
        have H := H1
        clear H1
        have H' := Aside0.mk H
        clear H
        have hcz22_0 : w5.cell? ⟨gb115, 0, none⟩ = some (.string a0_0) := (blk_cell BK115.out 0).trans rfl
        have hcz22_1 : w5.cell? ⟨gb115, 1, none⟩ = some (.bool true) := (blk_cell BK115.out 1).trans rfl
        have hcz22_2 : w5.cell? ⟨gb115, 2, none⟩ = some (.int .i64 a0_2) := (blk_cell BK115.out 2).trans rfl
        have hcz22_3 : w5.cell? ⟨gb115, 3, none⟩ = some (.int .i64 a0_3) := (blk_cell BK115.out 3).trans rfl
        have hcz22_4 : w5.cell? ⟨gb115, 4, none⟩ = some (.slice A0_4 l0_4.length c0_4) := (blk_cell BK115.out 4).trans rfl
        have hfz22_0 := blk_frozen BK115.out 0
        have hfz22_1 := blk_frozen BK115.out 1
        have hfz22_2 := blk_frozen BK115.out 2
        have hfz22_3 := blk_frozen BK115.out 3
        have hfz22_4 := blk_frozen BK115.out 4
        go_wp2_with (first | (go_at_call 178; (with_reducible refine (spec_RouteOK.calls k a0_0 a0_2 a0_3 true _ A7.out).mono ?_); rintro e w23 ⟨rfl, hb⟩; have n0_ := Aside0.mk (blk_below (BKx BK115) hb); have n1_ := Aside0.mk (below_step (Bx1 HB GE115) hb); clear BK115; clear HB; have BK115 := n0_; have HB := n1_; clear n0_ n1_; (try clear hb); (try clear hb2); (try clear hk); (try clear hi); have hcz24_0 : w23.cell? ⟨gb115, 0, none⟩ = some (.string a0_0) := (blk_cell BK115.out 0).trans rfl; have hcz24_1 : w23.cell? ⟨gb115, 1, none⟩ = some (.bool true) := (blk_cell BK115.out 1).trans rfl; have hcz24_2 : w23.cell? ⟨gb115, 2, none⟩ = some (.int .i64 a0_2) := (blk_cell BK115.out 2).trans rfl; have hcz24_3 : w23.cell? ⟨gb115, 3, none⟩ = some (.int .i64 a0_3) := (blk_cell BK115.out 3).trans rfl; have hcz24_4 : w23.cell? ⟨gb115, 4, none⟩ = some (.slice A0_4 l0_4.length c0_4) := (blk_cell BK115.out 4).trans rfl; have hfz24_0 := blk_frozen BK115.out 0; have hfz24_1 := blk_frozen BK115.out 1; have hfz24_2 := blk_frozen BK115.out 2; have hfz24_3 := blk_frozen BK115.out 3; have hfz24_4 := blk_frozen BK115.out 4))
        go_meet
        case rel => exact ⟨_, (false), (by first | rfl | (simp; done) | (simp [*]; done)), H', ⟨by first | omega | exact Nat.le_refl _⟩, ⟨by (with_reducible repeat (first | refine blk_drewN ?_ _ | refine blk_drew ?_ | refine blk_alloc ?_ _)); exact BK115.out⟩, ⟨Bx1 HB GE115⟩⟩
      subst c14
      have H1 : (if a0_0.toList = ([] : List UInt8) then (spec_l02Right.j0 k a2 false a0_0 true a0_2 a0_3 l0_4) else (spec_l02Right.j0 k a2 true a0_0 true a0_2 a0_3 l0_4)) = some r := by rw [if_pos rfl] at H; exact H
      clear H
      have H := H1
      clear H1
      by_cases c15 : a0_0.toList = ([] : List UInt8)
      rotate_left
      · rw [if_neg c15] at H
        have c15b0 : (a0_0.toList == ([] : List UInt8)) = false := beq_eq_false_iff_ne.mpr c15
        (try (have c15b0e : a0_0.toList.isEmpty = false := by simp only [← (show ∀ l_ : List UInt8, (l_ == []) = l_.isEmpty from fun l_ => by cases l_ <;> rfl)]; exact c15b0))
        have c15b1 : (a0_0.toList != ([] : List UInt8)) = true := bne_iff_ne.mpr c15
        have H' := Aside0.mk H
        clear H
        have hcz19_0 : w5.cell? ⟨gb115, 0, none⟩ = some (.string a0_0) := (blk_cell BK115.out 0).trans rfl
        have hcz19_1 : w5.cell? ⟨gb115, 1, none⟩ = some (.bool true) := (blk_cell BK115.out 1).trans rfl
        have hcz19_2 : w5.cell? ⟨gb115, 2, none⟩ = some (.int .i64 a0_2) := (blk_cell BK115.out 2).trans rfl
        have hcz19_3 : w5.cell? ⟨gb115, 3, none⟩ = some (.int .i64 a0_3) := (blk_cell BK115.out 3).trans rfl
        have hcz19_4 : w5.cell? ⟨gb115, 4, none⟩ = some (.slice A0_4 l0_4.length c0_4) := (blk_cell BK115.out 4).trans rfl
        have hfz19_0 := blk_frozen BK115.out 0
        have hfz19_1 := blk_frozen BK115.out 1
        have hfz19_2 := blk_frozen BK115.out 2
        have hfz19_3 := blk_frozen BK115.out 3
        have hfz19_4 := blk_frozen BK115.out 4
        go_wp2_with (first | (go_at_call 178; (with_reducible refine (spec_RouteOK.calls k a0_0 a0_2 a0_3 true _ A7.out).mono ?_); rintro e w20 ⟨rfl, hb⟩; have n0_ := Aside0.mk (blk_below (BKx BK115) hb); have n1_ := Aside0.mk (below_step (Bx1 HB GE115) hb); clear BK115; clear HB; have BK115 := n0_; have HB := n1_; clear n0_ n1_; (try clear hb); (try clear hb2); (try clear hk); (try clear hi); have hcz21_0 : w20.cell? ⟨gb115, 0, none⟩ = some (.string a0_0) := (blk_cell BK115.out 0).trans rfl; have hcz21_1 : w20.cell? ⟨gb115, 1, none⟩ = some (.bool true) := (blk_cell BK115.out 1).trans rfl; have hcz21_2 : w20.cell? ⟨gb115, 2, none⟩ = some (.int .i64 a0_2) := (blk_cell BK115.out 2).trans rfl; have hcz21_3 : w20.cell? ⟨gb115, 3, none⟩ = some (.int .i64 a0_3) := (blk_cell BK115.out 3).trans rfl; have hcz21_4 : w20.cell? ⟨gb115, 4, none⟩ = some (.slice A0_4 l0_4.length c0_4) := (blk_cell BK115.out 4).trans rfl; have hfz21_0 := blk_frozen BK115.out 0; have hfz21_1 := blk_frozen BK115.out 1; have hfz21_2 := blk_frozen BK115.out 2; have hfz21_3 := blk_frozen BK115.out 3; have hfz21_4 := blk_frozen BK115.out 4))
        go_meet
        case rel => exact ⟨_, (true), (by first | rfl | (simp; done) | (simp [*]; done)), H', ⟨by first | omega | exact Nat.le_refl _⟩, ⟨by (with_reducible repeat (first | refine blk_drewN ?_ _ | refine blk_drew ?_ | refine blk_alloc ?_ _)); exact BK115.out⟩, ⟨Bx1 HB GE115⟩⟩
      rw [if_pos c15] at H
      have c15b0 : (a0_0.toList == ([] : List UInt8)) = true := beq_iff_eq.mpr c15
      (try (have c15b0e : a0_0.toList.isEmpty = true := by simp only [← (show ∀ l_ : List UInt8, (l_ == []) = l_.isEmpty from fun l_ => by cases l_ <;> rfl)]; exact c15b0))
      have c15b1 : (a0_0.toList != ([] : List UInt8)) = false := bne_eq_false_iff_eq.mpr c15
      clear c15
      have H' := Aside0.mk H
      clear H
      have hcz16_0 : w5.cell? ⟨gb115, 0, none⟩ = some (.string a0_0) := (blk_cell BK115.out 0).trans rfl
      have hcz16_1 : w5.cell? ⟨gb115, 1, none⟩ = some (.bool true) := (blk_cell BK115.out 1).trans rfl
      have hcz16_2 : w5.cell? ⟨gb115, 2, none⟩ = some (.int .i64 a0_2) := (blk_cell BK115.out 2).trans rfl
      have hcz16_3 : w5.cell? ⟨gb115, 3, none⟩ = some (.int .i64 a0_3) := (blk_cell BK115.out 3).trans rfl
      have hcz16_4 : w5.cell? ⟨gb115, 4, none⟩ = some (.slice A0_4 l0_4.length c0_4) := (blk_cell BK115.out 4).trans rfl
      have hfz16_0 := blk_frozen BK115.out 0
      have hfz16_1 := blk_frozen BK115.out 1
      have hfz16_2 := blk_frozen BK115.out 2
      have hfz16_3 := blk_frozen BK115.out 3
      have hfz16_4 := blk_frozen BK115.out 4
      go_wp2_with (first | (go_at_call 178; (with_reducible refine (spec_RouteOK.calls k a0_0 a0_2 a0_3 true _ A7.out).mono ?_); rintro e w17 ⟨rfl, hb⟩; have n0_ := Aside0.mk (blk_below (BKx BK115) hb); have n1_ := Aside0.mk (below_step (Bx1 HB GE115) hb); clear BK115; clear HB; have BK115 := n0_; have HB := n1_; clear n0_ n1_; (try clear hb); (try clear hb2); (try clear hk); (try clear hi); have hcz18_0 : w17.cell? ⟨gb115, 0, none⟩ = some (.string a0_0) := (blk_cell BK115.out 0).trans rfl; have hcz18_1 : w17.cell? ⟨gb115, 1, none⟩ = some (.bool true) := (blk_cell BK115.out 1).trans rfl; have hcz18_2 : w17.cell? ⟨gb115, 2, none⟩ = some (.int .i64 a0_2) := (blk_cell BK115.out 2).trans rfl; have hcz18_3 : w17.cell? ⟨gb115, 3, none⟩ = some (.int .i64 a0_3) := (blk_cell BK115.out 3).trans rfl; have hcz18_4 : w17.cell? ⟨gb115, 4, none⟩ = some (.slice A0_4 l0_4.length c0_4) := (blk_cell BK115.out 4).trans rfl; have hfz18_0 := blk_frozen BK115.out 0; have hfz18_1 := blk_frozen BK115.out 1; have hfz18_2 := blk_frozen BK115.out 2; have hfz18_3 := blk_frozen BK115.out 3; have hfz18_4 := blk_frozen BK115.out 4))
      go_meet
      case rel => exact ⟨_, (false), (by first | rfl | (simp; done) | (simp [*]; done)), H', ⟨by first | omega | exact Nat.le_refl _⟩, ⟨by (with_reducible repeat (first | refine blk_drewN ?_ _ | refine blk_drew ?_ | refine blk_alloc ?_ _)); exact BK115.out⟩, ⟨Bx1 HB GE115⟩⟩
    replace c9 := Bool.eq_false_iff.mpr c9
    subst c9
    have H1 : (if a0_2 = 0 then (if a0_3 = 0 then (if (l0_4.length : Int) > 2 then (spec_l02Right.j0 k a2 true a0_0 false a0_2 a0_3 l0_4) else (if a1 = true then (if a0_0.toList = ([] : List UInt8) then (spec_l02Right.j0 k a2 false a0_0 false a0_2 a0_3 l0_4) else (spec_l02Right.j0 k a2 true a0_0 false a0_2 a0_3 l0_4)) else (spec_l02Right.j0 k a2 (decide ((l0_4.length : Int) < 2)) a0_0 false a0_2 a0_3 l0_4))) else (spec_l02Right.j0 k a2 true a0_0 false a0_2 a0_3 l0_4)) else (spec_l02Right.j0 k a2 true a0_0 false a0_2 a0_3 l0_4)) = some r := by rw [if_neg (show ¬ (false = true) by decide)] at H; exact H
    clear H
    have H := H1
    clear H1
    by_cases c25 : a0_2 = 0
    rotate_left
    · rw [if_neg c25] at H
      have c25b0 : (a0_2 == 0) = false := beq_eq_false_iff_ne.mpr c25
      have c25b1 : (a0_2 != 0) = true := bne_iff_ne.mpr c25
      have H' := Aside0.mk H
      clear H
      have hcz45_0 : w5.cell? ⟨gb115, 0, none⟩ = some (.string a0_0) := (blk_cell BK115.out 0).trans rfl
      have hcz45_1 : w5.cell? ⟨gb115, 1, none⟩ = some (.bool false) := (blk_cell BK115.out 1).trans rfl
      have hcz45_2 : w5.cell? ⟨gb115, 2, none⟩ = some (.int .i64 a0_2) := (blk_cell BK115.out 2).trans rfl
      have hcz45_3 : w5.cell? ⟨gb115, 3, none⟩ = some (.int .i64 a0_3) := (blk_cell BK115.out 3).trans rfl
      have hcz45_4 : w5.cell? ⟨gb115, 4, none⟩ = some (.slice A0_4 l0_4.length c0_4) := (blk_cell BK115.out 4).trans rfl
      have hfz45_0 := blk_frozen BK115.out 0
      have hfz45_1 := blk_frozen BK115.out 1
      have hfz45_2 := blk_frozen BK115.out 2
      have hfz45_3 := blk_frozen BK115.out 3
      have hfz45_4 := blk_frozen BK115.out 4
      go_wp2_with (first | (go_at_call 178; (with_reducible refine (spec_RouteOK.calls k a0_0 a0_2 a0_3 true _ A7.out).mono ?_); rintro e w46 ⟨rfl, hb⟩; have n0_ := Aside0.mk (blk_below (BKx BK115) hb); have n1_ := Aside0.mk (below_step (Bx1 HB GE115) hb); clear BK115; clear HB; have BK115 := n0_; have HB := n1_; clear n0_ n1_; (try clear hb); (try clear hb2); (try clear hk); (try clear hi); have hcz47_0 : w46.cell? ⟨gb115, 0, none⟩ = some (.string a0_0) := (blk_cell BK115.out 0).trans rfl; have hcz47_1 : w46.cell? ⟨gb115, 1, none⟩ = some (.bool false) := (blk_cell BK115.out 1).trans rfl; have hcz47_2 : w46.cell? ⟨gb115, 2, none⟩ = some (.int .i64 a0_2) := (blk_cell BK115.out 2).trans rfl; have hcz47_3 : w46.cell? ⟨gb115, 3, none⟩ = some (.int .i64 a0_3) := (blk_cell BK115.out 3).trans rfl; have hcz47_4 : w46.cell? ⟨gb115, 4, none⟩ = some (.slice A0_4 l0_4.length c0_4) := (blk_cell BK115.out 4).trans rfl; have hfz47_0 := blk_frozen BK115.out 0; have hfz47_1 := blk_frozen BK115.out 1; have hfz47_2 := blk_frozen BK115.out 2; have hfz47_3 := blk_frozen BK115.out 3; have hfz47_4 := blk_frozen BK115.out 4))
      go_meet
      case rel => exact ⟨_, (true), (by first | rfl | (simp; done) | (simp [*]; done)), H', ⟨by first | omega | exact Nat.le_refl _⟩, ⟨by (with_reducible repeat (first | refine blk_drewN ?_ _ | refine blk_drew ?_ | refine blk_alloc ?_ _)); exact BK115.out⟩, ⟨Bx1 HB GE115⟩⟩
    rw [if_pos c25] at H
    have c25b0 : (a0_2 == 0) = true := beq_iff_eq.mpr c25
    have c25b1 : (a0_2 != 0) = false := bne_eq_false_iff_eq.mpr c25
    clear c25
    by_cases c26 : a0_3 = 0
    rotate_left
    · rw [if_neg c26] at H
      have c26b0 : (a0_3 == 0) = false := beq_eq_false_iff_ne.mpr c26
      have c26b1 : (a0_3 != 0) = true := bne_iff_ne.mpr c26
      have H' := Aside0.mk H
      clear H
      have hcz42_0 : w5.cell? ⟨gb115, 0, none⟩ = some (.string a0_0) := (blk_cell BK115.out 0).trans rfl
      have hcz42_1 : w5.cell? ⟨gb115, 1, none⟩ = some (.bool false) := (blk_cell BK115.out 1).trans rfl
      have hcz42_2 : w5.cell? ⟨gb115, 2, none⟩ = some (.int .i64 a0_2) := (blk_cell BK115.out 2).trans rfl
      have hcz42_3 : w5.cell? ⟨gb115, 3, none⟩ = some (.int .i64 a0_3) := (blk_cell BK115.out 3).trans rfl
      have hcz42_4 : w5.cell? ⟨gb115, 4, none⟩ = some (.slice A0_4 l0_4.length c0_4) := (blk_cell BK115.out 4).trans rfl
      have hfz42_0 := blk_frozen BK115.out 0
      have hfz42_1 := blk_frozen BK115.out 1
      have hfz42_2 := blk_frozen BK115.out 2
      have hfz42_3 := blk_frozen BK115.out 3
      have hfz42_4 := blk_frozen BK115.out 4
      go_wp2_with (first | (go_at_call 178; (with_reducible refine (spec_RouteOK.calls k a0_0 a0_2 a0_3 true _ A7.out).mono ?_); rintro e w43 ⟨rfl, hb⟩; have n0_ := Aside0.mk (blk_below (BKx BK115) hb); have n1_ := Aside0.mk (below_step (Bx1 HB GE115) hb); clear BK115; clear HB; have BK115 := n0_; have HB := n1_; clear n0_ n1_; (try clear hb); (try clear hb2); (try clear hk); (try clear hi); have hcz44_0 : w43.cell? ⟨gb115, 0, none⟩ = some (.string a0_0) := (blk_cell BK115.out 0).trans rfl; have hcz44_1 : w43.cell? ⟨gb115, 1, none⟩ = some (.bool false) := (blk_cell BK115.out 1).trans rfl; have hcz44_2 : w43.cell? ⟨gb115, 2, none⟩ = some (.int .i64 a0_2) := (blk_cell BK115.out 2).trans rfl; have hcz44_3 : w43.cell? ⟨gb115, 3, none⟩ = some (.int .i64 a0_3) := (blk_cell BK115.out 3).trans rfl; have hcz44_4 : w43.cell? ⟨gb115, 4, none⟩ = some (.slice A0_4 l0_4.length c0_4) := (blk_cell BK115.out 4).trans rfl; have hfz44_0 := blk_frozen BK115.out 0; have hfz44_1 := blk_frozen BK115.out 1; have hfz44_2 := blk_frozen BK115.out 2; have hfz44_3 := blk_frozen BK115.out 3; have hfz44_4 := blk_frozen BK115.out 4))
      go_meet
      case rel => exact ⟨_, (true), (by first | rfl | (simp; done) | (simp [*]; done)), H', ⟨by first | omega | exact Nat.le_refl _⟩, ⟨by (with_reducible repeat (first | refine blk_drewN ?_ _ | refine blk_drew ?_ | refine blk_alloc ?_ _)); exact BK115.out⟩, ⟨Bx1 HB GE115⟩⟩
    rw [if_pos c26] at H
    have c26b0 : (a0_3 == 0) = true := beq_iff_eq.mpr c26
    have c26b1 : (a0_3 != 0) = false := bne_eq_false_iff_eq.mpr c26
    clear c26
    by_cases c27 : (l0_4.length : Int) > 2
    · rw [if_pos c27] at H
      have c27b0 : decide (2 < (l0_4.length : Int)) = true := decide_eq_true c27
      have c27b1 : decide (2 < l0_4.length) = true := decide_eq_true (by omega)
      clear c27
      have H' := Aside0.mk H
      clear H
      have hcz28_0 : w5.cell? ⟨gb115, 0, none⟩ = some (.string a0_0) := (blk_cell BK115.out 0).trans rfl
      have hcz28_1 : w5.cell? ⟨gb115, 1, none⟩ = some (.bool false) := (blk_cell BK115.out 1).trans rfl
      have hcz28_2 : w5.cell? ⟨gb115, 2, none⟩ = some (.int .i64 a0_2) := (blk_cell BK115.out 2).trans rfl
      have hcz28_3 : w5.cell? ⟨gb115, 3, none⟩ = some (.int .i64 a0_3) := (blk_cell BK115.out 3).trans rfl
      have hcz28_4 : w5.cell? ⟨gb115, 4, none⟩ = some (.slice A0_4 l0_4.length c0_4) := (blk_cell BK115.out 4).trans rfl
      have hfz28_0 := blk_frozen BK115.out 0
      have hfz28_1 := blk_frozen BK115.out 1
      have hfz28_2 := blk_frozen BK115.out 2
      have hfz28_3 := blk_frozen BK115.out 3
      have hfz28_4 := blk_frozen BK115.out 4
      go_wp2_with (first | (go_at_call 178; (with_reducible refine (spec_RouteOK.calls k a0_0 a0_2 a0_3 true _ A7.out).mono ?_); rintro e w29 ⟨rfl, hb⟩; have n0_ := Aside0.mk (blk_below (BKx BK115) hb); have n1_ := Aside0.mk (below_step (Bx1 HB GE115) hb); clear BK115; clear HB; have BK115 := n0_; have HB := n1_; clear n0_ n1_; (try clear hb); (try clear hb2); (try clear hk); (try clear hi); have hcz30_0 : w29.cell? ⟨gb115, 0, none⟩ = some (.string a0_0) := (blk_cell BK115.out 0).trans rfl; have hcz30_1 : w29.cell? ⟨gb115, 1, none⟩ = some (.bool false) := (blk_cell BK115.out 1).trans rfl; have hcz30_2 : w29.cell? ⟨gb115, 2, none⟩ = some (.int .i64 a0_2) := (blk_cell BK115.out 2).trans rfl; have hcz30_3 : w29.cell? ⟨gb115, 3, none⟩ = some (.int .i64 a0_3) := (blk_cell BK115.out 3).trans rfl; have hcz30_4 : w29.cell? ⟨gb115, 4, none⟩ = some (.slice A0_4 l0_4.length c0_4) := (blk_cell BK115.out 4).trans rfl; have hfz30_0 := blk_frozen BK115.out 0; have hfz30_1 := blk_frozen BK115.out 1; have hfz30_2 := blk_frozen BK115.out 2; have hfz30_3 := blk_frozen BK115.out 3; have hfz30_4 := blk_frozen BK115.out 4))
      go_meet
      case rel => exact ⟨_, (true), (by first | rfl | (simp; done) | (simp [*]; done)), H', ⟨by first | omega | exact Nat.le_refl _⟩, ⟨by (with_reducible repeat (first | refine blk_drewN ?_ _ | refine blk_drew ?_ | refine blk_alloc ?_ _)); exact BK115.out⟩, ⟨Bx1 HB GE115⟩⟩
    rw [if_neg c27] at H
    have c27b0 : decide (2 < (l0_4.length : Int)) = false := decide_eq_false c27
    have c27b1 : decide (2 < l0_4.length) = false := decide_eq_false (by omega)
    clear c27
    by_cases c31 : a1 = true
    rotate_left
    · replace c31 := Bool.eq_false_iff.mpr c31
      subst c31
      have H1 : (spec_l02Right.j0 k a2 (decide ((l0_4.length : Int) < 2)) a0_0 false a0_2 a0_3 l0_4) = some r := by rw [if_neg (show ¬ (false = true) by decide)] at H; exact H
      clear H
      have H := H1
      clear H1
      have H' := Aside0.mk H
      clear H
      have hcz39_0 : w5.cell? ⟨gb115, 0, none⟩ = some (.string a0_0) := (blk_cell BK115.out 0).trans rfl
      have hcz39_1 : w5.cell? ⟨gb115, 1, none⟩ = some (.bool false) := (blk_cell BK115.out 1).trans rfl
      have hcz39_2 : w5.cell? ⟨gb115, 2, none⟩ = some (.int .i64 a0_2) := (blk_cell BK115.out 2).trans rfl
      have hcz39_3 : w5.cell? ⟨gb115, 3, none⟩ = some (.int .i64 a0_3) := (blk_cell BK115.out 3).trans rfl
      have hcz39_4 : w5.cell? ⟨gb115, 4, none⟩ = some (.slice A0_4 l0_4.length c0_4) := (blk_cell BK115.out 4).trans rfl
      have hfz39_0 := blk_frozen BK115.out 0
      have hfz39_1 := blk_frozen BK115.out 1
      have hfz39_2 := blk_frozen BK115.out 2
      have hfz39_3 := blk_frozen BK115.out 3
      have hfz39_4 := blk_frozen BK115.out 4
      go_wp2_with (first | (go_at_call 178; (with_reducible refine (spec_RouteOK.calls k a0_0 a0_2 a0_3 true _ A7.out).mono ?_); rintro e w40 ⟨rfl, hb⟩; have n0_ := Aside0.mk (blk_below (BKx BK115) hb); have n1_ := Aside0.mk (below_step (Bx1 HB GE115) hb); clear BK115; clear HB; have BK115 := n0_; have HB := n1_; clear n0_ n1_; (try clear hb); (try clear hb2); (try clear hk); (try clear hi); have hcz41_0 : w40.cell? ⟨gb115, 0, none⟩ = some (.string a0_0) := (blk_cell BK115.out 0).trans rfl; have hcz41_1 : w40.cell? ⟨gb115, 1, none⟩ = some (.bool false) := (blk_cell BK115.out 1).trans rfl; have hcz41_2 : w40.cell? ⟨gb115, 2, none⟩ = some (.int .i64 a0_2) := (blk_cell BK115.out 2).trans rfl; have hcz41_3 : w40.cell? ⟨gb115, 3, none⟩ = some (.int .i64 a0_3) := (blk_cell BK115.out 3).trans rfl; have hcz41_4 : w40.cell? ⟨gb115, 4, none⟩ = some (.slice A0_4 l0_4.length c0_4) := (blk_cell BK115.out 4).trans rfl; have hfz41_0 := blk_frozen BK115.out 0; have hfz41_1 := blk_frozen BK115.out 1; have hfz41_2 := blk_frozen BK115.out 2; have hfz41_3 := blk_frozen BK115.out 3; have hfz41_4 := blk_frozen BK115.out 4))
      go_meet
      case rel => exact ⟨_, (decide ((l0_4.length : Int) < 2)), (by first | rfl | (simp; done) | (simp [*]; done)), H', ⟨by first | omega | exact Nat.le_refl _⟩, ⟨by (with_reducible repeat (first | refine blk_drewN ?_ _ | refine blk_drew ?_ | refine blk_alloc ?_ _)); exact BK115.out⟩, ⟨Bx1 HB GE115⟩⟩
    subst c31
    have H1 : (if a0_0.toList = ([] : List UInt8) then (spec_l02Right.j0 k a2 false a0_0 false a0_2 a0_3 l0_4) else (spec_l02Right.j0 k a2 true a0_0 false a0_2 a0_3 l0_4)) = some r := by rw [if_pos rfl] at H; exact H
    clear H
    have H := H1
    clear H1
    by_cases c32 : a0_0.toList = ([] : List UInt8)
    rotate_left
    · rw [if_neg c32] at H
      have c32b0 : (a0_0.toList == ([] : List UInt8)) = false := beq_eq_false_iff_ne.mpr c32
      (try (have c32b0e : a0_0.toList.isEmpty = false := by simp only [← (show ∀ l_ : List UInt8, (l_ == []) = l_.isEmpty from fun l_ => by cases l_ <;> rfl)]; exact c32b0))
      have c32b1 : (a0_0.toList != ([] : List UInt8)) = true := bne_iff_ne.mpr c32
      have H' := Aside0.mk H
      clear H
      have hcz36_0 : w5.cell? ⟨gb115, 0, none⟩ = some (.string a0_0) := (blk_cell BK115.out 0).trans rfl
      have hcz36_1 : w5.cell? ⟨gb115, 1, none⟩ = some (.bool false) := (blk_cell BK115.out 1).trans rfl
      have hcz36_2 : w5.cell? ⟨gb115, 2, none⟩ = some (.int .i64 a0_2) := (blk_cell BK115.out 2).trans rfl
      have hcz36_3 : w5.cell? ⟨gb115, 3, none⟩ = some (.int .i64 a0_3) := (blk_cell BK115.out 3).trans rfl
      have hcz36_4 : w5.cell? ⟨gb115, 4, none⟩ = some (.slice A0_4 l0_4.length c0_4) := (blk_cell BK115.out 4).trans rfl
      have hfz36_0 := blk_frozen BK115.out 0
      have hfz36_1 := blk_frozen BK115.out 1
      have hfz36_2 := blk_frozen BK115.out 2
      have hfz36_3 := blk_frozen BK115.out 3
      have hfz36_4 := blk_frozen BK115.out 4
      go_wp2_with (first | (go_at_call 178; (with_reducible refine (spec_RouteOK.calls k a0_0 a0_2 a0_3 true _ A7.out).mono ?_); rintro e w37 ⟨rfl, hb⟩; have n0_ := Aside0.mk (blk_below (BKx BK115) hb); have n1_ := Aside0.mk (below_step (Bx1 HB GE115) hb); clear BK115; clear HB; have BK115 := n0_; have HB := n1_; clear n0_ n1_; (try clear hb); (try clear hb2); (try clear hk); (try clear hi); have hcz38_0 : w37.cell? ⟨gb115, 0, none⟩ = some (.string a0_0) := (blk_cell BK115.out 0).trans rfl; have hcz38_1 : w37.cell? ⟨gb115, 1, none⟩ = some (.bool false) := (blk_cell BK115.out 1).trans rfl; have hcz38_2 : w37.cell? ⟨gb115, 2, none⟩ = some (.int .i64 a0_2) := (blk_cell BK115.out 2).trans rfl; have hcz38_3 : w37.cell? ⟨gb115, 3, none⟩ = some (.int .i64 a0_3) := (blk_cell BK115.out 3).trans rfl; have hcz38_4 : w37.cell? ⟨gb115, 4, none⟩ = some (.slice A0_4 l0_4.length c0_4) := (blk_cell BK115.out 4).trans rfl; have hfz38_0 := blk_frozen BK115.out 0; have hfz38_1 := blk_frozen BK115.out 1; have hfz38_2 := blk_frozen BK115.out 2; have hfz38_3 := blk_frozen BK115.out 3; have hfz38_4 := blk_frozen BK115.out 4))
      go_meet
      case rel => exact ⟨_, (true), (by first | rfl | (simp; done) | (simp [*]; done)), H', ⟨by first | omega | exact Nat.le_refl _⟩, ⟨by (with_reducible repeat (first | refine blk_drewN ?_ _ | refine blk_drew ?_ | refine blk_alloc ?_ _)); exact BK115.out⟩, ⟨Bx1 HB GE115⟩⟩
    rw [if_pos c32] at H
    have c32b0 : (a0_0.toList == ([] : List UInt8)) = true := beq_iff_eq.mpr c32
    (try (have c32b0e : a0_0.toList.isEmpty = true := by simp only [← (show ∀ l_ : List UInt8, (l_ == []) = l_.isEmpty from fun l_ => by cases l_ <;> rfl)]; exact c32b0))
    have c32b1 : (a0_0.toList != ([] : List UInt8)) = false := bne_eq_false_iff_eq.mpr c32
    clear c32
    have H' := Aside0.mk H
    clear H
    have hcz33_0 : w5.cell? ⟨gb115, 0, none⟩ = some (.string a0_0) := (blk_cell BK115.out 0).trans rfl
    have hcz33_1 : w5.cell? ⟨gb115, 1, none⟩ = some (.bool false) := (blk_cell BK115.out 1).trans rfl
    have hcz33_2 : w5.cell? ⟨gb115, 2, none⟩ = some (.int .i64 a0_2) := (blk_cell BK115.out 2).trans rfl
    have hcz33_3 : w5.cell? ⟨gb115, 3, none⟩ = some (.int .i64 a0_3) := (blk_cell BK115.out 3).trans rfl
    have hcz33_4 : w5.cell? ⟨gb115, 4, none⟩ = some (.slice A0_4 l0_4.length c0_4) := (blk_cell BK115.out 4).trans rfl
    have hfz33_0 := blk_frozen BK115.out 0
    have hfz33_1 := blk_frozen BK115.out 1
    have hfz33_2 := blk_frozen BK115.out 2
    have hfz33_3 := blk_frozen BK115.out 3
    have hfz33_4 := blk_frozen BK115.out 4
    go_wp2_with (first | (go_at_call 178; (with_reducible refine (spec_RouteOK.calls k a0_0 a0_2 a0_3 true _ A7.out).mono ?_); rintro e w34 ⟨rfl, hb⟩; have n0_ := Aside0.mk (blk_below (BKx BK115) hb); have n1_ := Aside0.mk (below_step (Bx1 HB GE115) hb); clear BK115; clear HB; have BK115 := n0_; have HB := n1_; clear n0_ n1_; (try clear hb); (try clear hb2); (try clear hk); (try clear hi); have hcz35_0 : w34.cell? ⟨gb115, 0, none⟩ = some (.string a0_0) := (blk_cell BK115.out 0).trans rfl; have hcz35_1 : w34.cell? ⟨gb115, 1, none⟩ = some (.bool false) := (blk_cell BK115.out 1).trans rfl; have hcz35_2 : w34.cell? ⟨gb115, 2, none⟩ = some (.int .i64 a0_2) := (blk_cell BK115.out 2).trans rfl; have hcz35_3 : w34.cell? ⟨gb115, 3, none⟩ = some (.int .i64 a0_3) := (blk_cell BK115.out 3).trans rfl; have hcz35_4 : w34.cell? ⟨gb115, 4, none⟩ = some (.slice A0_4 l0_4.length c0_4) := (blk_cell BK115.out 4).trans rfl; have hfz35_0 := blk_frozen BK115.out 0; have hfz35_1 := blk_frozen BK115.out 1; have hfz35_2 := blk_frozen BK115.out 2; have hfz35_3 := blk_frozen BK115.out 3; have hfz35_4 := blk_frozen BK115.out 4))
    go_meet
    case rel => exact ⟨_, (false), (by first | rfl | (simp; done) | (simp [*]; done)), H', ⟨by first | omega | exact Nat.le_refl _⟩, ⟨by (with_reducible repeat (first | refine blk_drewN ?_ _ | refine blk_drew ?_ | refine blk_alloc ?_ _)); exact BK115.out⟩, ⟨Bx1 HB GE115⟩⟩
  case rest =>
    clear HC4
    try clear c1
    try clear c2
    try clear p2
    try clear c3
    try clear c6
    try clear c6b0
    try clear c8
    try clear c9
    try clear c10
    try clear c10b0
    try clear c10b1
    try clear c12
    try clear c14
    try clear c15
    try clear c15b0
    try clear c15b1
    try clear c25
    try clear c25b0
    try clear c25b1
    try clear c26
    try clear c26b0
    try clear c26b1
    try clear c27
    try clear c27b0
    try clear c27b1
    try clear c31
    try clear c32
    try clear c32b0
    try clear c32b1
    try clear hcz11_0 hcz11_1 hcz11_2 hcz11_3 hcz11_4
    try clear hcz13_0 hcz13_1 hcz13_2 hcz13_3 hcz13_4
    try clear hcz16_0 hcz16_1 hcz16_2 hcz16_3 hcz16_4
    try clear hcz18_0 hcz18_1 hcz18_2 hcz18_3 hcz18_4
    try clear hcz19_0 hcz19_1 hcz19_2 hcz19_3 hcz19_4
    try clear hcz21_0 hcz21_1 hcz21_2 hcz21_3 hcz21_4
    try clear hcz22_0 hcz22_1 hcz22_2 hcz22_3 hcz22_4
    try clear hcz24_0 hcz24_1 hcz24_2 hcz24_3 hcz24_4
    try clear hcz28_0 hcz28_1 hcz28_2 hcz28_3 hcz28_4
    try clear hcz30_0 hcz30_1 hcz30_2 hcz30_3 hcz30_4
    try clear hcz33_0 hcz33_1 hcz33_2 hcz33_3 hcz33_4
    try clear hcz35_0 hcz35_1 hcz35_2 hcz35_3 hcz35_4
    try clear hcz36_0 hcz36_1 hcz36_2 hcz36_3 hcz36_4
    try clear hcz38_0 hcz38_1 hcz38_2 hcz38_3 hcz38_4
    try clear hcz39_0 hcz39_1 hcz39_2 hcz39_3 hcz39_4
    try clear hcz41_0 hcz41_1 hcz41_2 hcz41_3 hcz41_4
    try clear hcz42_0 hcz42_1 hcz42_2 hcz42_3 hcz42_4
    try clear hcz44_0 hcz44_1 hcz44_2 hcz44_3 hcz44_4
    try clear hcz45_0 hcz45_1 hcz45_2 hcz45_3 hcz45_4
    try clear hcz47_0 hcz47_1 hcz47_2 hcz47_3 hcz47_4
    try clear hcz48_0 hcz48_1 hcz48_2 hcz48_3 hcz48_4
    try clear hfz11_0 hfz11_1 hfz11_2 hfz11_3 hfz11_4
    try clear hfz13_0 hfz13_1 hfz13_2 hfz13_3 hfz13_4
    try clear hfz16_0 hfz16_1 hfz16_2 hfz16_3 hfz16_4
    try clear hfz18_0 hfz18_1 hfz18_2 hfz18_3 hfz18_4
    try clear hfz19_0 hfz19_1 hfz19_2 hfz19_3 hfz19_4
    try clear hfz21_0 hfz21_1 hfz21_2 hfz21_3 hfz21_4
    try clear hfz22_0 hfz22_1 hfz22_2 hfz22_3 hfz22_4
    try clear hfz24_0 hfz24_1 hfz24_2 hfz24_3 hfz24_4
    try clear hfz28_0 hfz28_1 hfz28_2 hfz28_3 hfz28_4
    try clear hfz30_0 hfz30_1 hfz30_2 hfz30_3 hfz30_4
    try clear hfz33_0 hfz33_1 hfz33_2 hfz33_3 hfz33_4
    try clear hfz35_0 hfz35_1 hfz35_2 hfz35_3 hfz35_4
    try clear hfz36_0 hfz36_1 hfz36_2 hfz36_3 hfz36_4
    try clear hfz38_0 hfz38_1 hfz38_2 hfz38_3 hfz38_4
    try clear hfz39_0 hfz39_1 hfz39_2 hfz39_3 hfz39_4
    try clear hfz41_0 hfz41_1 hfz41_2 hfz41_3 hfz41_4
    try clear hfz42_0 hfz42_1 hfz42_2 hfz42_3 hfz42_4
    try clear hfz44_0 hfz44_1 hfz44_2 hfz44_3 hfz44_4
    try clear hfz45_0 hfz45_1 hfz45_2 hfz45_3 hfz45_4
    try clear hfz47_0 hfz47_1 hfz47_2 hfz47_3 hfz47_4
    try clear hfz48_0 hfz48_1 hfz48_2 hfz48_3 hfz48_4
    obtain ⟨kq, x65_3, rfl, HA, HJ3, BK115, HB⟩ := hcut
    cases kq with
    | zero => exact absurd HA.out (by simp [spec_l02Right.j0])
    | succ kj3 =>
      have H := HA.out
      clear HA
      simp only [spec_l02Right.j0] at H
      by_cases c50 : x65_3 = true
      · subst c50
        have H1 : (some false) = some r := by rw [if_pos rfl] at H; exact H
        clear H
        have H := H1
        clear H1
        obtain rfl := Option.some.inj H
        go_wp2
        go_ret
        exact ⟨by first | rfl | (simp [errW_none, errW_some] <;> rfl) | (simp [*, errW_none, errW_some] <;> rfl), Bx1 HB GE115⟩
      replace c50 := Bool.eq_false_iff.mpr c50
      subst c50
      have H1 : (spec_l02Right.l0 kj3 a2 0 a0_0 a0_1 a0_2 a0_3 l0_4) = some r := by rw [if_neg (show ¬ (false = true) by decide)] at H; exact H
      clear H
      have H := H1
      clear H1
      have H' := Aside0.mk H
      clear H
      go_wp2
      go_loopg [7] kj3 (fun kq v7 w' => ∃ (x7_2 : Int), v7 = .int .i64 x7_2 ∧ Aside0 (spec_l02Right.l0 kq a2 x7_2 a0_0 a0_1 a0_2 a0_3 l0_4 = some r) ∧ Aside0 (kq ≤ kj3) ∧ Aside0 (w'.heap[gb115]? = some (.cells #[.string a0_0, .bool a0_1, .int .i64 a0_2, .int .i64 a0_3, (.slice A0_4 l0_4.length c0_4)] 90 (0, 0))) ∧ Aside0 (Below w.heap.size w w'))
      case atStart => exact ⟨(0), (by first | rfl | (simp; done) | (simp [*]; done)), H', ⟨Nat.le_refl _⟩, ⟨by (with_reducible repeat (first | refine blk_drewN ?_ _ | refine blk_drew ?_ | refine blk_alloc ?_ _)); exact BK115.out⟩, ⟨Bx1 HB GE115⟩⟩
      case round =>
        clear H'
        try clear c1
        try clear c2
        try clear p2
        try clear c3
        try clear c5
        try clear c6
        try clear c6b0
        try clear c8
        try clear c9
        try clear c10
        try clear c10b0
        try clear c10b1
        try clear c12
        try clear c14
        try clear c15
        try clear c15b0
        try clear c15b1
        try clear c25
        try clear c25b0
        try clear c25b1
        try clear c26
        try clear c26b0
        try clear c26b1
        try clear c27
        try clear c27b0
        try clear c27b1
        try clear c31
        try clear c32
        try clear c32b0
        try clear c32b1
        try clear c50
        try clear hcz11_0 hcz11_1 hcz11_2 hcz11_3 hcz11_4
        try clear hcz13_0 hcz13_1 hcz13_2 hcz13_3 hcz13_4
        try clear hcz16_0 hcz16_1 hcz16_2 hcz16_3 hcz16_4
        try clear hcz18_0 hcz18_1 hcz18_2 hcz18_3 hcz18_4
        try clear hcz19_0 hcz19_1 hcz19_2 hcz19_3 hcz19_4
        try clear hcz21_0 hcz21_1 hcz21_2 hcz21_3 hcz21_4
        try clear hcz22_0 hcz22_1 hcz22_2 hcz22_3 hcz22_4
        try clear hcz24_0 hcz24_1 hcz24_2 hcz24_3 hcz24_4
        try clear hcz28_0 hcz28_1 hcz28_2 hcz28_3 hcz28_4
        try clear hcz30_0 hcz30_1 hcz30_2 hcz30_3 hcz30_4
        try clear hcz33_0 hcz33_1 hcz33_2 hcz33_3 hcz33_4
        try clear hcz35_0 hcz35_1 hcz35_2 hcz35_3 hcz35_4
        try clear hcz36_0 hcz36_1 hcz36_2 hcz36_3 hcz36_4
        try clear hcz38_0 hcz38_1 hcz38_2 hcz38_3 hcz38_4
        try clear hcz39_0 hcz39_1 hcz39_2 hcz39_3 hcz39_4
        try clear hcz41_0 hcz41_1 hcz41_2 hcz41_3 hcz41_4
        try clear hcz42_0 hcz42_1 hcz42_2 hcz42_3 hcz42_4
        try clear hcz44_0 hcz44_1 hcz44_2 hcz44_3 hcz44_4
        try clear hcz45_0 hcz45_1 hcz45_2 hcz45_3 hcz45_4
        try clear hcz47_0 hcz47_1 hcz47_2 hcz47_3 hcz47_4
        try clear hcz48_0 hcz48_1 hcz48_2 hcz48_3 hcz48_4
        try clear hfz11_0 hfz11_1 hfz11_2 hfz11_3 hfz11_4
        try clear hfz13_0 hfz13_1 hfz13_2 hfz13_3 hfz13_4
        try clear hfz16_0 hfz16_1 hfz16_2 hfz16_3 hfz16_4
        try clear hfz18_0 hfz18_1 hfz18_2 hfz18_3 hfz18_4
        try clear hfz19_0 hfz19_1 hfz19_2 hfz19_3 hfz19_4
        try clear hfz21_0 hfz21_1 hfz21_2 hfz21_3 hfz21_4
        try clear hfz22_0 hfz22_1 hfz22_2 hfz22_3 hfz22_4
        try clear hfz24_0 hfz24_1 hfz24_2 hfz24_3 hfz24_4
        try clear hfz28_0 hfz28_1 hfz28_2 hfz28_3 hfz28_4
        try clear hfz30_0 hfz30_1 hfz30_2 hfz30_3 hfz30_4
        try clear hfz33_0 hfz33_1 hfz33_2 hfz33_3 hfz33_4
        try clear hfz35_0 hfz35_1 hfz35_2 hfz35_3 hfz35_4
        try clear hfz36_0 hfz36_1 hfz36_2 hfz36_3 hfz36_4
        try clear hfz38_0 hfz38_1 hfz38_2 hfz38_3 hfz38_4
        try clear hfz39_0 hfz39_1 hfz39_2 hfz39_3 hfz39_4
        try clear hfz41_0 hfz41_1 hfz41_2 hfz41_3 hfz41_4
        try clear hfz42_0 hfz42_1 hfz42_2 hfz42_3 hfz42_4
        try clear hfz44_0 hfz44_1 hfz44_2 hfz44_3 hfz44_4
        try clear hfz45_0 hfz45_1 hfz45_2 hfz45_3 hfz45_4
        try clear hfz47_0 hfz47_1 hfz47_2 hfz47_3 hfz47_4
        try clear hfz48_0 hfz48_1 hfz48_2 hfz48_3 hfz48_4
        try clear p2
        obtain ⟨x7_2, rfl, HA, HK2, BK115, HB⟩ := hrel
        cases gk with
        | zero => exact absurd HA.out (by simp [spec_l02Right.l0])
        | succ k2 =>
          have H := HA.out
          clear HA
          simp only [spec_l02Right.l0] at H
          by_cases c51 : x7_2 < (l0_4.length : Int)
          rotate_left
          · rw [if_neg c51] at H
            have c51b0 : decide (x7_2 < (l0_4.length : Int)) = false := decide_eq_false c51
            clear c51
            obtain rfl := Option.some.inj H
            have hcz114_0 : wr.cell? ⟨gb115, 0, none⟩ = some (.string a0_0) := (blk_cell BK115.out 0).trans rfl
            have hcz114_1 : wr.cell? ⟨gb115, 1, none⟩ = some (.bool a0_1) := (blk_cell BK115.out 1).trans rfl
            have hcz114_2 : wr.cell? ⟨gb115, 2, none⟩ = some (.int .i64 a0_2) := (blk_cell BK115.out 2).trans rfl
            have hcz114_3 : wr.cell? ⟨gb115, 3, none⟩ = some (.int .i64 a0_3) := (blk_cell BK115.out 3).trans rfl
            have hcz114_4 : wr.cell? ⟨gb115, 4, none⟩ = some (.slice A0_4 l0_4.length c0_4) := (blk_cell BK115.out 4).trans rfl
            have hfz114_0 := blk_frozen BK115.out 0
            have hfz114_1 := blk_frozen BK115.out 1
            have hfz114_2 := blk_frozen BK115.out 2
            have hfz114_3 := blk_frozen BK115.out 3
            have hfz114_4 := blk_frozen BK115.out 4
            go_wp2
            go_ret
            exact ⟨by first | rfl | (simp [errW_none, errW_some] <;> rfl) | (simp [*, errW_none, errW_some] <;> rfl), Bx1 HB GE115⟩

          rw [if_pos c51] at H
          have c51b0 : decide (x7_2 < (l0_4.length : Int)) = true := decide_eq_true c51
          clear c51
          by_cases c52 : 0 ≤ x7_2
          rotate_left
          · rw [if_neg c52] at H
            exact absurd H (by simp)
          rw [if_pos c52] at H
          have c52b0 : decide (0 ≤ x7_2) = true := decide_eq_true c52
          clear c52
          replace H := Option.bind_eq_some_iff.mp H
          obtain ⟨t119, A530, H⟩ := H
          replace H : (if t119 = true then (if (((rd_T90 l0_4 x7_2).f0).size : Int) = (a0_0.size : Int) then (some false) else (if x7_2 = 1 then (if 0 < (l0_4.length : Int) then (if 0 ≤ (a0_0.size : Int) then (if (a0_0.size : Int) < (((rd_T90 l0_4 0).f0).size : Int) then (if (a0_0.size : Int) < (((rd_T90 l0_4 x7_2).f0).size : Int) then (if (bt ((rd_T90 l0_4 0).f0) (a0_0.size : Int)) ≥ (bt ((rd_T90 l0_4 x7_2).f0) (a0_0.size : Int)) then (some false) else ((spec_l02Right.f k2 ((rd_T90 l0_4 x7_2).f0) ((rd_T90 l0_4 x7_2).f1) ((rd_T90 l0_4 x7_2).f2) ((rd_T90 l0_4 x7_2).f3) ((rd_T90 l0_4 x7_2).f4) false (wrap64 (a2 + 1))).bind fun t121 => (if t121 = true then (spec_l02Right.l0 k2 a2 (wrap64 (x7_2 + 1)) a0_0 a0_1 a0_2 a0_3 l0_4) else (some false)))) else (none)) else (none)) else (none)) else (none)) else ((spec_l02Right.f k2 ((rd_T90 l0_4 x7_2).f0) ((rd_T90 l0_4 x7_2).f1) ((rd_T90 l0_4 x7_2).f2) ((rd_T90 l0_4 x7_2).f3) ((rd_T90 l0_4 x7_2).f4) false (wrap64 (a2 + 1))).bind fun t122 => (if t122 = true then (spec_l02Right.l0 k2 a2 (wrap64 (x7_2 + 1)) a0_0 a0_1 a0_2 a0_3 l0_4) else (some false))))) else (some false)) = some r := H
          have A53 := Aside0.mk A530
          clear A530
          by_cases c54 : t119 = true
          rotate_left
          · replace c54 := Bool.eq_false_iff.mpr c54
            subst c54
            have H1 : (some false) = some r := by rw [if_neg (show ¬ (false = true) by decide)] at H; exact H
            clear H
            have H := H1
            clear H1
            obtain rfl := Option.some.inj H
            have hcz108_0 : wr.cell? ⟨gb115, 0, none⟩ = some (.string a0_0) := (blk_cell BK115.out 0).trans rfl
            have hcz108_1 : wr.cell? ⟨gb115, 1, none⟩ = some (.bool a0_1) := (blk_cell BK115.out 1).trans rfl
            have hcz108_2 : wr.cell? ⟨gb115, 2, none⟩ = some (.int .i64 a0_2) := (blk_cell BK115.out 2).trans rfl
            have hcz108_3 : wr.cell? ⟨gb115, 3, none⟩ = some (.int .i64 a0_3) := (blk_cell BK115.out 3).trans rfl
            have hcz108_4 : wr.cell? ⟨gb115, 4, none⟩ = some (.slice A0_4 l0_4.length c0_4) := (blk_cell BK115.out 4).trans rfl
            have hfz108_0 := blk_frozen BK115.out 0
            have hfz108_1 := blk_frozen BK115.out 1
            have hfz108_2 := blk_frozen BK115.out 2
            have hfz108_3 := blk_frozen BK115.out 3
            have hfz108_4 := blk_frozen BK115.out 4
            have p117 : 0 ≤ (x7_2 : Int) := of_decide_eq_true (by first | (with_reducible assumption) | assumption)
            have q117 : x7_2 < (l0_4.length : Int) := of_decide_eq_true (by first | (with_reducible assumption) | assumption)
            obtain ⟨ad117, A117_4, c117_4, e117, hx117_0, hx117_1, hx117_2, hx117_3, hx117_4, hl117_4, hi117_4⟩ := at_T90 HR0_4.out x7_2 p117 q117
            cases e117
            replace hx117_0 := (HB.out.cell (World.block_lt_of_cell? w _ hx117_0)).trans hx117_0
            replace hx117_1 := (HB.out.cell (World.block_lt_of_cell? w _ hx117_1)).trans hx117_1
            replace hx117_2 := (HB.out.cell (World.block_lt_of_cell? w _ hx117_2)).trans hx117_2
            replace hx117_3 := (HB.out.cell (World.block_lt_of_cell? w _ hx117_3)).trans hx117_3
            replace hx117_4 := (HB.out.cell (World.block_lt_of_cell? w _ hx117_4)).trans hx117_4
            have HR117_4 := Aside0.mk hi117_4
            have HC117_4 := Aside0.mk hl117_4
            clear hi117_4 hl117_4
            replace p117 := eq_true p117
            replace q117 := eq_true q117
            try go_wp2_with (first | ((with_reducible refine gate_dst (N := 8) rfl ?_); refine box_event ?hg (N := 8) ?hd (cs := #[.string (⟨#[]⟩ : ByteArray), .bool false, .int .i64 0, .int .i64 0, .slice none 0 0]) (t := 90) ?hr ?_; (case hd => rfl); (case hg => rfl); (case hr => first | (go_simp; done) | (go_simp; rfl)); intro gb118 hg w109 hbox hb; have n0_ := Aside0.mk (blk_below (BKx BK115) hb); have n1_ := Aside0.mk (below_step (Bx1 HB GE115) hb); have n2_ := Aside0.mk (hbox); have n3_ := Aside0.mk ((by rw [hg]; exact (below_size (Bx1 HB GE115)) : w.heap.size ≤ gb118)); have n4_ := Aside0.mk ((by rw [hg]; exact (below_size (Bx1 HB GE115)) : w.heap.size ≤ gb118)); have n5_ := Aside0.mk ((by rw [hg]; exact Nat.ne_of_lt (blk_lt (BKx BK115)) : gb115 ≠ gb118)); have n6_ := Aside0.mk ((by rw [hg]; exact Nat.ne_of_gt (blk_lt (BKx BK115)) : gb118 ≠ gb115)); clear BK115; clear HB; have BK115 := n0_; have HB := n1_; have BK118 := n2_; have GW118 := n3_; have GE118 := n4_; have NB115_118 := n5_; have NB118_115 := n6_; clear n0_ n1_ n2_ n3_ n4_ n5_ n6_; clear hb hbox hg; have hnb110 := NB118_115.out; have hnc110 := NB115_118.out; have hcz111_0 : w109.cell? ⟨gb118, 0, none⟩ = some (.string (⟨#[]⟩ : ByteArray)) := (blk_cell BK118.out 0).trans rfl; have hcz111_1 : w109.cell? ⟨gb118, 1, none⟩ = some (.bool false) := (blk_cell BK118.out 1).trans rfl; have hcz111_2 : w109.cell? ⟨gb118, 2, none⟩ = some (.int .i64 0) := (blk_cell BK118.out 2).trans rfl; have hcz111_3 : w109.cell? ⟨gb118, 3, none⟩ = some (.int .i64 0) := (blk_cell BK118.out 3).trans rfl; have hcz111_4 : w109.cell? ⟨gb118, 4, none⟩ = some (.slice none 0 0) := (blk_cell BK118.out 4).trans rfl; have hfz111_0 := blk_frozen BK118.out 0; have hfz111_1 := blk_frozen BK118.out 1; have hfz111_2 := blk_frozen BK118.out 2; have hfz111_3 := blk_frozen BK118.out 3; have hfz111_4 := blk_frozen BK118.out 4))
            have n0_ : Aside0 ((((((w109.setCell ⟨gb118, 0, none⟩ (.string ((rd_T90 l0_4 x7_2).f0))).setCell ⟨gb118, 1, none⟩ (.bool ((rd_T90 l0_4 x7_2).f1))).setCell ⟨gb118, 2, none⟩ (.int .i64 ((rd_T90 l0_4 x7_2).f2))).setCell ⟨gb118, 3, none⟩ (.int .i64 ((rd_T90 l0_4 x7_2).f3))).setCell ⟨gb118, 4, none⟩ (.slice A117_4 ((rd_T90 l0_4 x7_2).f4).length c117_4)).heap[gb115]? = some (.cells #[.string a0_0, .bool a0_1, .int .i64 a0_2, .int .i64 a0_3, .slice (some ad117) l0_4.length c0_4] 90 (0, 0))) := ⟨by (with_reducible repeat (first | refine blk_drewN ?_ _ | refine blk_drew ?_ | refine blk_alloc ?_ _)); refine blk_far ?_ NB115_118.out _; (with_reducible repeat (first | refine blk_drewN ?_ _ | refine blk_drew ?_ | refine blk_alloc ?_ _)); refine blk_far ?_ NB115_118.out _; (with_reducible repeat (first | refine blk_drewN ?_ _ | refine blk_drew ?_ | refine blk_alloc ?_ _)); refine blk_far ?_ NB115_118.out _; (with_reducible repeat (first | refine blk_drewN ?_ _ | refine blk_drew ?_ | refine blk_alloc ?_ _)); refine blk_far ?_ NB115_118.out _; (with_reducible repeat (first | refine blk_drewN ?_ _ | refine blk_drew ?_ | refine blk_alloc ?_ _)); refine blk_far ?_ NB115_118.out _; (with_reducible repeat (first | refine blk_drewN ?_ _ | refine blk_drew ?_ | refine blk_alloc ?_ _)); exact BK115.out⟩
            have n1_ : Aside0 ((((((w109.setCell ⟨gb118, 0, none⟩ (.string ((rd_T90 l0_4 x7_2).f0))).setCell ⟨gb118, 1, none⟩ (.bool ((rd_T90 l0_4 x7_2).f1))).setCell ⟨gb118, 2, none⟩ (.int .i64 ((rd_T90 l0_4 x7_2).f2))).setCell ⟨gb118, 3, none⟩ (.int .i64 ((rd_T90 l0_4 x7_2).f3))).setCell ⟨gb118, 4, none⟩ (.slice A117_4 ((rd_T90 l0_4 x7_2).f4).length c117_4)).heap[gb118]? = some (.cells #[.string ((rd_T90 l0_4 x7_2).f0), .bool ((rd_T90 l0_4 x7_2).f1), .int .i64 ((rd_T90 l0_4 x7_2).f2), .int .i64 ((rd_T90 l0_4 x7_2).f3), .slice A117_4 ((rd_T90 l0_4 x7_2).f4).length c117_4] 90 (0, 0))) := ⟨by (with_reducible repeat (first | refine blk_drewN ?_ _ | refine blk_drew ?_ | refine blk_alloc ?_ _)); refine blk_put (cs := #[.string ((rd_T90 l0_4 x7_2).f0), .bool ((rd_T90 l0_4 x7_2).f1), .int .i64 ((rd_T90 l0_4 x7_2).f2), .int .i64 ((rd_T90 l0_4 x7_2).f3), .slice none 0 0]) ?_ 4 _ rfl; (with_reducible repeat (first | refine blk_drewN ?_ _ | refine blk_drew ?_ | refine blk_alloc ?_ _)); refine blk_put (cs := #[.string ((rd_T90 l0_4 x7_2).f0), .bool ((rd_T90 l0_4 x7_2).f1), .int .i64 ((rd_T90 l0_4 x7_2).f2), .int .i64 0, .slice none 0 0]) ?_ 3 _ rfl; (with_reducible repeat (first | refine blk_drewN ?_ _ | refine blk_drew ?_ | refine blk_alloc ?_ _)); refine blk_put (cs := #[.string ((rd_T90 l0_4 x7_2).f0), .bool ((rd_T90 l0_4 x7_2).f1), .int .i64 0, .int .i64 0, .slice none 0 0]) ?_ 2 _ rfl; (with_reducible repeat (first | refine blk_drewN ?_ _ | refine blk_drew ?_ | refine blk_alloc ?_ _)); refine blk_put (cs := #[.string ((rd_T90 l0_4 x7_2).f0), .bool false, .int .i64 0, .int .i64 0, .slice none 0 0]) ?_ 1 _ rfl; (with_reducible repeat (first | refine blk_drewN ?_ _ | refine blk_drew ?_ | refine blk_alloc ?_ _)); refine blk_put (cs := #[.string (⟨#[]⟩ : ByteArray), .bool false, .int .i64 0, .int .i64 0, .slice none 0 0]) ?_ 0 _ rfl; (with_reducible repeat (first | refine blk_drewN ?_ _ | refine blk_drew ?_ | refine blk_alloc ?_ _)); exact BK118.out⟩
            have n2_ : Aside0 (Below w.heap.size w (((((w109.setCell ⟨gb118, 0, none⟩ (.string ((rd_T90 l0_4 x7_2).f0))).setCell ⟨gb118, 1, none⟩ (.bool ((rd_T90 l0_4 x7_2).f1))).setCell ⟨gb118, 2, none⟩ (.int .i64 ((rd_T90 l0_4 x7_2).f2))).setCell ⟨gb118, 3, none⟩ (.int .i64 ((rd_T90 l0_4 x7_2).f3))).setCell ⟨gb118, 4, none⟩ (.slice A117_4 ((rd_T90 l0_4 x7_2).f4).length c117_4))) := ⟨Bx2 HB GE115 GE118⟩
            (try clear BK115)
            (try clear BK118)
            (try clear HB)
            generalize (((((w109.setCell ⟨gb118, 0, none⟩ (.string ((rd_T90 l0_4 x7_2).f0))).setCell ⟨gb118, 1, none⟩ (.bool ((rd_T90 l0_4 x7_2).f1))).setCell ⟨gb118, 2, none⟩ (.int .i64 ((rd_T90 l0_4 x7_2).f2))).setCell ⟨gb118, 3, none⟩ (.int .i64 ((rd_T90 l0_4 x7_2).f3))).setCell ⟨gb118, 4, none⟩ (.slice A117_4 ((rd_T90 l0_4 x7_2).f4).length c117_4)) = w112 at n0_ n1_ n2_ ⊢
            have BK115 := n0_
            have BK118 := n1_
            have HB := n2_
            clear n0_ n1_ n2_
            have n0_ := Aside0.mk (blk_drew BK115.out)
            have n1_ := Aside0.mk (blk_drew BK118.out)
            have n2_ := Aside0.mk (below_drew1 HB.out)
            clear BK115
            clear BK118
            clear HB
            have BK115 := n0_
            have BK118 := n1_
            have HB := n2_
            clear n0_ n1_ n2_
            refine start_ (n := 44) (S := fun w' => w'.cell? ⟨gb118, 0, none⟩ = some (.string ((rd_T90 l0_4 x7_2).f0)) ∧ w'.cell? ⟨gb118, 1, none⟩ = some (.bool ((rd_T90 l0_4 x7_2).f1)) ∧ w'.cell? ⟨gb118, 2, none⟩ = some (.int .i64 ((rd_T90 l0_4 x7_2).f2)) ∧ w'.cell? ⟨gb118, 3, none⟩ = some (.int .i64 ((rd_T90 l0_4 x7_2).f3)) ∧ w'.cell? ⟨gb118, 4, none⟩ = some (.slice A117_4 ((rd_T90 l0_4 x7_2).f4).length c117_4) ∧ w'.cell? ⟨gb115, 0, none⟩ = some (.string a0_0) ∧ w'.cell? ⟨gb115, 1, none⟩ = some (.bool a0_1) ∧ w'.cell? ⟨gb115, 2, none⟩ = some (.int .i64 a0_2) ∧ w'.cell? ⟨gb115, 3, none⟩ = some (.int .i64 a0_3) ∧ w'.cell? ⟨gb115, 4, none⟩ = some (.slice (some ad117) l0_4.length c0_4)) (ds := []) _ (by kernel_rfl) rfl rfl ⟨(blk_cell BK118.out 0).trans rfl, (blk_cell BK118.out 1).trans rfl, (blk_cell BK118.out 2).trans rfl, (blk_cell BK118.out 3).trans rfl, (blk_cell BK118.out 4).trans rfl, (blk_cell BK115.out 0).trans rfl, (blk_cell BK115.out 1).trans rfl, (blk_cell BK115.out 2).trans rfl, (blk_cell BK115.out 3).trans rfl, (blk_cell BK115.out 4).trans rfl⟩ (fun hHeld => ?_); refine with_tabW spec_l02Right.tab7 spec_l02Right.bits7 (fun HT_ HW_ => ?_)
            generalize w112.drew = w113 at BK115 BK118 HB hHeld ⊢
            refine pv_ 0 78 HT_ (bm 44 1) ?_
            refine pv_ 2 80 HT_ (bm 44 5) ?_
            refine tk_ 1 79 HT_ HW_ (bm 44 7) hHeld ?_ (hy := Or.inl ⟨by rfl, by rintro w' ⟨s0, s1, s2, s3, s4, s5, s6, s7, s8, s9⟩; go_simp; with_reducible rfl⟩)
            refine tk_ 3 81 HT_ HW_ (bm 44 15) hHeld ?_ (hy := Or.inl ⟨by rfl, by rintro w' ⟨s0, s1, s2, s3, s4, s5, s6, s7, s8, s9⟩; go_simp; with_reducible rfl⟩)
            refine one_ (i := 4) (N := some 82) (bm 44 31) rfl rfl (one_of HT_.out (by kernel_rfl)) (by decide) (fun K hK => ?_)
            refine goes_ Try.func179 (by kernel_rfl) rfl #[.string ((rd_T90 l0_4 x7_2).f0), .string a0_0] (by rfl) rfl rfl (by (try simp only [List.map_toArray, List.map_cons, List.map_nil]); first | done | rfl | (simp only [List.length_drop, List.length_take]; rfl)) ?_
            with_reducible refine (spec_l02Begins.calls ((rd_T90 l0_4 x7_2).f0) a0_0 false _ A53.out).mono ?_
            rintro e w' ⟨rfl, ⟨nd, rfl⟩⟩
            refine ⟨_, rfl, ?_⟩
            refine hK.out _ _ ⟨(blk_cell BK118.out 0).trans rfl, (blk_cell BK118.out 1).trans rfl, (blk_cell BK118.out 2).trans rfl, (blk_cell BK118.out 3).trans rfl, (blk_cell BK118.out 4).trans rfl, (blk_cell BK115.out 0).trans rfl, (blk_cell BK115.out 1).trans rfl, (blk_cell BK115.out 2).trans rfl, (blk_cell BK115.out 3).trans rfl, (blk_cell BK115.out 4).trans rfl⟩ (fun hHeld => ?_)
            clear hK K
            refine norm_ (a' := ?_) ?_ ?_
            rotate_left
            · show Act.put _ (some 82) _ = _
              simp only [Act.put, List.setIfInBounds_toArray, List.set_cons_zero, List.set_cons_succ, i64_w, i32_w]
              rfl
            refine pv_ 5 83 HT_ (bm 44 63) ?_
            refine pv_ 6 84 HT_ (bm 44 127) ?_
            refine pw_ 7 85 HT_ (bm 44 255) ?_
            refine pw_ 8 86 HT_ (bm 44 511) ?_
            refine pw_ 9 87 HT_ (bm 44 1023) ?_
            refine pw_ 10 88 HT_ (bm 44 2047) ?_
            refine pw_ 11 89 HT_ (bm 44 4095) ?_
            refine pw_ 12 90 HT_ (bm 44 8191) ?_
            refine pw_ 13 91 HT_ (bm 44 16383) ?_
            refine pv_ 14 92 HT_ (bm 44 32767) ?_
            refine pv_ 15 93 HT_ (bm 44 65535) ?_
            refine pw_ 16 94 HT_ (bm 44 131071) ?_
            refine pw_ 17 95 HT_ (bm 44 262143) ?_
            refine pw_ 18 96 HT_ (bm 44 524287) ?_
            refine pw_ 19 97 HT_ (bm 44 1048575) ?_
            refine pw_ 20 98 HT_ (bm 44 2097151) ?_
            refine pw_ 21 99 HT_ (bm 44 4194303) ?_
            refine pw_ 22 100 HT_ (bm 44 8388607) ?_
            refine pw_ 23 101 HT_ (bm 44 16777215) ?_
            refine pw_ 24 102 HT_ (bm 44 33554431) ?_
            refine pw_ 25 103 HT_ (bm 44 67108863) ?_
            refine pw_ 26 104 HT_ (bm 44 134217727) ?_
            refine pw_ 27 105 HT_ (bm 44 268435455) ?_
            refine pw_ 28 106 HT_ (bm 44 536870911) ?_
            refine pw_ 29 107 HT_ (bm 44 1073741823) ?_
            refine pw_ 30 108 HT_ (bm 44 2147483647) ?_
            refine pw_ 31 109 HT_ (bm 44 4294967295) ?_
            refine pw_ 32 110 HT_ (bm 44 8589934591) ?_
            refine pw_ 33 111 HT_ (bm 44 17179869183) ?_
            refine pw_ 34 112 HT_ (bm 44 34359738367) ?_
            refine pw_ 35 113 HT_ (bm 44 68719476735) ?_
            refine pv_ 36 114 HT_ (bm 44 137438953471) ?_
            refine pv_ 37 115 HT_ (bm 44 274877906943) ?_
            refine pw_ 38 116 HT_ (bm 44 549755813887) ?_
            refine pw_ 39 117 HT_ (bm 44 1099511627775) ?_
            refine pw_ 40 118 HT_ (bm 44 2199023255551) ?_
            refine pw_ 41 119 HT_ (bm 44 4398046511103) ?_
            refine pw_ 42 120 HT_ (bm 44 8796093022207) ?_
            refine pv_ 43 121 HT_ (bm 44 17592186044415) ?_
            refine done_ (done_of HT_.out (by kernel_rfl)) ?_
            try go_wp2
            go_ret
            exact ⟨by first | rfl | (simp [errW_none, errW_some] <;> rfl) | (simp [*, errW_none, errW_some] <;> rfl), Bx2 HB GE115 GE118⟩
          subst c54
          have H1 : (if (((rd_T90 l0_4 x7_2).f0).size : Int) = (a0_0.size : Int) then (some false) else (if x7_2 = 1 then (if 0 < (l0_4.length : Int) then (if 0 ≤ (a0_0.size : Int) then (if (a0_0.size : Int) < (((rd_T90 l0_4 0).f0).size : Int) then (if (a0_0.size : Int) < (((rd_T90 l0_4 x7_2).f0).size : Int) then (if (bt ((rd_T90 l0_4 0).f0) (a0_0.size : Int)) ≥ (bt ((rd_T90 l0_4 x7_2).f0) (a0_0.size : Int)) then (some false) else ((spec_l02Right.f k2 ((rd_T90 l0_4 x7_2).f0) ((rd_T90 l0_4 x7_2).f1) ((rd_T90 l0_4 x7_2).f2) ((rd_T90 l0_4 x7_2).f3) ((rd_T90 l0_4 x7_2).f4) false (wrap64 (a2 + 1))).bind fun t121 => (if t121 = true then (spec_l02Right.l0 k2 a2 (wrap64 (x7_2 + 1)) a0_0 a0_1 a0_2 a0_3 l0_4) else (some false)))) else (none)) else (none)) else (none)) else (none)) else ((spec_l02Right.f k2 ((rd_T90 l0_4 x7_2).f0) ((rd_T90 l0_4 x7_2).f1) ((rd_T90 l0_4 x7_2).f2) ((rd_T90 l0_4 x7_2).f3) ((rd_T90 l0_4 x7_2).f4) false (wrap64 (a2 + 1))).bind fun t122 => (if t122 = true then (spec_l02Right.l0 k2 a2 (wrap64 (x7_2 + 1)) a0_0 a0_1 a0_2 a0_3 l0_4) else (some false))))) = some r := by rw [if_pos rfl] at H; exact H
          clear H
          have H := H1
          clear H1
          by_cases c55 : (((rd_T90 l0_4 x7_2).f0).size : Int) = (a0_0.size : Int)
          · rw [if_pos c55] at H
            have c55b0 : ((((rd_T90 l0_4 x7_2).f0).size : Int) == (a0_0.size : Int)) = true := beq_iff_eq.mpr c55
            have c55b1 : ((((rd_T90 l0_4 x7_2).f0).size : Int) != (a0_0.size : Int)) = false := bne_eq_false_iff_eq.mpr c55
            have c55b2 : (((rd_T90 l0_4 x7_2).f0).size == a0_0.size) = true := by first | simpa using c55 | (simp at c55 ⊢; omega)
            clear c55
            obtain rfl := Option.some.inj H
            have hcz56_0 : wr.cell? ⟨gb115, 0, none⟩ = some (.string a0_0) := (blk_cell BK115.out 0).trans rfl
            have hcz56_1 : wr.cell? ⟨gb115, 1, none⟩ = some (.bool a0_1) := (blk_cell BK115.out 1).trans rfl
            have hcz56_2 : wr.cell? ⟨gb115, 2, none⟩ = some (.int .i64 a0_2) := (blk_cell BK115.out 2).trans rfl
            have hcz56_3 : wr.cell? ⟨gb115, 3, none⟩ = some (.int .i64 a0_3) := (blk_cell BK115.out 3).trans rfl
            have hcz56_4 : wr.cell? ⟨gb115, 4, none⟩ = some (.slice A0_4 l0_4.length c0_4) := (blk_cell BK115.out 4).trans rfl
            have hfz56_0 := blk_frozen BK115.out 0
            have hfz56_1 := blk_frozen BK115.out 1
            have hfz56_2 := blk_frozen BK115.out 2
            have hfz56_3 := blk_frozen BK115.out 3
            have hfz56_4 := blk_frozen BK115.out 4
            have p117 : 0 ≤ (x7_2 : Int) := of_decide_eq_true (by first | (with_reducible assumption) | assumption)
            have q117 : x7_2 < (l0_4.length : Int) := of_decide_eq_true (by first | (with_reducible assumption) | assumption)
            obtain ⟨ad117, A117_4, c117_4, e117, hx117_0, hx117_1, hx117_2, hx117_3, hx117_4, hl117_4, hi117_4⟩ := at_T90 HR0_4.out x7_2 p117 q117
            cases e117
            replace hx117_0 := (HB.out.cell (World.block_lt_of_cell? w _ hx117_0)).trans hx117_0
            replace hx117_1 := (HB.out.cell (World.block_lt_of_cell? w _ hx117_1)).trans hx117_1
            replace hx117_2 := (HB.out.cell (World.block_lt_of_cell? w _ hx117_2)).trans hx117_2
            replace hx117_3 := (HB.out.cell (World.block_lt_of_cell? w _ hx117_3)).trans hx117_3
            replace hx117_4 := (HB.out.cell (World.block_lt_of_cell? w _ hx117_4)).trans hx117_4
            have HR117_4 := Aside0.mk hi117_4
            have HC117_4 := Aside0.mk hl117_4
            clear hi117_4 hl117_4
            replace p117 := eq_true p117
            replace q117 := eq_true q117
            try go_wp2_with (first | ((with_reducible refine gate_dst (N := 8) rfl ?_); refine box_event ?hg (N := 8) ?hd (cs := #[.string (⟨#[]⟩ : ByteArray), .bool false, .int .i64 0, .int .i64 0, .slice none 0 0]) (t := 90) ?hr ?_; (case hd => rfl); (case hg => rfl); (case hr => first | (go_simp; done) | (go_simp; rfl)); intro gb118 hg w57 hbox hb; have n0_ := Aside0.mk (blk_below (BKx BK115) hb); have n1_ := Aside0.mk (below_step (Bx1 HB GE115) hb); have n2_ := Aside0.mk (hbox); have n3_ := Aside0.mk ((by rw [hg]; exact (below_size (Bx1 HB GE115)) : w.heap.size ≤ gb118)); have n4_ := Aside0.mk ((by rw [hg]; exact (below_size (Bx1 HB GE115)) : w.heap.size ≤ gb118)); have n5_ := Aside0.mk ((by rw [hg]; exact Nat.ne_of_lt (blk_lt (BKx BK115)) : gb115 ≠ gb118)); have n6_ := Aside0.mk ((by rw [hg]; exact Nat.ne_of_gt (blk_lt (BKx BK115)) : gb118 ≠ gb115)); clear BK115; clear HB; have BK115 := n0_; have HB := n1_; have BK118 := n2_; have GW118 := n3_; have GE118 := n4_; have NB115_118 := n5_; have NB118_115 := n6_; clear n0_ n1_ n2_ n3_ n4_ n5_ n6_; clear hb hbox hg; have hnb58 := NB118_115.out; have hnc58 := NB115_118.out; have hcz59_0 : w57.cell? ⟨gb118, 0, none⟩ = some (.string (⟨#[]⟩ : ByteArray)) := (blk_cell BK118.out 0).trans rfl; have hcz59_1 : w57.cell? ⟨gb118, 1, none⟩ = some (.bool false) := (blk_cell BK118.out 1).trans rfl; have hcz59_2 : w57.cell? ⟨gb118, 2, none⟩ = some (.int .i64 0) := (blk_cell BK118.out 2).trans rfl; have hcz59_3 : w57.cell? ⟨gb118, 3, none⟩ = some (.int .i64 0) := (blk_cell BK118.out 3).trans rfl; have hcz59_4 : w57.cell? ⟨gb118, 4, none⟩ = some (.slice none 0 0) := (blk_cell BK118.out 4).trans rfl; have hfz59_0 := blk_frozen BK118.out 0; have hfz59_1 := blk_frozen BK118.out 1; have hfz59_2 := blk_frozen BK118.out 2; have hfz59_3 := blk_frozen BK118.out 3; have hfz59_4 := blk_frozen BK118.out 4))
            have n0_ : Aside0 ((((((w57.setCell ⟨gb118, 0, none⟩ (.string ((rd_T90 l0_4 x7_2).f0))).setCell ⟨gb118, 1, none⟩ (.bool ((rd_T90 l0_4 x7_2).f1))).setCell ⟨gb118, 2, none⟩ (.int .i64 ((rd_T90 l0_4 x7_2).f2))).setCell ⟨gb118, 3, none⟩ (.int .i64 ((rd_T90 l0_4 x7_2).f3))).setCell ⟨gb118, 4, none⟩ (.slice A117_4 ((rd_T90 l0_4 x7_2).f4).length c117_4)).heap[gb115]? = some (.cells #[.string a0_0, .bool a0_1, .int .i64 a0_2, .int .i64 a0_3, .slice (some ad117) l0_4.length c0_4] 90 (0, 0))) := ⟨by (with_reducible repeat (first | refine blk_drewN ?_ _ | refine blk_drew ?_ | refine blk_alloc ?_ _)); refine blk_far ?_ NB115_118.out _; (with_reducible repeat (first | refine blk_drewN ?_ _ | refine blk_drew ?_ | refine blk_alloc ?_ _)); refine blk_far ?_ NB115_118.out _; (with_reducible repeat (first | refine blk_drewN ?_ _ | refine blk_drew ?_ | refine blk_alloc ?_ _)); refine blk_far ?_ NB115_118.out _; (with_reducible repeat (first | refine blk_drewN ?_ _ | refine blk_drew ?_ | refine blk_alloc ?_ _)); refine blk_far ?_ NB115_118.out _; (with_reducible repeat (first | refine blk_drewN ?_ _ | refine blk_drew ?_ | refine blk_alloc ?_ _)); refine blk_far ?_ NB115_118.out _; (with_reducible repeat (first | refine blk_drewN ?_ _ | refine blk_drew ?_ | refine blk_alloc ?_ _)); exact BK115.out⟩
            have n1_ : Aside0 ((((((w57.setCell ⟨gb118, 0, none⟩ (.string ((rd_T90 l0_4 x7_2).f0))).setCell ⟨gb118, 1, none⟩ (.bool ((rd_T90 l0_4 x7_2).f1))).setCell ⟨gb118, 2, none⟩ (.int .i64 ((rd_T90 l0_4 x7_2).f2))).setCell ⟨gb118, 3, none⟩ (.int .i64 ((rd_T90 l0_4 x7_2).f3))).setCell ⟨gb118, 4, none⟩ (.slice A117_4 ((rd_T90 l0_4 x7_2).f4).length c117_4)).heap[gb118]? = some (.cells #[.string ((rd_T90 l0_4 x7_2).f0), .bool ((rd_T90 l0_4 x7_2).f1), .int .i64 ((rd_T90 l0_4 x7_2).f2), .int .i64 ((rd_T90 l0_4 x7_2).f3), .slice A117_4 ((rd_T90 l0_4 x7_2).f4).length c117_4] 90 (0, 0))) := ⟨by (with_reducible repeat (first | refine blk_drewN ?_ _ | refine blk_drew ?_ | refine blk_alloc ?_ _)); refine blk_put (cs := #[.string ((rd_T90 l0_4 x7_2).f0), .bool ((rd_T90 l0_4 x7_2).f1), .int .i64 ((rd_T90 l0_4 x7_2).f2), .int .i64 ((rd_T90 l0_4 x7_2).f3), .slice none 0 0]) ?_ 4 _ rfl; (with_reducible repeat (first | refine blk_drewN ?_ _ | refine blk_drew ?_ | refine blk_alloc ?_ _)); refine blk_put (cs := #[.string ((rd_T90 l0_4 x7_2).f0), .bool ((rd_T90 l0_4 x7_2).f1), .int .i64 ((rd_T90 l0_4 x7_2).f2), .int .i64 0, .slice none 0 0]) ?_ 3 _ rfl; (with_reducible repeat (first | refine blk_drewN ?_ _ | refine blk_drew ?_ | refine blk_alloc ?_ _)); refine blk_put (cs := #[.string ((rd_T90 l0_4 x7_2).f0), .bool ((rd_T90 l0_4 x7_2).f1), .int .i64 0, .int .i64 0, .slice none 0 0]) ?_ 2 _ rfl; (with_reducible repeat (first | refine blk_drewN ?_ _ | refine blk_drew ?_ | refine blk_alloc ?_ _)); refine blk_put (cs := #[.string ((rd_T90 l0_4 x7_2).f0), .bool false, .int .i64 0, .int .i64 0, .slice none 0 0]) ?_ 1 _ rfl; (with_reducible repeat (first | refine blk_drewN ?_ _ | refine blk_drew ?_ | refine blk_alloc ?_ _)); refine blk_put (cs := #[.string (⟨#[]⟩ : ByteArray), .bool false, .int .i64 0, .int .i64 0, .slice none 0 0]) ?_ 0 _ rfl; (with_reducible repeat (first | refine blk_drewN ?_ _ | refine blk_drew ?_ | refine blk_alloc ?_ _)); exact BK118.out⟩
            have n2_ : Aside0 (Below w.heap.size w (((((w57.setCell ⟨gb118, 0, none⟩ (.string ((rd_T90 l0_4 x7_2).f0))).setCell ⟨gb118, 1, none⟩ (.bool ((rd_T90 l0_4 x7_2).f1))).setCell ⟨gb118, 2, none⟩ (.int .i64 ((rd_T90 l0_4 x7_2).f2))).setCell ⟨gb118, 3, none⟩ (.int .i64 ((rd_T90 l0_4 x7_2).f3))).setCell ⟨gb118, 4, none⟩ (.slice A117_4 ((rd_T90 l0_4 x7_2).f4).length c117_4))) := ⟨Bx2 HB GE115 GE118⟩
            (try clear BK115)
            (try clear BK118)
            (try clear HB)
            generalize (((((w57.setCell ⟨gb118, 0, none⟩ (.string ((rd_T90 l0_4 x7_2).f0))).setCell ⟨gb118, 1, none⟩ (.bool ((rd_T90 l0_4 x7_2).f1))).setCell ⟨gb118, 2, none⟩ (.int .i64 ((rd_T90 l0_4 x7_2).f2))).setCell ⟨gb118, 3, none⟩ (.int .i64 ((rd_T90 l0_4 x7_2).f3))).setCell ⟨gb118, 4, none⟩ (.slice A117_4 ((rd_T90 l0_4 x7_2).f4).length c117_4)) = w60 at n0_ n1_ n2_ ⊢
            have BK115 := n0_
            have BK118 := n1_
            have HB := n2_
            clear n0_ n1_ n2_
            have n0_ := Aside0.mk (blk_drew BK115.out)
            have n1_ := Aside0.mk (blk_drew BK118.out)
            have n2_ := Aside0.mk (below_drew1 HB.out)
            clear BK115
            clear BK118
            clear HB
            have BK115 := n0_
            have BK118 := n1_
            have HB := n2_
            clear n0_ n1_ n2_
            refine start_ (n := 44) (S := fun w' => w'.cell? ⟨gb118, 0, none⟩ = some (.string ((rd_T90 l0_4 x7_2).f0)) ∧ w'.cell? ⟨gb118, 1, none⟩ = some (.bool ((rd_T90 l0_4 x7_2).f1)) ∧ w'.cell? ⟨gb118, 2, none⟩ = some (.int .i64 ((rd_T90 l0_4 x7_2).f2)) ∧ w'.cell? ⟨gb118, 3, none⟩ = some (.int .i64 ((rd_T90 l0_4 x7_2).f3)) ∧ w'.cell? ⟨gb118, 4, none⟩ = some (.slice A117_4 ((rd_T90 l0_4 x7_2).f4).length c117_4) ∧ w'.cell? ⟨gb115, 0, none⟩ = some (.string a0_0) ∧ w'.cell? ⟨gb115, 1, none⟩ = some (.bool a0_1) ∧ w'.cell? ⟨gb115, 2, none⟩ = some (.int .i64 a0_2) ∧ w'.cell? ⟨gb115, 3, none⟩ = some (.int .i64 a0_3) ∧ w'.cell? ⟨gb115, 4, none⟩ = some (.slice (some ad117) l0_4.length c0_4)) (ds := []) _ (by kernel_rfl) rfl rfl ⟨(blk_cell BK118.out 0).trans rfl, (blk_cell BK118.out 1).trans rfl, (blk_cell BK118.out 2).trans rfl, (blk_cell BK118.out 3).trans rfl, (blk_cell BK118.out 4).trans rfl, (blk_cell BK115.out 0).trans rfl, (blk_cell BK115.out 1).trans rfl, (blk_cell BK115.out 2).trans rfl, (blk_cell BK115.out 3).trans rfl, (blk_cell BK115.out 4).trans rfl⟩ (fun hHeld => ?_); refine with_tabW spec_l02Right.tab7 spec_l02Right.bits7 (fun HT_ HW_ => ?_)
            generalize w60.drew = w61 at BK115 BK118 HB hHeld ⊢
            refine pv_ 0 78 HT_ (bm 44 1) ?_
            refine pv_ 2 80 HT_ (bm 44 5) ?_
            refine tk_ 1 79 HT_ HW_ (bm 44 7) hHeld ?_ (hy := Or.inl ⟨by rfl, by rintro w' ⟨s0, s1, s2, s3, s4, s5, s6, s7, s8, s9⟩; go_simp; with_reducible rfl⟩)
            refine tk_ 3 81 HT_ HW_ (bm 44 15) hHeld ?_ (hy := Or.inl ⟨by rfl, by rintro w' ⟨s0, s1, s2, s3, s4, s5, s6, s7, s8, s9⟩; go_simp; with_reducible rfl⟩)
            refine one_ (i := 4) (N := some 82) (bm 44 31) rfl rfl (one_of HT_.out (by kernel_rfl)) (by decide) (fun K hK => ?_)
            refine goes_ Try.func179 (by kernel_rfl) rfl #[.string ((rd_T90 l0_4 x7_2).f0), .string a0_0] (by rfl) rfl rfl (by (try simp only [List.map_toArray, List.map_cons, List.map_nil]); first | done | rfl | (simp only [List.length_drop, List.length_take]; rfl)) ?_
            with_reducible refine (spec_l02Begins.calls ((rd_T90 l0_4 x7_2).f0) a0_0 true _ A53.out).mono ?_
            rintro e w' ⟨rfl, ⟨nd, rfl⟩⟩
            refine ⟨_, rfl, ?_⟩
            refine hK.out _ _ ⟨(blk_cell BK118.out 0).trans rfl, (blk_cell BK118.out 1).trans rfl, (blk_cell BK118.out 2).trans rfl, (blk_cell BK118.out 3).trans rfl, (blk_cell BK118.out 4).trans rfl, (blk_cell BK115.out 0).trans rfl, (blk_cell BK115.out 1).trans rfl, (blk_cell BK115.out 2).trans rfl, (blk_cell BK115.out 3).trans rfl, (blk_cell BK115.out 4).trans rfl⟩ (fun hHeld => ?_)
            clear hK K
            refine norm_ (a' := ?_) ?_ ?_
            rotate_left
            · show Act.put _ (some 82) _ = _
              simp only [Act.put, List.setIfInBounds_toArray, List.set_cons_zero, List.set_cons_succ, i64_w, i32_w]
              rfl
            refine pv_ 5 83 HT_ (bm 44 63) ?_
            refine pv_ 6 84 HT_ (bm 44 127) ?_
            refine pv_ 7 85 HT_ (bm 44 255) ?_
            refine pv_ 10 88 HT_ (bm 44 1279) ?_
            refine tk_ 8 86 HT_ HW_ (bm 44 1535) hHeld ?_ (hy := Or.inl ⟨by rfl, by rintro w' ⟨s0, s1, s2, s3, s4, s5, s6, s7, s8, s9⟩; go_simp; with_reducible rfl⟩)
            refine pv_ 9 87 HT_ (bm 44 2047) ?_
            refine tk_ 11 89 HT_ HW_ (bm 44 4095) hHeld ?_ (hy := Or.inl ⟨by rfl, by rintro w' ⟨s0, s1, s2, s3, s4, s5, s6, s7, s8, s9⟩; go_simp; with_reducible rfl⟩)
            refine pv_ 12 90 HT_ (bm 44 8191) ?_
            refine pv_ 13 91 HT_ (bm 44 16383) ?_
            refine pv_ 14 92 HT_ (bm 44 32767) ?_
            refine pv_ 15 93 HT_ (bm 44 65535) ?_
            refine pw_ 16 94 HT_ (bm 44 131071) ?_
            refine pw_ 17 95 HT_ (bm 44 262143) ?_
            refine pw_ 18 96 HT_ (bm 44 524287) ?_
            refine pw_ 19 97 HT_ (bm 44 1048575) ?_
            refine pw_ 20 98 HT_ (bm 44 2097151) ?_
            refine pw_ 21 99 HT_ (bm 44 4194303) ?_
            refine pw_ 22 100 HT_ (bm 44 8388607) ?_
            refine pw_ 23 101 HT_ (bm 44 16777215) ?_
            refine pw_ 24 102 HT_ (bm 44 33554431) ?_
            refine pw_ 25 103 HT_ (bm 44 67108863) ?_
            refine pw_ 26 104 HT_ (bm 44 134217727) ?_
            refine pw_ 27 105 HT_ (bm 44 268435455) ?_
            refine pw_ 28 106 HT_ (bm 44 536870911) ?_
            refine pw_ 29 107 HT_ (bm 44 1073741823) ?_
            refine pw_ 30 108 HT_ (bm 44 2147483647) ?_
            refine pw_ 31 109 HT_ (bm 44 4294967295) ?_
            refine pw_ 32 110 HT_ (bm 44 8589934591) ?_
            refine pw_ 33 111 HT_ (bm 44 17179869183) ?_
            refine pw_ 34 112 HT_ (bm 44 34359738367) ?_
            refine pw_ 35 113 HT_ (bm 44 68719476735) ?_
            refine pv_ 36 114 HT_ (bm 44 137438953471) ?_
            refine pv_ 37 115 HT_ (bm 44 274877906943) ?_
            refine pw_ 38 116 HT_ (bm 44 549755813887) ?_
            refine pw_ 39 117 HT_ (bm 44 1099511627775) ?_
            refine pw_ 40 118 HT_ (bm 44 2199023255551) ?_
            refine pw_ 41 119 HT_ (bm 44 4398046511103) ?_
            refine pw_ 42 120 HT_ (bm 44 8796093022207) ?_
            refine pv_ 43 121 HT_ (bm 44 17592186044415) ?_
            refine done_ (done_of HT_.out (by kernel_rfl)) ?_
            try go_wp2
            go_ret
            exact ⟨by first | rfl | (simp [errW_none, errW_some] <;> rfl) | (simp [*, errW_none, errW_some] <;> rfl), Bx2 HB GE115 GE118⟩
          rw [if_neg c55] at H
          have c55b0 : ((((rd_T90 l0_4 x7_2).f0).size : Int) == (a0_0.size : Int)) = false := beq_eq_false_iff_ne.mpr c55
          have c55b1 : ((((rd_T90 l0_4 x7_2).f0).size : Int) != (a0_0.size : Int)) = true := bne_iff_ne.mpr c55
          have c55b2 : (((rd_T90 l0_4 x7_2).f0).size == a0_0.size) = false := by first | simpa using c55 | (simp at c55 ⊢; omega)
          by_cases c62 : x7_2 = 1
          rotate_left
          · rw [if_neg c62] at H
            have c62b0 : (x7_2 == 1) = false := beq_eq_false_iff_ne.mpr c62
            have c62b1 : (x7_2 != 1) = true := bne_iff_ne.mpr c62
            replace H := Option.bind_eq_some_iff.mp H
            obtain ⟨t122, A920, H⟩ := H
            replace H : (if t122 = true then (spec_l02Right.l0 k2 a2 (wrap64 (x7_2 + 1)) a0_0 a0_1 a0_2 a0_3 l0_4) else (some false)) = some r := H
            have A92 := Aside0.mk A920
            clear A920
            by_cases c93 : t122 = true
            rotate_left
            · replace c93 := Bool.eq_false_iff.mpr c93
              subst c93
              have H1 : (some false) = some r := by rw [if_neg (show ¬ (false = true) by decide)] at H; exact H
              clear H
              have H := H1
              clear H1
              obtain rfl := Option.some.inj H
              have hcz101_0 : wr.cell? ⟨gb115, 0, none⟩ = some (.string a0_0) := (blk_cell BK115.out 0).trans rfl
              have hcz101_1 : wr.cell? ⟨gb115, 1, none⟩ = some (.bool a0_1) := (blk_cell BK115.out 1).trans rfl
              have hcz101_2 : wr.cell? ⟨gb115, 2, none⟩ = some (.int .i64 a0_2) := (blk_cell BK115.out 2).trans rfl
              have hcz101_3 : wr.cell? ⟨gb115, 3, none⟩ = some (.int .i64 a0_3) := (blk_cell BK115.out 3).trans rfl
              have hcz101_4 : wr.cell? ⟨gb115, 4, none⟩ = some (.slice A0_4 l0_4.length c0_4) := (blk_cell BK115.out 4).trans rfl
              have hfz101_0 := blk_frozen BK115.out 0
              have hfz101_1 := blk_frozen BK115.out 1
              have hfz101_2 := blk_frozen BK115.out 2
              have hfz101_3 := blk_frozen BK115.out 3
              have hfz101_4 := blk_frozen BK115.out 4
              have p117 : 0 ≤ (x7_2 : Int) := of_decide_eq_true (by first | (with_reducible assumption) | assumption)
              have q117 : x7_2 < (l0_4.length : Int) := of_decide_eq_true (by first | (with_reducible assumption) | assumption)
              obtain ⟨ad117, A117_4, c117_4, e117, hx117_0, hx117_1, hx117_2, hx117_3, hx117_4, hl117_4, hi117_4⟩ := at_T90 HR0_4.out x7_2 p117 q117
              cases e117
              replace hx117_0 := (HB.out.cell (World.block_lt_of_cell? w _ hx117_0)).trans hx117_0
              replace hx117_1 := (HB.out.cell (World.block_lt_of_cell? w _ hx117_1)).trans hx117_1
              replace hx117_2 := (HB.out.cell (World.block_lt_of_cell? w _ hx117_2)).trans hx117_2
              replace hx117_3 := (HB.out.cell (World.block_lt_of_cell? w _ hx117_3)).trans hx117_3
              replace hx117_4 := (HB.out.cell (World.block_lt_of_cell? w _ hx117_4)).trans hx117_4
              have HR117_4 := Aside0.mk hi117_4
              have HC117_4 := Aside0.mk hl117_4
              clear hi117_4 hl117_4
              replace p117 := eq_true p117
              replace q117 := eq_true q117
              try go_wp2_with (first | ((with_reducible refine gate_dst (N := 8) rfl ?_); refine box_event ?hg (N := 8) ?hd (cs := #[.string (⟨#[]⟩ : ByteArray), .bool false, .int .i64 0, .int .i64 0, .slice none 0 0]) (t := 90) ?hr ?_; (case hd => rfl); (case hg => rfl); (case hr => first | (go_simp; done) | (go_simp; rfl)); intro gb118 hg w102 hbox hb; have n0_ := Aside0.mk (blk_below (BKx BK115) hb); have n1_ := Aside0.mk (below_step (Bx1 HB GE115) hb); have n2_ := Aside0.mk (hbox); have n3_ := Aside0.mk ((by rw [hg]; exact (below_size (Bx1 HB GE115)) : w.heap.size ≤ gb118)); have n4_ := Aside0.mk ((by rw [hg]; exact (below_size (Bx1 HB GE115)) : w.heap.size ≤ gb118)); have n5_ := Aside0.mk ((by rw [hg]; exact Nat.ne_of_lt (blk_lt (BKx BK115)) : gb115 ≠ gb118)); have n6_ := Aside0.mk ((by rw [hg]; exact Nat.ne_of_gt (blk_lt (BKx BK115)) : gb118 ≠ gb115)); clear BK115; clear HB; have BK115 := n0_; have HB := n1_; have BK118 := n2_; have GW118 := n3_; have GE118 := n4_; have NB115_118 := n5_; have NB118_115 := n6_; clear n0_ n1_ n2_ n3_ n4_ n5_ n6_; clear hb hbox hg; have hnb103 := NB118_115.out; have hnc103 := NB115_118.out; have hcz104_0 : w102.cell? ⟨gb118, 0, none⟩ = some (.string (⟨#[]⟩ : ByteArray)) := (blk_cell BK118.out 0).trans rfl; have hcz104_1 : w102.cell? ⟨gb118, 1, none⟩ = some (.bool false) := (blk_cell BK118.out 1).trans rfl; have hcz104_2 : w102.cell? ⟨gb118, 2, none⟩ = some (.int .i64 0) := (blk_cell BK118.out 2).trans rfl; have hcz104_3 : w102.cell? ⟨gb118, 3, none⟩ = some (.int .i64 0) := (blk_cell BK118.out 3).trans rfl; have hcz104_4 : w102.cell? ⟨gb118, 4, none⟩ = some (.slice none 0 0) := (blk_cell BK118.out 4).trans rfl; have hfz104_0 := blk_frozen BK118.out 0; have hfz104_1 := blk_frozen BK118.out 1; have hfz104_2 := blk_frozen BK118.out 2; have hfz104_3 := blk_frozen BK118.out 3; have hfz104_4 := blk_frozen BK118.out 4))
              have n0_ : Aside0 ((((((w102.setCell ⟨gb118, 0, none⟩ (.string ((rd_T90 l0_4 x7_2).f0))).setCell ⟨gb118, 1, none⟩ (.bool ((rd_T90 l0_4 x7_2).f1))).setCell ⟨gb118, 2, none⟩ (.int .i64 ((rd_T90 l0_4 x7_2).f2))).setCell ⟨gb118, 3, none⟩ (.int .i64 ((rd_T90 l0_4 x7_2).f3))).setCell ⟨gb118, 4, none⟩ (.slice A117_4 ((rd_T90 l0_4 x7_2).f4).length c117_4)).heap[gb115]? = some (.cells #[.string a0_0, .bool a0_1, .int .i64 a0_2, .int .i64 a0_3, .slice (some ad117) l0_4.length c0_4] 90 (0, 0))) := ⟨by (with_reducible repeat (first | refine blk_drewN ?_ _ | refine blk_drew ?_ | refine blk_alloc ?_ _)); refine blk_far ?_ NB115_118.out _; (with_reducible repeat (first | refine blk_drewN ?_ _ | refine blk_drew ?_ | refine blk_alloc ?_ _)); refine blk_far ?_ NB115_118.out _; (with_reducible repeat (first | refine blk_drewN ?_ _ | refine blk_drew ?_ | refine blk_alloc ?_ _)); refine blk_far ?_ NB115_118.out _; (with_reducible repeat (first | refine blk_drewN ?_ _ | refine blk_drew ?_ | refine blk_alloc ?_ _)); refine blk_far ?_ NB115_118.out _; (with_reducible repeat (first | refine blk_drewN ?_ _ | refine blk_drew ?_ | refine blk_alloc ?_ _)); refine blk_far ?_ NB115_118.out _; (with_reducible repeat (first | refine blk_drewN ?_ _ | refine blk_drew ?_ | refine blk_alloc ?_ _)); exact BK115.out⟩
              have n1_ : Aside0 ((((((w102.setCell ⟨gb118, 0, none⟩ (.string ((rd_T90 l0_4 x7_2).f0))).setCell ⟨gb118, 1, none⟩ (.bool ((rd_T90 l0_4 x7_2).f1))).setCell ⟨gb118, 2, none⟩ (.int .i64 ((rd_T90 l0_4 x7_2).f2))).setCell ⟨gb118, 3, none⟩ (.int .i64 ((rd_T90 l0_4 x7_2).f3))).setCell ⟨gb118, 4, none⟩ (.slice A117_4 ((rd_T90 l0_4 x7_2).f4).length c117_4)).heap[gb118]? = some (.cells #[.string ((rd_T90 l0_4 x7_2).f0), .bool ((rd_T90 l0_4 x7_2).f1), .int .i64 ((rd_T90 l0_4 x7_2).f2), .int .i64 ((rd_T90 l0_4 x7_2).f3), .slice A117_4 ((rd_T90 l0_4 x7_2).f4).length c117_4] 90 (0, 0))) := ⟨by (with_reducible repeat (first | refine blk_drewN ?_ _ | refine blk_drew ?_ | refine blk_alloc ?_ _)); refine blk_put (cs := #[.string ((rd_T90 l0_4 x7_2).f0), .bool ((rd_T90 l0_4 x7_2).f1), .int .i64 ((rd_T90 l0_4 x7_2).f2), .int .i64 ((rd_T90 l0_4 x7_2).f3), .slice none 0 0]) ?_ 4 _ rfl; (with_reducible repeat (first | refine blk_drewN ?_ _ | refine blk_drew ?_ | refine blk_alloc ?_ _)); refine blk_put (cs := #[.string ((rd_T90 l0_4 x7_2).f0), .bool ((rd_T90 l0_4 x7_2).f1), .int .i64 ((rd_T90 l0_4 x7_2).f2), .int .i64 0, .slice none 0 0]) ?_ 3 _ rfl; (with_reducible repeat (first | refine blk_drewN ?_ _ | refine blk_drew ?_ | refine blk_alloc ?_ _)); refine blk_put (cs := #[.string ((rd_T90 l0_4 x7_2).f0), .bool ((rd_T90 l0_4 x7_2).f1), .int .i64 0, .int .i64 0, .slice none 0 0]) ?_ 2 _ rfl; (with_reducible repeat (first | refine blk_drewN ?_ _ | refine blk_drew ?_ | refine blk_alloc ?_ _)); refine blk_put (cs := #[.string ((rd_T90 l0_4 x7_2).f0), .bool false, .int .i64 0, .int .i64 0, .slice none 0 0]) ?_ 1 _ rfl; (with_reducible repeat (first | refine blk_drewN ?_ _ | refine blk_drew ?_ | refine blk_alloc ?_ _)); refine blk_put (cs := #[.string (⟨#[]⟩ : ByteArray), .bool false, .int .i64 0, .int .i64 0, .slice none 0 0]) ?_ 0 _ rfl; (with_reducible repeat (first | refine blk_drewN ?_ _ | refine blk_drew ?_ | refine blk_alloc ?_ _)); exact BK118.out⟩
              have n2_ : Aside0 (Below w.heap.size w (((((w102.setCell ⟨gb118, 0, none⟩ (.string ((rd_T90 l0_4 x7_2).f0))).setCell ⟨gb118, 1, none⟩ (.bool ((rd_T90 l0_4 x7_2).f1))).setCell ⟨gb118, 2, none⟩ (.int .i64 ((rd_T90 l0_4 x7_2).f2))).setCell ⟨gb118, 3, none⟩ (.int .i64 ((rd_T90 l0_4 x7_2).f3))).setCell ⟨gb118, 4, none⟩ (.slice A117_4 ((rd_T90 l0_4 x7_2).f4).length c117_4))) := ⟨Bx2 HB GE115 GE118⟩
              (try clear BK115)
              (try clear BK118)
              (try clear HB)
              generalize (((((w102.setCell ⟨gb118, 0, none⟩ (.string ((rd_T90 l0_4 x7_2).f0))).setCell ⟨gb118, 1, none⟩ (.bool ((rd_T90 l0_4 x7_2).f1))).setCell ⟨gb118, 2, none⟩ (.int .i64 ((rd_T90 l0_4 x7_2).f2))).setCell ⟨gb118, 3, none⟩ (.int .i64 ((rd_T90 l0_4 x7_2).f3))).setCell ⟨gb118, 4, none⟩ (.slice A117_4 ((rd_T90 l0_4 x7_2).f4).length c117_4)) = w105 at n0_ n1_ n2_ ⊢
              have BK115 := n0_
              have BK118 := n1_
              have HB := n2_
              clear n0_ n1_ n2_
              have n0_ := Aside0.mk (blk_drew BK115.out)
              have n1_ := Aside0.mk (blk_drew BK118.out)
              have n2_ := Aside0.mk (below_drew1 HB.out)
              clear BK115
              clear BK118
              clear HB
              have BK115 := n0_
              have BK118 := n1_
              have HB := n2_
              clear n0_ n1_ n2_
              refine start_ (n := 44) (S := fun w' => w'.cell? ⟨gb118, 0, none⟩ = some (.string ((rd_T90 l0_4 x7_2).f0)) ∧ w'.cell? ⟨gb118, 1, none⟩ = some (.bool ((rd_T90 l0_4 x7_2).f1)) ∧ w'.cell? ⟨gb118, 2, none⟩ = some (.int .i64 ((rd_T90 l0_4 x7_2).f2)) ∧ w'.cell? ⟨gb118, 3, none⟩ = some (.int .i64 ((rd_T90 l0_4 x7_2).f3)) ∧ w'.cell? ⟨gb118, 4, none⟩ = some (.slice A117_4 ((rd_T90 l0_4 x7_2).f4).length c117_4) ∧ w'.cell? ⟨gb115, 0, none⟩ = some (.string a0_0) ∧ w'.cell? ⟨gb115, 1, none⟩ = some (.bool a0_1) ∧ w'.cell? ⟨gb115, 2, none⟩ = some (.int .i64 a0_2) ∧ w'.cell? ⟨gb115, 3, none⟩ = some (.int .i64 a0_3) ∧ w'.cell? ⟨gb115, 4, none⟩ = some (.slice (some ad117) l0_4.length c0_4)) (ds := []) _ (by kernel_rfl) rfl rfl ⟨(blk_cell BK118.out 0).trans rfl, (blk_cell BK118.out 1).trans rfl, (blk_cell BK118.out 2).trans rfl, (blk_cell BK118.out 3).trans rfl, (blk_cell BK118.out 4).trans rfl, (blk_cell BK115.out 0).trans rfl, (blk_cell BK115.out 1).trans rfl, (blk_cell BK115.out 2).trans rfl, (blk_cell BK115.out 3).trans rfl, (blk_cell BK115.out 4).trans rfl⟩ (fun hHeld => ?_); refine with_tabW spec_l02Right.tab7 spec_l02Right.bits7 (fun HT_ HW_ => ?_)
              generalize w105.drew = w106 at BK115 BK118 HB hHeld ⊢
              refine pv_ 0 78 HT_ (bm 44 1) ?_
              refine pv_ 2 80 HT_ (bm 44 5) ?_
              refine tk_ 1 79 HT_ HW_ (bm 44 7) hHeld ?_ (hy := Or.inl ⟨by rfl, by rintro w' ⟨s0, s1, s2, s3, s4, s5, s6, s7, s8, s9⟩; go_simp; with_reducible rfl⟩)
              refine tk_ 3 81 HT_ HW_ (bm 44 15) hHeld ?_ (hy := Or.inl ⟨by rfl, by rintro w' ⟨s0, s1, s2, s3, s4, s5, s6, s7, s8, s9⟩; go_simp; with_reducible rfl⟩)
              refine one_ (i := 4) (N := some 82) (bm 44 31) rfl rfl (one_of HT_.out (by kernel_rfl)) (by decide) (fun K hK => ?_)
              refine goes_ Try.func179 (by kernel_rfl) rfl #[.string ((rd_T90 l0_4 x7_2).f0), .string a0_0] (by rfl) rfl rfl (by (try simp only [List.map_toArray, List.map_cons, List.map_nil]); first | done | rfl | (simp only [List.length_drop, List.length_take]; rfl)) ?_
              with_reducible refine (spec_l02Begins.calls ((rd_T90 l0_4 x7_2).f0) a0_0 true _ A53.out).mono ?_
              rintro e w' ⟨rfl, ⟨nd, rfl⟩⟩
              refine ⟨_, rfl, ?_⟩
              refine hK.out _ _ ⟨(blk_cell BK118.out 0).trans rfl, (blk_cell BK118.out 1).trans rfl, (blk_cell BK118.out 2).trans rfl, (blk_cell BK118.out 3).trans rfl, (blk_cell BK118.out 4).trans rfl, (blk_cell BK115.out 0).trans rfl, (blk_cell BK115.out 1).trans rfl, (blk_cell BK115.out 2).trans rfl, (blk_cell BK115.out 3).trans rfl, (blk_cell BK115.out 4).trans rfl⟩ (fun hHeld => ?_)
              clear hK K
              refine norm_ (a' := ?_) ?_ ?_
              rotate_left
              · show Act.put _ (some 82) _ = _
                simp only [Act.put, List.setIfInBounds_toArray, List.set_cons_zero, List.set_cons_succ, i64_w, i32_w]
                rfl
              refine pv_ 5 83 HT_ (bm 44 63) ?_
              refine pv_ 6 84 HT_ (bm 44 127) ?_
              refine pv_ 7 85 HT_ (bm 44 255) ?_
              refine pv_ 10 88 HT_ (bm 44 1279) ?_
              refine tk_ 8 86 HT_ HW_ (bm 44 1535) hHeld ?_ (hy := Or.inl ⟨by rfl, by rintro w' ⟨s0, s1, s2, s3, s4, s5, s6, s7, s8, s9⟩; go_simp; with_reducible rfl⟩)
              refine pv_ 9 87 HT_ (bm 44 2047) ?_
              refine tk_ 11 89 HT_ HW_ (bm 44 4095) hHeld ?_ (hy := Or.inl ⟨by rfl, by rintro w' ⟨s0, s1, s2, s3, s4, s5, s6, s7, s8, s9⟩; go_simp; with_reducible rfl⟩)
              refine pv_ 12 90 HT_ (bm 44 8191) ?_
              refine pv_ 13 91 HT_ (bm 44 16383) ?_
              refine pv_ 14 92 HT_ (bm 44 32767) ?_
              refine pv_ 15 93 HT_ (bm 44 65535) ?_
              refine pv_ 16 94 HT_ (bm 44 131071) ?_
              refine pv_ 17 95 HT_ (bm 44 262143) ?_
              refine pv_ 18 96 HT_ (bm 44 524287) ?_
              refine pw_ 19 97 HT_ (bm 44 1048575) ?_
              refine pw_ 20 98 HT_ (bm 44 2097151) ?_
              refine pw_ 21 99 HT_ (bm 44 4194303) ?_
              refine pw_ 22 100 HT_ (bm 44 8388607) ?_
              refine pw_ 23 101 HT_ (bm 44 16777215) ?_
              refine pw_ 24 102 HT_ (bm 44 33554431) ?_
              refine pw_ 25 103 HT_ (bm 44 67108863) ?_
              refine pw_ 26 104 HT_ (bm 44 134217727) ?_
              refine pw_ 27 105 HT_ (bm 44 268435455) ?_
              refine pw_ 28 106 HT_ (bm 44 536870911) ?_
              refine pw_ 29 107 HT_ (bm 44 1073741823) ?_
              refine pw_ 30 108 HT_ (bm 44 2147483647) ?_
              refine pw_ 31 109 HT_ (bm 44 4294967295) ?_
              refine pw_ 32 110 HT_ (bm 44 8589934591) ?_
              refine pw_ 33 111 HT_ (bm 44 17179869183) ?_
              refine pw_ 34 112 HT_ (bm 44 34359738367) ?_
              refine pv_ 35 113 HT_ (bm 44 68719476735) ?_
              refine pv_ 36 114 HT_ (bm 44 137438953471) ?_
              refine pv_ 37 115 HT_ (bm 44 274877906943) ?_
              refine pv_ 39 117 HT_ (bm 44 824633720831) ?_
              refine pv_ 40 118 HT_ (bm 44 1924145348607) ?_
              refine tk_ 38 116 HT_ HW_ (bm 44 2199023255551) hHeld ?_ (hy := Or.inl ⟨by rfl, by rintro w' ⟨s0, s1, s2, s3, s4, s5, s6, s7, s8, s9⟩; go_simp; with_reducible rfl⟩)
              refine one_ (i := 41) (N := some 119) (bm 44 4398046511103) rfl rfl (one_of HT_.out (by kernel_rfl)) (by decide) (fun K hK => ?_)
              refine goes_ Try.func120 (by kernel_rfl) rfl #[.agg #[.string ((rd_T90 l0_4 x7_2).f0), .bool ((rd_T90 l0_4 x7_2).f1), .int .i64 ((rd_T90 l0_4 x7_2).f2), .int .i64 ((rd_T90 l0_4 x7_2).f3), .slice A117_4 ((rd_T90 l0_4 x7_2).f4).length c117_4], .bool false, .int .i64 (wrap64 (a2 + 1))] (by rfl) rfl rfl (by (try simp only [List.map_toArray, List.map_cons, List.map_nil]); first | done | rfl | (simp only [List.length_drop, List.length_take]; rfl)) ?_
              with_reducible refine (ih k2 (by have := HJ3.out; have := HK2.out; omega) ((rd_T90 l0_4 x7_2).f0) ((rd_T90 l0_4 x7_2).f1) ((rd_T90 l0_4 x7_2).f2) ((rd_T90 l0_4 x7_2).f3) _ _ ((rd_T90 l0_4 x7_2).f4) false (wrap64 (a2 + 1)) false _ ?side1 ?side2 A92.out).mono ?_
              (case side1 => repeat (first | exact (Kd.C_below HR117_4.out (Bx2 HB GE115 GE118)) | (with_reducible refine Kd.C_alloc ?_ _) | (with_reducible refine Kd.C_drewN ?_ _) | (with_reducible refine Kd.C_drew ?_)))
              (case side2 => exact HC117_4.out)
              rintro e w107 ⟨rfl, hb⟩
              refine ⟨_, rfl, ?_⟩
              have n0_ := Aside0.mk (blk_below (BKx BK115) hb)
              have n1_ := Aside0.mk (blk_below (BKx BK118) hb)
              have n2_ := Aside0.mk (below_step (Bx2 HB GE115 GE118) hb)
              clear BK115
              clear BK118
              clear HB
              have BK115 := n0_
              have BK118 := n1_
              have HB := n2_
              clear n0_ n1_ n2_
              (try clear hb)
              (try clear hb2)
              (try clear hk)
              (try clear hi)
              refine hK.out _ _ ⟨(blk_cell BK118.out 0).trans rfl, (blk_cell BK118.out 1).trans rfl, (blk_cell BK118.out 2).trans rfl, (blk_cell BK118.out 3).trans rfl, (blk_cell BK118.out 4).trans rfl, (blk_cell BK115.out 0).trans rfl, (blk_cell BK115.out 1).trans rfl, (blk_cell BK115.out 2).trans rfl, (blk_cell BK115.out 3).trans rfl, (blk_cell BK115.out 4).trans rfl⟩ (fun hHeld => ?_)
              clear hK K
              refine norm_ (a' := ?_) ?_ ?_
              rotate_left
              · show Act.put _ (some 119) _ = _
                simp only [Act.put, List.setIfInBounds_toArray, List.set_cons_zero, List.set_cons_succ, i64_w, i32_w]
                rfl
              refine pv_ 42 120 HT_ (bm 44 8796093022207) ?_
              refine pv_ 43 121 HT_ (bm 44 17592186044415) ?_
              refine done_ (done_of HT_.out (by kernel_rfl)) ?_
              try go_wp2
              go_ret
              exact ⟨by first | rfl | (simp [errW_none, errW_some] <;> rfl) | (simp [*, errW_none, errW_some] <;> rfl), Bx2 HB GE115 GE118⟩
            subst c93
            have H1 : (spec_l02Right.l0 k2 a2 (wrap64 (x7_2 + 1)) a0_0 a0_1 a0_2 a0_3 l0_4) = some r := by rw [if_pos rfl] at H; exact H
            clear H
            have H := H1
            clear H1
            have H' := Aside0.mk H
            clear H
            have hcz94_0 : wr.cell? ⟨gb115, 0, none⟩ = some (.string a0_0) := (blk_cell BK115.out 0).trans rfl
            have hcz94_1 : wr.cell? ⟨gb115, 1, none⟩ = some (.bool a0_1) := (blk_cell BK115.out 1).trans rfl
            have hcz94_2 : wr.cell? ⟨gb115, 2, none⟩ = some (.int .i64 a0_2) := (blk_cell BK115.out 2).trans rfl
            have hcz94_3 : wr.cell? ⟨gb115, 3, none⟩ = some (.int .i64 a0_3) := (blk_cell BK115.out 3).trans rfl
            have hcz94_4 : wr.cell? ⟨gb115, 4, none⟩ = some (.slice A0_4 l0_4.length c0_4) := (blk_cell BK115.out 4).trans rfl
            have hfz94_0 := blk_frozen BK115.out 0
            have hfz94_1 := blk_frozen BK115.out 1
            have hfz94_2 := blk_frozen BK115.out 2
            have hfz94_3 := blk_frozen BK115.out 3
            have hfz94_4 := blk_frozen BK115.out 4
            have p117 : 0 ≤ (x7_2 : Int) := of_decide_eq_true (by first | (with_reducible assumption) | assumption)
            have q117 : x7_2 < (l0_4.length : Int) := of_decide_eq_true (by first | (with_reducible assumption) | assumption)
            obtain ⟨ad117, A117_4, c117_4, e117, hx117_0, hx117_1, hx117_2, hx117_3, hx117_4, hl117_4, hi117_4⟩ := at_T90 HR0_4.out x7_2 p117 q117
            cases e117
            replace hx117_0 := (HB.out.cell (World.block_lt_of_cell? w _ hx117_0)).trans hx117_0
            replace hx117_1 := (HB.out.cell (World.block_lt_of_cell? w _ hx117_1)).trans hx117_1
            replace hx117_2 := (HB.out.cell (World.block_lt_of_cell? w _ hx117_2)).trans hx117_2
            replace hx117_3 := (HB.out.cell (World.block_lt_of_cell? w _ hx117_3)).trans hx117_3
            replace hx117_4 := (HB.out.cell (World.block_lt_of_cell? w _ hx117_4)).trans hx117_4
            have HR117_4 := Aside0.mk hi117_4
            have HC117_4 := Aside0.mk hl117_4
            clear hi117_4 hl117_4
            replace p117 := eq_true p117
            replace q117 := eq_true q117
            try go_wp2_with (first | ((with_reducible refine gate_dst (N := 8) rfl ?_); refine box_event ?hg (N := 8) ?hd (cs := #[.string (⟨#[]⟩ : ByteArray), .bool false, .int .i64 0, .int .i64 0, .slice none 0 0]) (t := 90) ?hr ?_; (case hd => rfl); (case hg => rfl); (case hr => first | (go_simp; done) | (go_simp; rfl)); intro gb118 hg w95 hbox hb; have n0_ := Aside0.mk (blk_below (BKx BK115) hb); have n1_ := Aside0.mk (below_step (Bx1 HB GE115) hb); have n2_ := Aside0.mk (hbox); have n3_ := Aside0.mk ((by rw [hg]; exact (below_size (Bx1 HB GE115)) : w.heap.size ≤ gb118)); have n4_ := Aside0.mk ((by rw [hg]; exact (below_size (Bx1 HB GE115)) : w.heap.size ≤ gb118)); have n5_ := Aside0.mk ((by rw [hg]; exact Nat.ne_of_lt (blk_lt (BKx BK115)) : gb115 ≠ gb118)); have n6_ := Aside0.mk ((by rw [hg]; exact Nat.ne_of_gt (blk_lt (BKx BK115)) : gb118 ≠ gb115)); clear BK115; clear HB; have BK115 := n0_; have HB := n1_; have BK118 := n2_; have GW118 := n3_; have GE118 := n4_; have NB115_118 := n5_; have NB118_115 := n6_; clear n0_ n1_ n2_ n3_ n4_ n5_ n6_; clear hb hbox hg; have hnb96 := NB118_115.out; have hnc96 := NB115_118.out; have hcz97_0 : w95.cell? ⟨gb118, 0, none⟩ = some (.string (⟨#[]⟩ : ByteArray)) := (blk_cell BK118.out 0).trans rfl; have hcz97_1 : w95.cell? ⟨gb118, 1, none⟩ = some (.bool false) := (blk_cell BK118.out 1).trans rfl; have hcz97_2 : w95.cell? ⟨gb118, 2, none⟩ = some (.int .i64 0) := (blk_cell BK118.out 2).trans rfl; have hcz97_3 : w95.cell? ⟨gb118, 3, none⟩ = some (.int .i64 0) := (blk_cell BK118.out 3).trans rfl; have hcz97_4 : w95.cell? ⟨gb118, 4, none⟩ = some (.slice none 0 0) := (blk_cell BK118.out 4).trans rfl; have hfz97_0 := blk_frozen BK118.out 0; have hfz97_1 := blk_frozen BK118.out 1; have hfz97_2 := blk_frozen BK118.out 2; have hfz97_3 := blk_frozen BK118.out 3; have hfz97_4 := blk_frozen BK118.out 4))
            have n0_ : Aside0 ((((((w95.setCell ⟨gb118, 0, none⟩ (.string ((rd_T90 l0_4 x7_2).f0))).setCell ⟨gb118, 1, none⟩ (.bool ((rd_T90 l0_4 x7_2).f1))).setCell ⟨gb118, 2, none⟩ (.int .i64 ((rd_T90 l0_4 x7_2).f2))).setCell ⟨gb118, 3, none⟩ (.int .i64 ((rd_T90 l0_4 x7_2).f3))).setCell ⟨gb118, 4, none⟩ (.slice A117_4 ((rd_T90 l0_4 x7_2).f4).length c117_4)).heap[gb115]? = some (.cells #[.string a0_0, .bool a0_1, .int .i64 a0_2, .int .i64 a0_3, .slice (some ad117) l0_4.length c0_4] 90 (0, 0))) := ⟨by (with_reducible repeat (first | refine blk_drewN ?_ _ | refine blk_drew ?_ | refine blk_alloc ?_ _)); refine blk_far ?_ NB115_118.out _; (with_reducible repeat (first | refine blk_drewN ?_ _ | refine blk_drew ?_ | refine blk_alloc ?_ _)); refine blk_far ?_ NB115_118.out _; (with_reducible repeat (first | refine blk_drewN ?_ _ | refine blk_drew ?_ | refine blk_alloc ?_ _)); refine blk_far ?_ NB115_118.out _; (with_reducible repeat (first | refine blk_drewN ?_ _ | refine blk_drew ?_ | refine blk_alloc ?_ _)); refine blk_far ?_ NB115_118.out _; (with_reducible repeat (first | refine blk_drewN ?_ _ | refine blk_drew ?_ | refine blk_alloc ?_ _)); refine blk_far ?_ NB115_118.out _; (with_reducible repeat (first | refine blk_drewN ?_ _ | refine blk_drew ?_ | refine blk_alloc ?_ _)); exact BK115.out⟩
            have n1_ : Aside0 ((((((w95.setCell ⟨gb118, 0, none⟩ (.string ((rd_T90 l0_4 x7_2).f0))).setCell ⟨gb118, 1, none⟩ (.bool ((rd_T90 l0_4 x7_2).f1))).setCell ⟨gb118, 2, none⟩ (.int .i64 ((rd_T90 l0_4 x7_2).f2))).setCell ⟨gb118, 3, none⟩ (.int .i64 ((rd_T90 l0_4 x7_2).f3))).setCell ⟨gb118, 4, none⟩ (.slice A117_4 ((rd_T90 l0_4 x7_2).f4).length c117_4)).heap[gb118]? = some (.cells #[.string ((rd_T90 l0_4 x7_2).f0), .bool ((rd_T90 l0_4 x7_2).f1), .int .i64 ((rd_T90 l0_4 x7_2).f2), .int .i64 ((rd_T90 l0_4 x7_2).f3), .slice A117_4 ((rd_T90 l0_4 x7_2).f4).length c117_4] 90 (0, 0))) := ⟨by (with_reducible repeat (first | refine blk_drewN ?_ _ | refine blk_drew ?_ | refine blk_alloc ?_ _)); refine blk_put (cs := #[.string ((rd_T90 l0_4 x7_2).f0), .bool ((rd_T90 l0_4 x7_2).f1), .int .i64 ((rd_T90 l0_4 x7_2).f2), .int .i64 ((rd_T90 l0_4 x7_2).f3), .slice none 0 0]) ?_ 4 _ rfl; (with_reducible repeat (first | refine blk_drewN ?_ _ | refine blk_drew ?_ | refine blk_alloc ?_ _)); refine blk_put (cs := #[.string ((rd_T90 l0_4 x7_2).f0), .bool ((rd_T90 l0_4 x7_2).f1), .int .i64 ((rd_T90 l0_4 x7_2).f2), .int .i64 0, .slice none 0 0]) ?_ 3 _ rfl; (with_reducible repeat (first | refine blk_drewN ?_ _ | refine blk_drew ?_ | refine blk_alloc ?_ _)); refine blk_put (cs := #[.string ((rd_T90 l0_4 x7_2).f0), .bool ((rd_T90 l0_4 x7_2).f1), .int .i64 0, .int .i64 0, .slice none 0 0]) ?_ 2 _ rfl; (with_reducible repeat (first | refine blk_drewN ?_ _ | refine blk_drew ?_ | refine blk_alloc ?_ _)); refine blk_put (cs := #[.string ((rd_T90 l0_4 x7_2).f0), .bool false, .int .i64 0, .int .i64 0, .slice none 0 0]) ?_ 1 _ rfl; (with_reducible repeat (first | refine blk_drewN ?_ _ | refine blk_drew ?_ | refine blk_alloc ?_ _)); refine blk_put (cs := #[.string (⟨#[]⟩ : ByteArray), .bool false, .int .i64 0, .int .i64 0, .slice none 0 0]) ?_ 0 _ rfl; (with_reducible repeat (first | refine blk_drewN ?_ _ | refine blk_drew ?_ | refine blk_alloc ?_ _)); exact BK118.out⟩
            have n2_ : Aside0 (Below w.heap.size w (((((w95.setCell ⟨gb118, 0, none⟩ (.string ((rd_T90 l0_4 x7_2).f0))).setCell ⟨gb118, 1, none⟩ (.bool ((rd_T90 l0_4 x7_2).f1))).setCell ⟨gb118, 2, none⟩ (.int .i64 ((rd_T90 l0_4 x7_2).f2))).setCell ⟨gb118, 3, none⟩ (.int .i64 ((rd_T90 l0_4 x7_2).f3))).setCell ⟨gb118, 4, none⟩ (.slice A117_4 ((rd_T90 l0_4 x7_2).f4).length c117_4))) := ⟨Bx2 HB GE115 GE118⟩
            (try clear BK115)
            (try clear BK118)
            (try clear HB)
            generalize (((((w95.setCell ⟨gb118, 0, none⟩ (.string ((rd_T90 l0_4 x7_2).f0))).setCell ⟨gb118, 1, none⟩ (.bool ((rd_T90 l0_4 x7_2).f1))).setCell ⟨gb118, 2, none⟩ (.int .i64 ((rd_T90 l0_4 x7_2).f2))).setCell ⟨gb118, 3, none⟩ (.int .i64 ((rd_T90 l0_4 x7_2).f3))).setCell ⟨gb118, 4, none⟩ (.slice A117_4 ((rd_T90 l0_4 x7_2).f4).length c117_4)) = w98 at n0_ n1_ n2_ ⊢
            have BK115 := n0_
            have BK118 := n1_
            have HB := n2_
            clear n0_ n1_ n2_
            have n0_ := Aside0.mk (blk_drew BK115.out)
            have n1_ := Aside0.mk (blk_drew BK118.out)
            have n2_ := Aside0.mk (below_drew1 HB.out)
            clear BK115
            clear BK118
            clear HB
            have BK115 := n0_
            have BK118 := n1_
            have HB := n2_
            clear n0_ n1_ n2_
            refine start_ (n := 44) (S := fun w' => w'.cell? ⟨gb118, 0, none⟩ = some (.string ((rd_T90 l0_4 x7_2).f0)) ∧ w'.cell? ⟨gb118, 1, none⟩ = some (.bool ((rd_T90 l0_4 x7_2).f1)) ∧ w'.cell? ⟨gb118, 2, none⟩ = some (.int .i64 ((rd_T90 l0_4 x7_2).f2)) ∧ w'.cell? ⟨gb118, 3, none⟩ = some (.int .i64 ((rd_T90 l0_4 x7_2).f3)) ∧ w'.cell? ⟨gb118, 4, none⟩ = some (.slice A117_4 ((rd_T90 l0_4 x7_2).f4).length c117_4) ∧ w'.cell? ⟨gb115, 0, none⟩ = some (.string a0_0) ∧ w'.cell? ⟨gb115, 1, none⟩ = some (.bool a0_1) ∧ w'.cell? ⟨gb115, 2, none⟩ = some (.int .i64 a0_2) ∧ w'.cell? ⟨gb115, 3, none⟩ = some (.int .i64 a0_3) ∧ w'.cell? ⟨gb115, 4, none⟩ = some (.slice (some ad117) l0_4.length c0_4)) (ds := []) _ (by kernel_rfl) rfl rfl ⟨(blk_cell BK118.out 0).trans rfl, (blk_cell BK118.out 1).trans rfl, (blk_cell BK118.out 2).trans rfl, (blk_cell BK118.out 3).trans rfl, (blk_cell BK118.out 4).trans rfl, (blk_cell BK115.out 0).trans rfl, (blk_cell BK115.out 1).trans rfl, (blk_cell BK115.out 2).trans rfl, (blk_cell BK115.out 3).trans rfl, (blk_cell BK115.out 4).trans rfl⟩ (fun hHeld => ?_); refine with_tabW spec_l02Right.tab7 spec_l02Right.bits7 (fun HT_ HW_ => ?_)
            generalize w98.drew = w99 at BK115 BK118 HB hHeld ⊢
            refine pv_ 0 78 HT_ (bm 44 1) ?_
            refine pv_ 2 80 HT_ (bm 44 5) ?_
            refine tk_ 1 79 HT_ HW_ (bm 44 7) hHeld ?_ (hy := Or.inl ⟨by rfl, by rintro w' ⟨s0, s1, s2, s3, s4, s5, s6, s7, s8, s9⟩; go_simp; with_reducible rfl⟩)
            refine tk_ 3 81 HT_ HW_ (bm 44 15) hHeld ?_ (hy := Or.inl ⟨by rfl, by rintro w' ⟨s0, s1, s2, s3, s4, s5, s6, s7, s8, s9⟩; go_simp; with_reducible rfl⟩)
            refine one_ (i := 4) (N := some 82) (bm 44 31) rfl rfl (one_of HT_.out (by kernel_rfl)) (by decide) (fun K hK => ?_)
            refine goes_ Try.func179 (by kernel_rfl) rfl #[.string ((rd_T90 l0_4 x7_2).f0), .string a0_0] (by rfl) rfl rfl (by (try simp only [List.map_toArray, List.map_cons, List.map_nil]); first | done | rfl | (simp only [List.length_drop, List.length_take]; rfl)) ?_
            with_reducible refine (spec_l02Begins.calls ((rd_T90 l0_4 x7_2).f0) a0_0 true _ A53.out).mono ?_
            rintro e w' ⟨rfl, ⟨nd, rfl⟩⟩
            refine ⟨_, rfl, ?_⟩
            refine hK.out _ _ ⟨(blk_cell BK118.out 0).trans rfl, (blk_cell BK118.out 1).trans rfl, (blk_cell BK118.out 2).trans rfl, (blk_cell BK118.out 3).trans rfl, (blk_cell BK118.out 4).trans rfl, (blk_cell BK115.out 0).trans rfl, (blk_cell BK115.out 1).trans rfl, (blk_cell BK115.out 2).trans rfl, (blk_cell BK115.out 3).trans rfl, (blk_cell BK115.out 4).trans rfl⟩ (fun hHeld => ?_)
            clear hK K
            refine norm_ (a' := ?_) ?_ ?_
            rotate_left
            · show Act.put _ (some 82) _ = _
              simp only [Act.put, List.setIfInBounds_toArray, List.set_cons_zero, List.set_cons_succ, i64_w, i32_w]
              rfl
            refine pv_ 5 83 HT_ (bm 44 63) ?_
            refine pv_ 6 84 HT_ (bm 44 127) ?_
            refine pv_ 7 85 HT_ (bm 44 255) ?_
            refine pv_ 10 88 HT_ (bm 44 1279) ?_
            refine tk_ 8 86 HT_ HW_ (bm 44 1535) hHeld ?_ (hy := Or.inl ⟨by rfl, by rintro w' ⟨s0, s1, s2, s3, s4, s5, s6, s7, s8, s9⟩; go_simp; with_reducible rfl⟩)
            refine pv_ 9 87 HT_ (bm 44 2047) ?_
            refine tk_ 11 89 HT_ HW_ (bm 44 4095) hHeld ?_ (hy := Or.inl ⟨by rfl, by rintro w' ⟨s0, s1, s2, s3, s4, s5, s6, s7, s8, s9⟩; go_simp; with_reducible rfl⟩)
            refine pv_ 12 90 HT_ (bm 44 8191) ?_
            refine pv_ 13 91 HT_ (bm 44 16383) ?_
            refine pv_ 14 92 HT_ (bm 44 32767) ?_
            refine pv_ 15 93 HT_ (bm 44 65535) ?_
            refine pv_ 16 94 HT_ (bm 44 131071) ?_
            refine pv_ 17 95 HT_ (bm 44 262143) ?_
            refine pv_ 18 96 HT_ (bm 44 524287) ?_
            refine pw_ 19 97 HT_ (bm 44 1048575) ?_
            refine pw_ 20 98 HT_ (bm 44 2097151) ?_
            refine pw_ 21 99 HT_ (bm 44 4194303) ?_
            refine pw_ 22 100 HT_ (bm 44 8388607) ?_
            refine pw_ 23 101 HT_ (bm 44 16777215) ?_
            refine pw_ 24 102 HT_ (bm 44 33554431) ?_
            refine pw_ 25 103 HT_ (bm 44 67108863) ?_
            refine pw_ 26 104 HT_ (bm 44 134217727) ?_
            refine pw_ 27 105 HT_ (bm 44 268435455) ?_
            refine pw_ 28 106 HT_ (bm 44 536870911) ?_
            refine pw_ 29 107 HT_ (bm 44 1073741823) ?_
            refine pw_ 30 108 HT_ (bm 44 2147483647) ?_
            refine pw_ 31 109 HT_ (bm 44 4294967295) ?_
            refine pw_ 32 110 HT_ (bm 44 8589934591) ?_
            refine pw_ 33 111 HT_ (bm 44 17179869183) ?_
            refine pw_ 34 112 HT_ (bm 44 34359738367) ?_
            refine pv_ 35 113 HT_ (bm 44 68719476735) ?_
            refine pv_ 36 114 HT_ (bm 44 137438953471) ?_
            refine pv_ 37 115 HT_ (bm 44 274877906943) ?_
            refine pv_ 39 117 HT_ (bm 44 824633720831) ?_
            refine pv_ 40 118 HT_ (bm 44 1924145348607) ?_
            refine tk_ 38 116 HT_ HW_ (bm 44 2199023255551) hHeld ?_ (hy := Or.inl ⟨by rfl, by rintro w' ⟨s0, s1, s2, s3, s4, s5, s6, s7, s8, s9⟩; go_simp; with_reducible rfl⟩)
            refine one_ (i := 41) (N := some 119) (bm 44 4398046511103) rfl rfl (one_of HT_.out (by kernel_rfl)) (by decide) (fun K hK => ?_)
            refine goes_ Try.func120 (by kernel_rfl) rfl #[.agg #[.string ((rd_T90 l0_4 x7_2).f0), .bool ((rd_T90 l0_4 x7_2).f1), .int .i64 ((rd_T90 l0_4 x7_2).f2), .int .i64 ((rd_T90 l0_4 x7_2).f3), .slice A117_4 ((rd_T90 l0_4 x7_2).f4).length c117_4], .bool false, .int .i64 (wrap64 (a2 + 1))] (by rfl) rfl rfl (by (try simp only [List.map_toArray, List.map_cons, List.map_nil]); first | done | rfl | (simp only [List.length_drop, List.length_take]; rfl)) ?_
            with_reducible refine (ih k2 (by have := HJ3.out; have := HK2.out; omega) ((rd_T90 l0_4 x7_2).f0) ((rd_T90 l0_4 x7_2).f1) ((rd_T90 l0_4 x7_2).f2) ((rd_T90 l0_4 x7_2).f3) _ _ ((rd_T90 l0_4 x7_2).f4) false (wrap64 (a2 + 1)) true _ ?side1 ?side2 A92.out).mono ?_
            (case side1 => repeat (first | exact (Kd.C_below HR117_4.out (Bx2 HB GE115 GE118)) | (with_reducible refine Kd.C_alloc ?_ _) | (with_reducible refine Kd.C_drewN ?_ _) | (with_reducible refine Kd.C_drew ?_)))
            (case side2 => exact HC117_4.out)
            rintro e w100 ⟨rfl, hb⟩
            refine ⟨_, rfl, ?_⟩
            have n0_ := Aside0.mk (blk_below (BKx BK115) hb)
            have n1_ := Aside0.mk (blk_below (BKx BK118) hb)
            have n2_ := Aside0.mk (below_step (Bx2 HB GE115 GE118) hb)
            clear BK115
            clear BK118
            clear HB
            have BK115 := n0_
            have BK118 := n1_
            have HB := n2_
            clear n0_ n1_ n2_
            (try clear hb)
            (try clear hb2)
            (try clear hk)
            (try clear hi)
            refine hK.out _ _ ⟨(blk_cell BK118.out 0).trans rfl, (blk_cell BK118.out 1).trans rfl, (blk_cell BK118.out 2).trans rfl, (blk_cell BK118.out 3).trans rfl, (blk_cell BK118.out 4).trans rfl, (blk_cell BK115.out 0).trans rfl, (blk_cell BK115.out 1).trans rfl, (blk_cell BK115.out 2).trans rfl, (blk_cell BK115.out 3).trans rfl, (blk_cell BK115.out 4).trans rfl⟩ (fun hHeld => ?_)
            clear hK K
            refine norm_ (a' := ?_) ?_ ?_
            rotate_left
            · show Act.put _ (some 119) _ = _
              simp only [Act.put, List.setIfInBounds_toArray, List.set_cons_zero, List.set_cons_succ, i64_w, i32_w]
              rfl
            refine pv_ 42 120 HT_ (bm 44 8796093022207) ?_
            refine pv_ 43 121 HT_ (bm 44 17592186044415) ?_
            refine done_ (done_of HT_.out (by kernel_rfl)) ?_
            try go_wp2
            go_roundg k2
            case measure => have := HJ3.out; have := HK2.out; omega
            case rel => exact ⟨(wrap64 (x7_2 + 1)), (by first | rfl | (simp; done) | (simp [*]; done)), H', ⟨by have := HJ3.out; have := HK2.out; omega⟩, ⟨by (with_reducible repeat (first | refine blk_drewN ?_ _ | refine blk_drew ?_ | refine blk_alloc ?_ _)); exact BK115.out⟩, ⟨Bx2 HB GE115 GE118⟩⟩
          rw [if_pos c62] at H
          have c62b0 : (x7_2 == 1) = true := beq_iff_eq.mpr c62
          have c62b1 : (x7_2 != 1) = false := bne_eq_false_iff_eq.mpr c62
          clear c62
          by_cases c63 : 0 < (l0_4.length : Int)
          rotate_left
          · rw [if_neg c63] at H
            exact absurd H (by simp)
          rw [if_pos c63] at H
          have c63b0 : decide (0 < (l0_4.length : Int)) = true := decide_eq_true c63
          have c63b1 : decide (0 < l0_4.length) = true := decide_eq_true (by omega)
          clear c63
          by_cases c64 : 0 ≤ (a0_0.size : Int)
          rotate_left
          · rw [if_neg c64] at H
            exact absurd H (by simp)
          rw [if_pos c64] at H
          have c64b0 : decide (0 ≤ (a0_0.size : Int)) = true := decide_eq_true c64
          have c64b1 : decide (0 ≤ a0_0.size) = true := decide_eq_true (by omega)
          clear c64
          by_cases c65 : (a0_0.size : Int) < (((rd_T90 l0_4 0).f0).size : Int)
          rotate_left
          · rw [if_neg c65] at H
            exact absurd H (by simp)
          rw [if_pos c65] at H
          have c65b0 : decide ((a0_0.size : Int) < (((rd_T90 l0_4 0).f0).size : Int)) = true := decide_eq_true c65
          have c65b1 : decide (a0_0.size < ((rd_T90 l0_4 0).f0).size) = true := decide_eq_true (Int.ofNat_lt.mp c65)
          clear c65
          by_cases c67 : (a0_0.size : Int) < (((rd_T90 l0_4 x7_2).f0).size : Int)
          rotate_left
          · rw [if_neg c67] at H
            exact absurd H (by simp)
          rw [if_pos c67] at H
          have c67b0 : decide ((a0_0.size : Int) < (((rd_T90 l0_4 x7_2).f0).size : Int)) = true := decide_eq_true c67
          have c67b1 : decide (a0_0.size < ((rd_T90 l0_4 x7_2).f0).size) = true := decide_eq_true (Int.ofNat_lt.mp c67)
          clear c67
          by_cases c69 : (bt ((rd_T90 l0_4 0).f0) (a0_0.size : Int)) ≥ (bt ((rd_T90 l0_4 x7_2).f0) (a0_0.size : Int))
          · rw [if_pos c69] at H
            have c69b0 : decide ((bt ((rd_T90 l0_4 x7_2).f0) (a0_0.size : Int)) ≤ (bt ((rd_T90 l0_4 0).f0) (a0_0.size : Int))) = true := decide_eq_true c69
            clear c69
            obtain rfl := Option.some.inj H
            have hcz70_0 : wr.cell? ⟨gb115, 0, none⟩ = some (.string a0_0) := (blk_cell BK115.out 0).trans rfl
            have hcz70_1 : wr.cell? ⟨gb115, 1, none⟩ = some (.bool a0_1) := (blk_cell BK115.out 1).trans rfl
            have hcz70_2 : wr.cell? ⟨gb115, 2, none⟩ = some (.int .i64 a0_2) := (blk_cell BK115.out 2).trans rfl
            have hcz70_3 : wr.cell? ⟨gb115, 3, none⟩ = some (.int .i64 a0_3) := (blk_cell BK115.out 3).trans rfl
            have hcz70_4 : wr.cell? ⟨gb115, 4, none⟩ = some (.slice A0_4 l0_4.length c0_4) := (blk_cell BK115.out 4).trans rfl
            have hfz70_0 := blk_frozen BK115.out 0
            have hfz70_1 := blk_frozen BK115.out 1
            have hfz70_2 := blk_frozen BK115.out 2
            have hfz70_3 := blk_frozen BK115.out 3
            have hfz70_4 := blk_frozen BK115.out 4
            have p117 : 0 ≤ (x7_2 : Int) := of_decide_eq_true (by first | (with_reducible assumption) | assumption)
            have q117 : x7_2 < (l0_4.length : Int) := of_decide_eq_true (by first | (with_reducible assumption) | assumption)
            obtain ⟨ad117, A117_4, c117_4, e117, hx117_0, hx117_1, hx117_2, hx117_3, hx117_4, hl117_4, hi117_4⟩ := at_T90 HR0_4.out x7_2 p117 q117
            cases e117
            replace hx117_0 := (HB.out.cell (World.block_lt_of_cell? w _ hx117_0)).trans hx117_0
            replace hx117_1 := (HB.out.cell (World.block_lt_of_cell? w _ hx117_1)).trans hx117_1
            replace hx117_2 := (HB.out.cell (World.block_lt_of_cell? w _ hx117_2)).trans hx117_2
            replace hx117_3 := (HB.out.cell (World.block_lt_of_cell? w _ hx117_3)).trans hx117_3
            replace hx117_4 := (HB.out.cell (World.block_lt_of_cell? w _ hx117_4)).trans hx117_4
            have HR117_4 := Aside0.mk hi117_4
            have HC117_4 := Aside0.mk hl117_4
            clear hi117_4 hl117_4
            replace p117 := eq_true p117
            replace q117 := eq_true q117
            try go_wp2_with (first | ((with_reducible refine gate_dst (N := 8) rfl ?_); refine box_event ?hg (N := 8) ?hd (cs := #[.string (⟨#[]⟩ : ByteArray), .bool false, .int .i64 0, .int .i64 0, .slice none 0 0]) (t := 90) ?hr ?_; (case hd => rfl); (case hg => rfl); (case hr => first | (go_simp; done) | (go_simp; rfl)); intro gb118 hg w71 hbox hb; have n0_ := Aside0.mk (blk_below (BKx BK115) hb); have n1_ := Aside0.mk (below_step (Bx1 HB GE115) hb); have n2_ := Aside0.mk (hbox); have n3_ := Aside0.mk ((by rw [hg]; exact (below_size (Bx1 HB GE115)) : w.heap.size ≤ gb118)); have n4_ := Aside0.mk ((by rw [hg]; exact (below_size (Bx1 HB GE115)) : w.heap.size ≤ gb118)); have n5_ := Aside0.mk ((by rw [hg]; exact Nat.ne_of_lt (blk_lt (BKx BK115)) : gb115 ≠ gb118)); have n6_ := Aside0.mk ((by rw [hg]; exact Nat.ne_of_gt (blk_lt (BKx BK115)) : gb118 ≠ gb115)); clear BK115; clear HB; have BK115 := n0_; have HB := n1_; have BK118 := n2_; have GW118 := n3_; have GE118 := n4_; have NB115_118 := n5_; have NB118_115 := n6_; clear n0_ n1_ n2_ n3_ n4_ n5_ n6_; clear hb hbox hg; have hnb72 := NB118_115.out; have hnc72 := NB115_118.out; have hcz73_0 : w71.cell? ⟨gb118, 0, none⟩ = some (.string (⟨#[]⟩ : ByteArray)) := (blk_cell BK118.out 0).trans rfl; have hcz73_1 : w71.cell? ⟨gb118, 1, none⟩ = some (.bool false) := (blk_cell BK118.out 1).trans rfl; have hcz73_2 : w71.cell? ⟨gb118, 2, none⟩ = some (.int .i64 0) := (blk_cell BK118.out 2).trans rfl; have hcz73_3 : w71.cell? ⟨gb118, 3, none⟩ = some (.int .i64 0) := (blk_cell BK118.out 3).trans rfl; have hcz73_4 : w71.cell? ⟨gb118, 4, none⟩ = some (.slice none 0 0) := (blk_cell BK118.out 4).trans rfl; have hfz73_0 := blk_frozen BK118.out 0; have hfz73_1 := blk_frozen BK118.out 1; have hfz73_2 := blk_frozen BK118.out 2; have hfz73_3 := blk_frozen BK118.out 3; have hfz73_4 := blk_frozen BK118.out 4))
            have n0_ : Aside0 ((((((w71.setCell ⟨gb118, 0, none⟩ (.string ((rd_T90 l0_4 x7_2).f0))).setCell ⟨gb118, 1, none⟩ (.bool ((rd_T90 l0_4 x7_2).f1))).setCell ⟨gb118, 2, none⟩ (.int .i64 ((rd_T90 l0_4 x7_2).f2))).setCell ⟨gb118, 3, none⟩ (.int .i64 ((rd_T90 l0_4 x7_2).f3))).setCell ⟨gb118, 4, none⟩ (.slice A117_4 ((rd_T90 l0_4 x7_2).f4).length c117_4)).heap[gb115]? = some (.cells #[.string a0_0, .bool a0_1, .int .i64 a0_2, .int .i64 a0_3, .slice (some ad117) l0_4.length c0_4] 90 (0, 0))) := ⟨by (with_reducible repeat (first | refine blk_drewN ?_ _ | refine blk_drew ?_ | refine blk_alloc ?_ _)); refine blk_far ?_ NB115_118.out _; (with_reducible repeat (first | refine blk_drewN ?_ _ | refine blk_drew ?_ | refine blk_alloc ?_ _)); refine blk_far ?_ NB115_118.out _; (with_reducible repeat (first | refine blk_drewN ?_ _ | refine blk_drew ?_ | refine blk_alloc ?_ _)); refine blk_far ?_ NB115_118.out _; (with_reducible repeat (first | refine blk_drewN ?_ _ | refine blk_drew ?_ | refine blk_alloc ?_ _)); refine blk_far ?_ NB115_118.out _; (with_reducible repeat (first | refine blk_drewN ?_ _ | refine blk_drew ?_ | refine blk_alloc ?_ _)); refine blk_far ?_ NB115_118.out _; (with_reducible repeat (first | refine blk_drewN ?_ _ | refine blk_drew ?_ | refine blk_alloc ?_ _)); exact BK115.out⟩
            have n1_ : Aside0 ((((((w71.setCell ⟨gb118, 0, none⟩ (.string ((rd_T90 l0_4 x7_2).f0))).setCell ⟨gb118, 1, none⟩ (.bool ((rd_T90 l0_4 x7_2).f1))).setCell ⟨gb118, 2, none⟩ (.int .i64 ((rd_T90 l0_4 x7_2).f2))).setCell ⟨gb118, 3, none⟩ (.int .i64 ((rd_T90 l0_4 x7_2).f3))).setCell ⟨gb118, 4, none⟩ (.slice A117_4 ((rd_T90 l0_4 x7_2).f4).length c117_4)).heap[gb118]? = some (.cells #[.string ((rd_T90 l0_4 x7_2).f0), .bool ((rd_T90 l0_4 x7_2).f1), .int .i64 ((rd_T90 l0_4 x7_2).f2), .int .i64 ((rd_T90 l0_4 x7_2).f3), .slice A117_4 ((rd_T90 l0_4 x7_2).f4).length c117_4] 90 (0, 0))) := ⟨by (with_reducible repeat (first | refine blk_drewN ?_ _ | refine blk_drew ?_ | refine blk_alloc ?_ _)); refine blk_put (cs := #[.string ((rd_T90 l0_4 x7_2).f0), .bool ((rd_T90 l0_4 x7_2).f1), .int .i64 ((rd_T90 l0_4 x7_2).f2), .int .i64 ((rd_T90 l0_4 x7_2).f3), .slice none 0 0]) ?_ 4 _ rfl; (with_reducible repeat (first | refine blk_drewN ?_ _ | refine blk_drew ?_ | refine blk_alloc ?_ _)); refine blk_put (cs := #[.string ((rd_T90 l0_4 x7_2).f0), .bool ((rd_T90 l0_4 x7_2).f1), .int .i64 ((rd_T90 l0_4 x7_2).f2), .int .i64 0, .slice none 0 0]) ?_ 3 _ rfl; (with_reducible repeat (first | refine blk_drewN ?_ _ | refine blk_drew ?_ | refine blk_alloc ?_ _)); refine blk_put (cs := #[.string ((rd_T90 l0_4 x7_2).f0), .bool ((rd_T90 l0_4 x7_2).f1), .int .i64 0, .int .i64 0, .slice none 0 0]) ?_ 2 _ rfl; (with_reducible repeat (first | refine blk_drewN ?_ _ | refine blk_drew ?_ | refine blk_alloc ?_ _)); refine blk_put (cs := #[.string ((rd_T90 l0_4 x7_2).f0), .bool false, .int .i64 0, .int .i64 0, .slice none 0 0]) ?_ 1 _ rfl; (with_reducible repeat (first | refine blk_drewN ?_ _ | refine blk_drew ?_ | refine blk_alloc ?_ _)); refine blk_put (cs := #[.string (⟨#[]⟩ : ByteArray), .bool false, .int .i64 0, .int .i64 0, .slice none 0 0]) ?_ 0 _ rfl; (with_reducible repeat (first | refine blk_drewN ?_ _ | refine blk_drew ?_ | refine blk_alloc ?_ _)); exact BK118.out⟩
            have n2_ : Aside0 (Below w.heap.size w (((((w71.setCell ⟨gb118, 0, none⟩ (.string ((rd_T90 l0_4 x7_2).f0))).setCell ⟨gb118, 1, none⟩ (.bool ((rd_T90 l0_4 x7_2).f1))).setCell ⟨gb118, 2, none⟩ (.int .i64 ((rd_T90 l0_4 x7_2).f2))).setCell ⟨gb118, 3, none⟩ (.int .i64 ((rd_T90 l0_4 x7_2).f3))).setCell ⟨gb118, 4, none⟩ (.slice A117_4 ((rd_T90 l0_4 x7_2).f4).length c117_4))) := ⟨Bx2 HB GE115 GE118⟩
            (try clear BK115)
            (try clear BK118)
            (try clear HB)
            generalize (((((w71.setCell ⟨gb118, 0, none⟩ (.string ((rd_T90 l0_4 x7_2).f0))).setCell ⟨gb118, 1, none⟩ (.bool ((rd_T90 l0_4 x7_2).f1))).setCell ⟨gb118, 2, none⟩ (.int .i64 ((rd_T90 l0_4 x7_2).f2))).setCell ⟨gb118, 3, none⟩ (.int .i64 ((rd_T90 l0_4 x7_2).f3))).setCell ⟨gb118, 4, none⟩ (.slice A117_4 ((rd_T90 l0_4 x7_2).f4).length c117_4)) = w74 at n0_ n1_ n2_ ⊢
            have BK115 := n0_
            have BK118 := n1_
            have HB := n2_
            clear n0_ n1_ n2_
            have n0_ := Aside0.mk (blk_drew BK115.out)
            have n1_ := Aside0.mk (blk_drew BK118.out)
            have n2_ := Aside0.mk (below_drew1 HB.out)
            clear BK115
            clear BK118
            clear HB
            have BK115 := n0_
            have BK118 := n1_
            have HB := n2_
            clear n0_ n1_ n2_
            have p120 : 0 ≤ (0 : Int) := (by omega)
            have q120 : 0 < (l0_4.length : Int) := of_decide_eq_true (by first | (with_reducible assumption) | assumption)
            obtain ⟨ad120, A120_4, c120_4, e120, hx120_0, hx120_1, hx120_2, hx120_3, hx120_4, hl120_4, hi120_4⟩ := at_T90 HR0_4.out 0 p120 q120
            have hw120_4 := hx120_4
            (try rw [show ((0 : Int)).toNat = 0 from rfl] at hw120_4)
            (try rw [show 0 * 5 = 0 from rfl] at hw120_4)
            (try rw [Addr.add_zero'] at hw120_4)
            have hw120_3 := hx120_3
            (try rw [show ((0 : Int)).toNat = 0 from rfl] at hw120_3)
            (try rw [show 0 * 5 = 0 from rfl] at hw120_3)
            (try rw [Addr.add_zero'] at hw120_3)
            have hw120_2 := hx120_2
            (try rw [show ((0 : Int)).toNat = 0 from rfl] at hw120_2)
            (try rw [show 0 * 5 = 0 from rfl] at hw120_2)
            (try rw [Addr.add_zero'] at hw120_2)
            have hw120_1 := hx120_1
            (try rw [show ((0 : Int)).toNat = 0 from rfl] at hw120_1)
            (try rw [show 0 * 5 = 0 from rfl] at hw120_1)
            (try rw [Addr.add_zero'] at hw120_1)
            have hw120_0 := hx120_0
            (try rw [show ((0 : Int)).toNat = 0 from rfl] at hw120_0)
            (try rw [show 0 * 5 = 0 from rfl] at hw120_0)
            (try rw [Addr.add_zero'] at hw120_0)
            obtain rfl : ad117 = ad120 := (by injection e120)
            have qi120 : (0 < l0_4.length) = True := eq_true (by omega)
            (try rw [show ((0 : Int)).toNat = 0 from rfl] at hx120_0)
            (try rw [show 0 * 5 = 0 from rfl] at hx120_0)
            (try rw [Addr.add_zero'] at hx120_0)
            (try rw [show ((0 : Int)).toNat = 0 from rfl] at hx120_1)
            (try rw [show 0 * 5 = 0 from rfl] at hx120_1)
            (try rw [Addr.add_zero'] at hx120_1)
            (try rw [show ((0 : Int)).toNat = 0 from rfl] at hx120_2)
            (try rw [show 0 * 5 = 0 from rfl] at hx120_2)
            (try rw [Addr.add_zero'] at hx120_2)
            (try rw [show ((0 : Int)).toNat = 0 from rfl] at hx120_3)
            (try rw [show 0 * 5 = 0 from rfl] at hx120_3)
            (try rw [Addr.add_zero'] at hx120_3)
            (try rw [show ((0 : Int)).toNat = 0 from rfl] at hx120_4)
            (try rw [show 0 * 5 = 0 from rfl] at hx120_4)
            (try rw [Addr.add_zero'] at hx120_4)
            replace hx120_0 := (HB.out.cell (World.block_lt_of_cell? w _ hx120_0)).trans hx120_0
            replace hx120_1 := (HB.out.cell (World.block_lt_of_cell? w _ hx120_1)).trans hx120_1
            replace hx120_2 := (HB.out.cell (World.block_lt_of_cell? w _ hx120_2)).trans hx120_2
            replace hx120_3 := (HB.out.cell (World.block_lt_of_cell? w _ hx120_3)).trans hx120_3
            replace hx120_4 := (HB.out.cell (World.block_lt_of_cell? w _ hx120_4)).trans hx120_4
            have HR120_4 := Aside0.mk hi120_4
            have HC120_4 := Aside0.mk hl120_4
            clear hi120_4 hl120_4
            replace p120 := eq_true p120
            replace q120 := eq_true q120
            refine start_ (n := 44) (S := fun w' => w'.cell? ⟨gb118, 0, none⟩ = some (.string ((rd_T90 l0_4 x7_2).f0)) ∧ w'.cell? ⟨gb118, 1, none⟩ = some (.bool ((rd_T90 l0_4 x7_2).f1)) ∧ w'.cell? ⟨gb118, 2, none⟩ = some (.int .i64 ((rd_T90 l0_4 x7_2).f2)) ∧ w'.cell? ⟨gb118, 3, none⟩ = some (.int .i64 ((rd_T90 l0_4 x7_2).f3)) ∧ w'.cell? ⟨gb118, 4, none⟩ = some (.slice A117_4 ((rd_T90 l0_4 x7_2).f4).length c117_4) ∧ w'.cell? ⟨gb115, 0, none⟩ = some (.string a0_0) ∧ w'.cell? ⟨gb115, 1, none⟩ = some (.bool a0_1) ∧ w'.cell? ⟨gb115, 2, none⟩ = some (.int .i64 a0_2) ∧ w'.cell? ⟨gb115, 3, none⟩ = some (.int .i64 a0_3) ∧ w'.cell? ⟨gb115, 4, none⟩ = some (.slice (some ad117) l0_4.length c0_4) ∧ w'.cell? ad117 = some (.string ((rd_T90 l0_4 0).f0)) ∧ w'.cell? ⟨ad117.block, ad117.off + 1, none⟩ = some (.bool ((rd_T90 l0_4 0).f1)) ∧ w'.cell? ⟨ad117.block, ad117.off + 2, none⟩ = some (.int .i64 ((rd_T90 l0_4 0).f2)) ∧ w'.cell? ⟨ad117.block, ad117.off + 3, none⟩ = some (.int .i64 ((rd_T90 l0_4 0).f3)) ∧ w'.cell? ⟨ad117.block, ad117.off + 4, none⟩ = some (.slice A120_4 ((rd_T90 l0_4 0).f4).length c120_4)) (ds := []) _ (by kernel_rfl) rfl rfl ⟨(blk_cell BK118.out 0).trans rfl, (blk_cell BK118.out 1).trans rfl, (blk_cell BK118.out 2).trans rfl, (blk_cell BK118.out 3).trans rfl, (blk_cell BK118.out 4).trans rfl, (blk_cell BK115.out 0).trans rfl, (blk_cell BK115.out 1).trans rfl, (blk_cell BK115.out 2).trans rfl, (blk_cell BK115.out 3).trans rfl, (blk_cell BK115.out 4).trans rfl, ((HB.out.cell (World.block_lt_of_cell? w _ hw120_0)).trans hw120_0), ((HB.out.cell (World.block_lt_of_cell? w _ hw120_1)).trans hw120_1), ((HB.out.cell (World.block_lt_of_cell? w _ hw120_2)).trans hw120_2), ((HB.out.cell (World.block_lt_of_cell? w _ hw120_3)).trans hw120_3), ((HB.out.cell (World.block_lt_of_cell? w _ hw120_4)).trans hw120_4)⟩ (fun hHeld => ?_); refine with_tabW spec_l02Right.tab7 spec_l02Right.bits7 (fun HT_ HW_ => ?_)
            generalize w74.drew = w75 at BK115 BK118 HB HR120_4 hx120_0 hx120_1 hx120_2 hx120_3 hx120_4 hHeld ⊢
            refine pv_ 0 78 HT_ (bm 44 1) ?_
            refine pv_ 2 80 HT_ (bm 44 5) ?_
            refine tk_ 1 79 HT_ HW_ (bm 44 7) hHeld ?_ (hy := Or.inl ⟨by rfl, by rintro w' ⟨s0, s1, s2, s3, s4, s5, s6, s7, s8, s9, s10, s11, s12, s13, s14⟩; go_simp; with_reducible rfl⟩)
            refine tk_ 3 81 HT_ HW_ (bm 44 15) hHeld ?_ (hy := Or.inl ⟨by rfl, by rintro w' ⟨s0, s1, s2, s3, s4, s5, s6, s7, s8, s9, s10, s11, s12, s13, s14⟩; go_simp; with_reducible rfl⟩)
            refine one_ (i := 4) (N := some 82) (bm 44 31) rfl rfl (one_of HT_.out (by kernel_rfl)) (by decide) (fun K hK => ?_)
            refine goes_ Try.func179 (by kernel_rfl) rfl #[.string ((rd_T90 l0_4 x7_2).f0), .string a0_0] (by rfl) rfl rfl (by (try simp only [List.map_toArray, List.map_cons, List.map_nil]); first | done | rfl | (simp only [List.length_drop, List.length_take]; rfl)) ?_
            with_reducible refine (spec_l02Begins.calls ((rd_T90 l0_4 x7_2).f0) a0_0 true _ A53.out).mono ?_
            rintro e w' ⟨rfl, ⟨nd, rfl⟩⟩
            refine ⟨_, rfl, ?_⟩
            have p66 : 0 ≤ ((a0_0.size : Int) : Int) := of_decide_eq_true (by first | (with_reducible assumption) | assumption)
            have q66 : (a0_0.size : Int) < (((rd_T90 l0_4 0).f0).size : Int) := of_decide_eq_true (by first | (with_reducible assumption) | assumption)
            have hx66 : ∀ h_ : a0_0.size < (((rd_T90 l0_4 0).f0)).size, (((((rd_T90 l0_4 0).f0))[a0_0.size]'h_).toNat : Int) = bt ((rd_T90 l0_4 0).f0) (a0_0.size : Int) := bt_at ((rd_T90 l0_4 0).f0) (a0_0.size : Int)
            replace p66 := eq_true p66
            replace q66 := eq_true q66
            have p68 : 0 ≤ ((a0_0.size : Int) : Int) := of_decide_eq_true (by first | (with_reducible assumption) | assumption)
            have q68 : (a0_0.size : Int) < (((rd_T90 l0_4 x7_2).f0).size : Int) := of_decide_eq_true (by first | (with_reducible assumption) | assumption)
            have hx68 : ∀ h_ : a0_0.size < (((rd_T90 l0_4 x7_2).f0)).size, (((((rd_T90 l0_4 x7_2).f0))[a0_0.size]'h_).toNat : Int) = bt ((rd_T90 l0_4 x7_2).f0) (a0_0.size : Int) := bt_at ((rd_T90 l0_4 x7_2).f0) (a0_0.size : Int)
            replace p68 := eq_true p68
            replace q68 := eq_true q68
            refine hK.out _ _ ⟨(blk_cell BK118.out 0).trans rfl, (blk_cell BK118.out 1).trans rfl, (blk_cell BK118.out 2).trans rfl, (blk_cell BK118.out 3).trans rfl, (blk_cell BK118.out 4).trans rfl, (blk_cell BK115.out 0).trans rfl, (blk_cell BK115.out 1).trans rfl, (blk_cell BK115.out 2).trans rfl, (blk_cell BK115.out 3).trans rfl, (blk_cell BK115.out 4).trans rfl, ((HB.out.cell (World.block_lt_of_cell? w _ hw120_0)).trans hw120_0), ((HB.out.cell (World.block_lt_of_cell? w _ hw120_1)).trans hw120_1), ((HB.out.cell (World.block_lt_of_cell? w _ hw120_2)).trans hw120_2), ((HB.out.cell (World.block_lt_of_cell? w _ hw120_3)).trans hw120_3), ((HB.out.cell (World.block_lt_of_cell? w _ hw120_4)).trans hw120_4)⟩ (fun hHeld => ?_)
            clear hK K
            refine norm_ (a' := ?_) ?_ ?_
            rotate_left
            · show Act.put _ (some 82) _ = _
              simp only [Act.put, List.setIfInBounds_toArray, List.set_cons_zero, List.set_cons_succ, i64_w, i32_w]
              rfl
            refine pv_ 5 83 HT_ (bm 44 63) ?_
            refine pv_ 6 84 HT_ (bm 44 127) ?_
            refine pv_ 7 85 HT_ (bm 44 255) ?_
            refine pv_ 10 88 HT_ (bm 44 1279) ?_
            refine tk_ 8 86 HT_ HW_ (bm 44 1535) hHeld ?_ (hy := Or.inl ⟨by rfl, by rintro w' ⟨s0, s1, s2, s3, s4, s5, s6, s7, s8, s9, s10, s11, s12, s13, s14⟩; go_simp; with_reducible rfl⟩)
            refine pv_ 9 87 HT_ (bm 44 2047) ?_
            refine tk_ 11 89 HT_ HW_ (bm 44 4095) hHeld ?_ (hy := Or.inl ⟨by rfl, by rintro w' ⟨s0, s1, s2, s3, s4, s5, s6, s7, s8, s9, s10, s11, s12, s13, s14⟩; go_simp; with_reducible rfl⟩)
            refine pv_ 12 90 HT_ (bm 44 8191) ?_
            refine pv_ 13 91 HT_ (bm 44 16383) ?_
            refine pv_ 14 92 HT_ (bm 44 32767) ?_
            refine pv_ 15 93 HT_ (bm 44 65535) ?_
            refine pv_ 16 94 HT_ (bm 44 131071) ?_
            refine pv_ 17 95 HT_ (bm 44 262143) ?_
            refine pv_ 18 96 HT_ (bm 44 524287) ?_
            refine pv_ 19 97 HT_ (bm 44 1048575) ?_
            refine pv_ 24 102 HT_ (bm 44 17825791) ?_
            refine pv_ 28 106 HT_ (bm 44 286261247) ?_
            refine pv_ 30 108 HT_ (bm 44 1360003071) ?_
            refine tk_ 20 98 HT_ HW_ (bm 44 1361051647) hHeld ?_ (hy := Or.inl ⟨by rfl, by rintro w' ⟨s0, s1, s2, s3, s4, s5, s6, s7, s8, s9, s10, s11, s12, s13, s14⟩; go_simp; with_reducible rfl⟩)
            refine pv_ 21 99 HT_ (bm 44 1363148799) ?_
            refine pv_ 22 100 HT_ (bm 44 1367343103) ?_
            refine tk_ 23 101 HT_ HW_ (bm 44 1375731711) hHeld ?_ (hy := Or.inl ⟨by rfl, by rintro w' ⟨s0, s1, s2, s3, s4, s5, s6, s7, s8, s9, s10, s11, s12, s13, s14⟩; go_simp; with_reducible rfl⟩)
            refine tk_ 25 103 HT_ HW_ (bm 44 1409286143) hHeld ?_ (hy := Or.inl ⟨by rfl, by rintro w' ⟨s0, s1, s2, s3, s4, s5, s6, s7, s8, s9, s10, s11, s12, s13, s14⟩; go_simp; with_reducible rfl⟩)
            refine pv_ 26 104 HT_ (bm 44 1476395007) ?_
            refine tk_ 27 105 HT_ HW_ (bm 44 1610612735) hHeld ?_ (hy := Or.inl ⟨by rfl, by rintro w' ⟨s0, s1, s2, s3, s4, s5, s6, s7, s8, s9, s10, s11, s12, s13, s14⟩; go_simp; with_reducible rfl⟩)
            refine tk_ 29 107 HT_ HW_ (bm 44 2147483647) hHeld ?_ (hy := Or.inl ⟨by rfl, by rintro w' ⟨s0, s1, s2, s3, s4, s5, s6, s7, s8, s9, s10, s11, s12, s13, s14⟩; go_simp; with_reducible rfl⟩)
            refine tk_ 31 109 HT_ HW_ (bm 44 4294967295) hHeld ?_ (hy := Or.inl ⟨by rfl, by rintro w' ⟨s0, s1, s2, s3, s4, s5, s6, s7, s8, s9, s10, s11, s12, s13, s14⟩; go_simp; with_reducible rfl⟩)
            refine pv_ 32 110 HT_ (bm 44 8589934591) ?_
            refine tk_ 33 111 HT_ HW_ (bm 44 17179869183) hHeld ?_ (hy := Or.inl ⟨by rfl, by rintro w' ⟨s0, s1, s2, s3, s4, s5, s6, s7, s8, s9, s10, s11, s12, s13, s14⟩; go_simp; with_reducible rfl⟩)
            refine pv_ 34 112 HT_ (bm 44 34359738367) ?_
            refine pv_ 35 113 HT_ (bm 44 68719476735) ?_
            refine pv_ 36 114 HT_ (bm 44 137438953471) ?_
            refine pv_ 37 115 HT_ (bm 44 274877906943) ?_
            refine pw_ 38 116 HT_ (bm 44 549755813887) ?_
            refine pw_ 39 117 HT_ (bm 44 1099511627775) ?_
            refine pw_ 40 118 HT_ (bm 44 2199023255551) ?_
            refine pw_ 41 119 HT_ (bm 44 4398046511103) ?_
            refine pw_ 42 120 HT_ (bm 44 8796093022207) ?_
            refine pv_ 43 121 HT_ (bm 44 17592186044415) ?_
            refine done_ (done_of HT_.out (by kernel_rfl)) ?_
            try go_wp2
            go_ret
            exact ⟨by first | rfl | (simp [errW_none, errW_some] <;> rfl) | (simp [*, errW_none, errW_some] <;> rfl), Bx2 HB GE115 GE118⟩
          rw [if_neg c69] at H
          have c69b0 : decide ((bt ((rd_T90 l0_4 x7_2).f0) (a0_0.size : Int)) ≤ (bt ((rd_T90 l0_4 0).f0) (a0_0.size : Int))) = false := decide_eq_false c69
          clear c69
          replace H := Option.bind_eq_some_iff.mp H
          obtain ⟨t121, A760, H⟩ := H
          replace H : (if t121 = true then (spec_l02Right.l0 k2 a2 (wrap64 (x7_2 + 1)) a0_0 a0_1 a0_2 a0_3 l0_4) else (some false)) = some r := H
          have A76 := Aside0.mk A760
          clear A760
          by_cases c77 : t121 = true
          rotate_left
          · replace c77 := Bool.eq_false_iff.mpr c77
            subst c77
            have H1 : (some false) = some r := by rw [if_neg (show ¬ (false = true) by decide)] at H; exact H
            clear H
            have H := H1
            clear H1
            obtain rfl := Option.some.inj H
            have hcz85_0 : wr.cell? ⟨gb115, 0, none⟩ = some (.string a0_0) := (blk_cell BK115.out 0).trans rfl
            have hcz85_1 : wr.cell? ⟨gb115, 1, none⟩ = some (.bool a0_1) := (blk_cell BK115.out 1).trans rfl
            have hcz85_2 : wr.cell? ⟨gb115, 2, none⟩ = some (.int .i64 a0_2) := (blk_cell BK115.out 2).trans rfl
            have hcz85_3 : wr.cell? ⟨gb115, 3, none⟩ = some (.int .i64 a0_3) := (blk_cell BK115.out 3).trans rfl
            have hcz85_4 : wr.cell? ⟨gb115, 4, none⟩ = some (.slice A0_4 l0_4.length c0_4) := (blk_cell BK115.out 4).trans rfl
            have hfz85_0 := blk_frozen BK115.out 0
            have hfz85_1 := blk_frozen BK115.out 1
            have hfz85_2 := blk_frozen BK115.out 2
            have hfz85_3 := blk_frozen BK115.out 3
            have hfz85_4 := blk_frozen BK115.out 4
            have p117 : 0 ≤ (x7_2 : Int) := of_decide_eq_true (by first | (with_reducible assumption) | assumption)
            have q117 : x7_2 < (l0_4.length : Int) := of_decide_eq_true (by first | (with_reducible assumption) | assumption)
            obtain ⟨ad117, A117_4, c117_4, e117, hx117_0, hx117_1, hx117_2, hx117_3, hx117_4, hl117_4, hi117_4⟩ := at_T90 HR0_4.out x7_2 p117 q117
            cases e117
            replace hx117_0 := (HB.out.cell (World.block_lt_of_cell? w _ hx117_0)).trans hx117_0
            replace hx117_1 := (HB.out.cell (World.block_lt_of_cell? w _ hx117_1)).trans hx117_1
            replace hx117_2 := (HB.out.cell (World.block_lt_of_cell? w _ hx117_2)).trans hx117_2
            replace hx117_3 := (HB.out.cell (World.block_lt_of_cell? w _ hx117_3)).trans hx117_3
            replace hx117_4 := (HB.out.cell (World.block_lt_of_cell? w _ hx117_4)).trans hx117_4
            have HR117_4 := Aside0.mk hi117_4
            have HC117_4 := Aside0.mk hl117_4
            clear hi117_4 hl117_4
            replace p117 := eq_true p117
            replace q117 := eq_true q117
            try go_wp2_with (first | ((with_reducible refine gate_dst (N := 8) rfl ?_); refine box_event ?hg (N := 8) ?hd (cs := #[.string (⟨#[]⟩ : ByteArray), .bool false, .int .i64 0, .int .i64 0, .slice none 0 0]) (t := 90) ?hr ?_; (case hd => rfl); (case hg => rfl); (case hr => first | (go_simp; done) | (go_simp; rfl)); intro gb118 hg w86 hbox hb; have n0_ := Aside0.mk (blk_below (BKx BK115) hb); have n1_ := Aside0.mk (below_step (Bx1 HB GE115) hb); have n2_ := Aside0.mk (hbox); have n3_ := Aside0.mk ((by rw [hg]; exact (below_size (Bx1 HB GE115)) : w.heap.size ≤ gb118)); have n4_ := Aside0.mk ((by rw [hg]; exact (below_size (Bx1 HB GE115)) : w.heap.size ≤ gb118)); have n5_ := Aside0.mk ((by rw [hg]; exact Nat.ne_of_lt (blk_lt (BKx BK115)) : gb115 ≠ gb118)); have n6_ := Aside0.mk ((by rw [hg]; exact Nat.ne_of_gt (blk_lt (BKx BK115)) : gb118 ≠ gb115)); clear BK115; clear HB; have BK115 := n0_; have HB := n1_; have BK118 := n2_; have GW118 := n3_; have GE118 := n4_; have NB115_118 := n5_; have NB118_115 := n6_; clear n0_ n1_ n2_ n3_ n4_ n5_ n6_; clear hb hbox hg; have hnb87 := NB118_115.out; have hnc87 := NB115_118.out; have hcz88_0 : w86.cell? ⟨gb118, 0, none⟩ = some (.string (⟨#[]⟩ : ByteArray)) := (blk_cell BK118.out 0).trans rfl; have hcz88_1 : w86.cell? ⟨gb118, 1, none⟩ = some (.bool false) := (blk_cell BK118.out 1).trans rfl; have hcz88_2 : w86.cell? ⟨gb118, 2, none⟩ = some (.int .i64 0) := (blk_cell BK118.out 2).trans rfl; have hcz88_3 : w86.cell? ⟨gb118, 3, none⟩ = some (.int .i64 0) := (blk_cell BK118.out 3).trans rfl; have hcz88_4 : w86.cell? ⟨gb118, 4, none⟩ = some (.slice none 0 0) := (blk_cell BK118.out 4).trans rfl; have hfz88_0 := blk_frozen BK118.out 0; have hfz88_1 := blk_frozen BK118.out 1; have hfz88_2 := blk_frozen BK118.out 2; have hfz88_3 := blk_frozen BK118.out 3; have hfz88_4 := blk_frozen BK118.out 4))
            have n0_ : Aside0 ((((((w86.setCell ⟨gb118, 0, none⟩ (.string ((rd_T90 l0_4 x7_2).f0))).setCell ⟨gb118, 1, none⟩ (.bool ((rd_T90 l0_4 x7_2).f1))).setCell ⟨gb118, 2, none⟩ (.int .i64 ((rd_T90 l0_4 x7_2).f2))).setCell ⟨gb118, 3, none⟩ (.int .i64 ((rd_T90 l0_4 x7_2).f3))).setCell ⟨gb118, 4, none⟩ (.slice A117_4 ((rd_T90 l0_4 x7_2).f4).length c117_4)).heap[gb115]? = some (.cells #[.string a0_0, .bool a0_1, .int .i64 a0_2, .int .i64 a0_3, .slice (some ad117) l0_4.length c0_4] 90 (0, 0))) := ⟨by (with_reducible repeat (first | refine blk_drewN ?_ _ | refine blk_drew ?_ | refine blk_alloc ?_ _)); refine blk_far ?_ NB115_118.out _; (with_reducible repeat (first | refine blk_drewN ?_ _ | refine blk_drew ?_ | refine blk_alloc ?_ _)); refine blk_far ?_ NB115_118.out _; (with_reducible repeat (first | refine blk_drewN ?_ _ | refine blk_drew ?_ | refine blk_alloc ?_ _)); refine blk_far ?_ NB115_118.out _; (with_reducible repeat (first | refine blk_drewN ?_ _ | refine blk_drew ?_ | refine blk_alloc ?_ _)); refine blk_far ?_ NB115_118.out _; (with_reducible repeat (first | refine blk_drewN ?_ _ | refine blk_drew ?_ | refine blk_alloc ?_ _)); refine blk_far ?_ NB115_118.out _; (with_reducible repeat (first | refine blk_drewN ?_ _ | refine blk_drew ?_ | refine blk_alloc ?_ _)); exact BK115.out⟩
            have n1_ : Aside0 ((((((w86.setCell ⟨gb118, 0, none⟩ (.string ((rd_T90 l0_4 x7_2).f0))).setCell ⟨gb118, 1, none⟩ (.bool ((rd_T90 l0_4 x7_2).f1))).setCell ⟨gb118, 2, none⟩ (.int .i64 ((rd_T90 l0_4 x7_2).f2))).setCell ⟨gb118, 3, none⟩ (.int .i64 ((rd_T90 l0_4 x7_2).f3))).setCell ⟨gb118, 4, none⟩ (.slice A117_4 ((rd_T90 l0_4 x7_2).f4).length c117_4)).heap[gb118]? = some (.cells #[.string ((rd_T90 l0_4 x7_2).f0), .bool ((rd_T90 l0_4 x7_2).f1), .int .i64 ((rd_T90 l0_4 x7_2).f2), .int .i64 ((rd_T90 l0_4 x7_2).f3), .slice A117_4 ((rd_T90 l0_4 x7_2).f4).length c117_4] 90 (0, 0))) := ⟨by (with_reducible repeat (first | refine blk_drewN ?_ _ | refine blk_drew ?_ | refine blk_alloc ?_ _)); refine blk_put (cs := #[.string ((rd_T90 l0_4 x7_2).f0), .bool ((rd_T90 l0_4 x7_2).f1), .int .i64 ((rd_T90 l0_4 x7_2).f2), .int .i64 ((rd_T90 l0_4 x7_2).f3), .slice none 0 0]) ?_ 4 _ rfl; (with_reducible repeat (first | refine blk_drewN ?_ _ | refine blk_drew ?_ | refine blk_alloc ?_ _)); refine blk_put (cs := #[.string ((rd_T90 l0_4 x7_2).f0), .bool ((rd_T90 l0_4 x7_2).f1), .int .i64 ((rd_T90 l0_4 x7_2).f2), .int .i64 0, .slice none 0 0]) ?_ 3 _ rfl; (with_reducible repeat (first | refine blk_drewN ?_ _ | refine blk_drew ?_ | refine blk_alloc ?_ _)); refine blk_put (cs := #[.string ((rd_T90 l0_4 x7_2).f0), .bool ((rd_T90 l0_4 x7_2).f1), .int .i64 0, .int .i64 0, .slice none 0 0]) ?_ 2 _ rfl; (with_reducible repeat (first | refine blk_drewN ?_ _ | refine blk_drew ?_ | refine blk_alloc ?_ _)); refine blk_put (cs := #[.string ((rd_T90 l0_4 x7_2).f0), .bool false, .int .i64 0, .int .i64 0, .slice none 0 0]) ?_ 1 _ rfl; (with_reducible repeat (first | refine blk_drewN ?_ _ | refine blk_drew ?_ | refine blk_alloc ?_ _)); refine blk_put (cs := #[.string (⟨#[]⟩ : ByteArray), .bool false, .int .i64 0, .int .i64 0, .slice none 0 0]) ?_ 0 _ rfl; (with_reducible repeat (first | refine blk_drewN ?_ _ | refine blk_drew ?_ | refine blk_alloc ?_ _)); exact BK118.out⟩
            have n2_ : Aside0 (Below w.heap.size w (((((w86.setCell ⟨gb118, 0, none⟩ (.string ((rd_T90 l0_4 x7_2).f0))).setCell ⟨gb118, 1, none⟩ (.bool ((rd_T90 l0_4 x7_2).f1))).setCell ⟨gb118, 2, none⟩ (.int .i64 ((rd_T90 l0_4 x7_2).f2))).setCell ⟨gb118, 3, none⟩ (.int .i64 ((rd_T90 l0_4 x7_2).f3))).setCell ⟨gb118, 4, none⟩ (.slice A117_4 ((rd_T90 l0_4 x7_2).f4).length c117_4))) := ⟨Bx2 HB GE115 GE118⟩
            (try clear BK115)
            (try clear BK118)
            (try clear HB)
            generalize (((((w86.setCell ⟨gb118, 0, none⟩ (.string ((rd_T90 l0_4 x7_2).f0))).setCell ⟨gb118, 1, none⟩ (.bool ((rd_T90 l0_4 x7_2).f1))).setCell ⟨gb118, 2, none⟩ (.int .i64 ((rd_T90 l0_4 x7_2).f2))).setCell ⟨gb118, 3, none⟩ (.int .i64 ((rd_T90 l0_4 x7_2).f3))).setCell ⟨gb118, 4, none⟩ (.slice A117_4 ((rd_T90 l0_4 x7_2).f4).length c117_4)) = w89 at n0_ n1_ n2_ ⊢
            have BK115 := n0_
            have BK118 := n1_
            have HB := n2_
            clear n0_ n1_ n2_
            have n0_ := Aside0.mk (blk_drew BK115.out)
            have n1_ := Aside0.mk (blk_drew BK118.out)
            have n2_ := Aside0.mk (below_drew1 HB.out)
            clear BK115
            clear BK118
            clear HB
            have BK115 := n0_
            have BK118 := n1_
            have HB := n2_
            clear n0_ n1_ n2_
            have p120 : 0 ≤ (0 : Int) := (by omega)
            have q120 : 0 < (l0_4.length : Int) := of_decide_eq_true (by first | (with_reducible assumption) | assumption)
            obtain ⟨ad120, A120_4, c120_4, e120, hx120_0, hx120_1, hx120_2, hx120_3, hx120_4, hl120_4, hi120_4⟩ := at_T90 HR0_4.out 0 p120 q120
            have hw120_4 := hx120_4
            (try rw [show ((0 : Int)).toNat = 0 from rfl] at hw120_4)
            (try rw [show 0 * 5 = 0 from rfl] at hw120_4)
            (try rw [Addr.add_zero'] at hw120_4)
            have hw120_3 := hx120_3
            (try rw [show ((0 : Int)).toNat = 0 from rfl] at hw120_3)
            (try rw [show 0 * 5 = 0 from rfl] at hw120_3)
            (try rw [Addr.add_zero'] at hw120_3)
            have hw120_2 := hx120_2
            (try rw [show ((0 : Int)).toNat = 0 from rfl] at hw120_2)
            (try rw [show 0 * 5 = 0 from rfl] at hw120_2)
            (try rw [Addr.add_zero'] at hw120_2)
            have hw120_1 := hx120_1
            (try rw [show ((0 : Int)).toNat = 0 from rfl] at hw120_1)
            (try rw [show 0 * 5 = 0 from rfl] at hw120_1)
            (try rw [Addr.add_zero'] at hw120_1)
            have hw120_0 := hx120_0
            (try rw [show ((0 : Int)).toNat = 0 from rfl] at hw120_0)
            (try rw [show 0 * 5 = 0 from rfl] at hw120_0)
            (try rw [Addr.add_zero'] at hw120_0)
            obtain rfl : ad117 = ad120 := (by injection e120)
            have qi120 : (0 < l0_4.length) = True := eq_true (by omega)
            (try rw [show ((0 : Int)).toNat = 0 from rfl] at hx120_0)
            (try rw [show 0 * 5 = 0 from rfl] at hx120_0)
            (try rw [Addr.add_zero'] at hx120_0)
            (try rw [show ((0 : Int)).toNat = 0 from rfl] at hx120_1)
            (try rw [show 0 * 5 = 0 from rfl] at hx120_1)
            (try rw [Addr.add_zero'] at hx120_1)
            (try rw [show ((0 : Int)).toNat = 0 from rfl] at hx120_2)
            (try rw [show 0 * 5 = 0 from rfl] at hx120_2)
            (try rw [Addr.add_zero'] at hx120_2)
            (try rw [show ((0 : Int)).toNat = 0 from rfl] at hx120_3)
            (try rw [show 0 * 5 = 0 from rfl] at hx120_3)
            (try rw [Addr.add_zero'] at hx120_3)
            (try rw [show ((0 : Int)).toNat = 0 from rfl] at hx120_4)
            (try rw [show 0 * 5 = 0 from rfl] at hx120_4)
            (try rw [Addr.add_zero'] at hx120_4)
            replace hx120_0 := (HB.out.cell (World.block_lt_of_cell? w _ hx120_0)).trans hx120_0
            replace hx120_1 := (HB.out.cell (World.block_lt_of_cell? w _ hx120_1)).trans hx120_1
            replace hx120_2 := (HB.out.cell (World.block_lt_of_cell? w _ hx120_2)).trans hx120_2
            replace hx120_3 := (HB.out.cell (World.block_lt_of_cell? w _ hx120_3)).trans hx120_3
            replace hx120_4 := (HB.out.cell (World.block_lt_of_cell? w _ hx120_4)).trans hx120_4
            have HR120_4 := Aside0.mk hi120_4
            have HC120_4 := Aside0.mk hl120_4
            clear hi120_4 hl120_4
            replace p120 := eq_true p120
            replace q120 := eq_true q120
            refine start_ (n := 44) (S := fun w' => w'.cell? ⟨gb118, 0, none⟩ = some (.string ((rd_T90 l0_4 x7_2).f0)) ∧ w'.cell? ⟨gb118, 1, none⟩ = some (.bool ((rd_T90 l0_4 x7_2).f1)) ∧ w'.cell? ⟨gb118, 2, none⟩ = some (.int .i64 ((rd_T90 l0_4 x7_2).f2)) ∧ w'.cell? ⟨gb118, 3, none⟩ = some (.int .i64 ((rd_T90 l0_4 x7_2).f3)) ∧ w'.cell? ⟨gb118, 4, none⟩ = some (.slice A117_4 ((rd_T90 l0_4 x7_2).f4).length c117_4) ∧ w'.cell? ⟨gb115, 0, none⟩ = some (.string a0_0) ∧ w'.cell? ⟨gb115, 1, none⟩ = some (.bool a0_1) ∧ w'.cell? ⟨gb115, 2, none⟩ = some (.int .i64 a0_2) ∧ w'.cell? ⟨gb115, 3, none⟩ = some (.int .i64 a0_3) ∧ w'.cell? ⟨gb115, 4, none⟩ = some (.slice (some ad117) l0_4.length c0_4) ∧ w'.cell? ad117 = some (.string ((rd_T90 l0_4 0).f0)) ∧ w'.cell? ⟨ad117.block, ad117.off + 1, none⟩ = some (.bool ((rd_T90 l0_4 0).f1)) ∧ w'.cell? ⟨ad117.block, ad117.off + 2, none⟩ = some (.int .i64 ((rd_T90 l0_4 0).f2)) ∧ w'.cell? ⟨ad117.block, ad117.off + 3, none⟩ = some (.int .i64 ((rd_T90 l0_4 0).f3)) ∧ w'.cell? ⟨ad117.block, ad117.off + 4, none⟩ = some (.slice A120_4 ((rd_T90 l0_4 0).f4).length c120_4)) (ds := []) _ (by kernel_rfl) rfl rfl ⟨(blk_cell BK118.out 0).trans rfl, (blk_cell BK118.out 1).trans rfl, (blk_cell BK118.out 2).trans rfl, (blk_cell BK118.out 3).trans rfl, (blk_cell BK118.out 4).trans rfl, (blk_cell BK115.out 0).trans rfl, (blk_cell BK115.out 1).trans rfl, (blk_cell BK115.out 2).trans rfl, (blk_cell BK115.out 3).trans rfl, (blk_cell BK115.out 4).trans rfl, ((HB.out.cell (World.block_lt_of_cell? w _ hw120_0)).trans hw120_0), ((HB.out.cell (World.block_lt_of_cell? w _ hw120_1)).trans hw120_1), ((HB.out.cell (World.block_lt_of_cell? w _ hw120_2)).trans hw120_2), ((HB.out.cell (World.block_lt_of_cell? w _ hw120_3)).trans hw120_3), ((HB.out.cell (World.block_lt_of_cell? w _ hw120_4)).trans hw120_4)⟩ (fun hHeld => ?_); refine with_tabW spec_l02Right.tab7 spec_l02Right.bits7 (fun HT_ HW_ => ?_)
            generalize w89.drew = w90 at BK115 BK118 HB HR120_4 hx120_0 hx120_1 hx120_2 hx120_3 hx120_4 hHeld ⊢
            refine pv_ 0 78 HT_ (bm 44 1) ?_
            refine pv_ 2 80 HT_ (bm 44 5) ?_
            refine tk_ 1 79 HT_ HW_ (bm 44 7) hHeld ?_ (hy := Or.inl ⟨by rfl, by rintro w' ⟨s0, s1, s2, s3, s4, s5, s6, s7, s8, s9, s10, s11, s12, s13, s14⟩; go_simp; with_reducible rfl⟩)
            refine tk_ 3 81 HT_ HW_ (bm 44 15) hHeld ?_ (hy := Or.inl ⟨by rfl, by rintro w' ⟨s0, s1, s2, s3, s4, s5, s6, s7, s8, s9, s10, s11, s12, s13, s14⟩; go_simp; with_reducible rfl⟩)
            refine one_ (i := 4) (N := some 82) (bm 44 31) rfl rfl (one_of HT_.out (by kernel_rfl)) (by decide) (fun K hK => ?_)
            refine goes_ Try.func179 (by kernel_rfl) rfl #[.string ((rd_T90 l0_4 x7_2).f0), .string a0_0] (by rfl) rfl rfl (by (try simp only [List.map_toArray, List.map_cons, List.map_nil]); first | done | rfl | (simp only [List.length_drop, List.length_take]; rfl)) ?_
            with_reducible refine (spec_l02Begins.calls ((rd_T90 l0_4 x7_2).f0) a0_0 true _ A53.out).mono ?_
            rintro e w' ⟨rfl, ⟨nd, rfl⟩⟩
            refine ⟨_, rfl, ?_⟩
            have p66 : 0 ≤ ((a0_0.size : Int) : Int) := of_decide_eq_true (by first | (with_reducible assumption) | assumption)
            have q66 : (a0_0.size : Int) < (((rd_T90 l0_4 0).f0).size : Int) := of_decide_eq_true (by first | (with_reducible assumption) | assumption)
            have hx66 : ∀ h_ : a0_0.size < (((rd_T90 l0_4 0).f0)).size, (((((rd_T90 l0_4 0).f0))[a0_0.size]'h_).toNat : Int) = bt ((rd_T90 l0_4 0).f0) (a0_0.size : Int) := bt_at ((rd_T90 l0_4 0).f0) (a0_0.size : Int)
            replace p66 := eq_true p66
            replace q66 := eq_true q66
            have p68 : 0 ≤ ((a0_0.size : Int) : Int) := of_decide_eq_true (by first | (with_reducible assumption) | assumption)
            have q68 : (a0_0.size : Int) < (((rd_T90 l0_4 x7_2).f0).size : Int) := of_decide_eq_true (by first | (with_reducible assumption) | assumption)
            have hx68 : ∀ h_ : a0_0.size < (((rd_T90 l0_4 x7_2).f0)).size, (((((rd_T90 l0_4 x7_2).f0))[a0_0.size]'h_).toNat : Int) = bt ((rd_T90 l0_4 x7_2).f0) (a0_0.size : Int) := bt_at ((rd_T90 l0_4 x7_2).f0) (a0_0.size : Int)
            replace p68 := eq_true p68
            replace q68 := eq_true q68
            refine hK.out _ _ ⟨(blk_cell BK118.out 0).trans rfl, (blk_cell BK118.out 1).trans rfl, (blk_cell BK118.out 2).trans rfl, (blk_cell BK118.out 3).trans rfl, (blk_cell BK118.out 4).trans rfl, (blk_cell BK115.out 0).trans rfl, (blk_cell BK115.out 1).trans rfl, (blk_cell BK115.out 2).trans rfl, (blk_cell BK115.out 3).trans rfl, (blk_cell BK115.out 4).trans rfl, ((HB.out.cell (World.block_lt_of_cell? w _ hw120_0)).trans hw120_0), ((HB.out.cell (World.block_lt_of_cell? w _ hw120_1)).trans hw120_1), ((HB.out.cell (World.block_lt_of_cell? w _ hw120_2)).trans hw120_2), ((HB.out.cell (World.block_lt_of_cell? w _ hw120_3)).trans hw120_3), ((HB.out.cell (World.block_lt_of_cell? w _ hw120_4)).trans hw120_4)⟩ (fun hHeld => ?_)
            clear hK K
            refine norm_ (a' := ?_) ?_ ?_
            rotate_left
            · show Act.put _ (some 82) _ = _
              simp only [Act.put, List.setIfInBounds_toArray, List.set_cons_zero, List.set_cons_succ, i64_w, i32_w]
              rfl
            refine pv_ 5 83 HT_ (bm 44 63) ?_
            refine pv_ 6 84 HT_ (bm 44 127) ?_
            refine pv_ 7 85 HT_ (bm 44 255) ?_
            refine pv_ 10 88 HT_ (bm 44 1279) ?_
            refine tk_ 8 86 HT_ HW_ (bm 44 1535) hHeld ?_ (hy := Or.inl ⟨by rfl, by rintro w' ⟨s0, s1, s2, s3, s4, s5, s6, s7, s8, s9, s10, s11, s12, s13, s14⟩; go_simp; with_reducible rfl⟩)
            refine pv_ 9 87 HT_ (bm 44 2047) ?_
            refine tk_ 11 89 HT_ HW_ (bm 44 4095) hHeld ?_ (hy := Or.inl ⟨by rfl, by rintro w' ⟨s0, s1, s2, s3, s4, s5, s6, s7, s8, s9, s10, s11, s12, s13, s14⟩; go_simp; with_reducible rfl⟩)
            refine pv_ 12 90 HT_ (bm 44 8191) ?_
            refine pv_ 13 91 HT_ (bm 44 16383) ?_
            refine pv_ 14 92 HT_ (bm 44 32767) ?_
            refine pv_ 15 93 HT_ (bm 44 65535) ?_
            refine pv_ 16 94 HT_ (bm 44 131071) ?_
            refine pv_ 17 95 HT_ (bm 44 262143) ?_
            refine pv_ 18 96 HT_ (bm 44 524287) ?_
            refine pv_ 19 97 HT_ (bm 44 1048575) ?_
            refine pv_ 24 102 HT_ (bm 44 17825791) ?_
            refine pv_ 28 106 HT_ (bm 44 286261247) ?_
            refine pv_ 30 108 HT_ (bm 44 1360003071) ?_
            refine tk_ 20 98 HT_ HW_ (bm 44 1361051647) hHeld ?_ (hy := Or.inl ⟨by rfl, by rintro w' ⟨s0, s1, s2, s3, s4, s5, s6, s7, s8, s9, s10, s11, s12, s13, s14⟩; go_simp; with_reducible rfl⟩)
            refine pv_ 21 99 HT_ (bm 44 1363148799) ?_
            refine pv_ 22 100 HT_ (bm 44 1367343103) ?_
            refine tk_ 23 101 HT_ HW_ (bm 44 1375731711) hHeld ?_ (hy := Or.inl ⟨by rfl, by rintro w' ⟨s0, s1, s2, s3, s4, s5, s6, s7, s8, s9, s10, s11, s12, s13, s14⟩; go_simp; with_reducible rfl⟩)
            refine tk_ 25 103 HT_ HW_ (bm 44 1409286143) hHeld ?_ (hy := Or.inl ⟨by rfl, by rintro w' ⟨s0, s1, s2, s3, s4, s5, s6, s7, s8, s9, s10, s11, s12, s13, s14⟩; go_simp; with_reducible rfl⟩)
            refine pv_ 26 104 HT_ (bm 44 1476395007) ?_
            refine tk_ 27 105 HT_ HW_ (bm 44 1610612735) hHeld ?_ (hy := Or.inl ⟨by rfl, by rintro w' ⟨s0, s1, s2, s3, s4, s5, s6, s7, s8, s9, s10, s11, s12, s13, s14⟩; go_simp; with_reducible rfl⟩)
            refine tk_ 29 107 HT_ HW_ (bm 44 2147483647) hHeld ?_ (hy := Or.inl ⟨by rfl, by rintro w' ⟨s0, s1, s2, s3, s4, s5, s6, s7, s8, s9, s10, s11, s12, s13, s14⟩; go_simp; with_reducible rfl⟩)
            refine tk_ 31 109 HT_ HW_ (bm 44 4294967295) hHeld ?_ (hy := Or.inl ⟨by rfl, by rintro w' ⟨s0, s1, s2, s3, s4, s5, s6, s7, s8, s9, s10, s11, s12, s13, s14⟩; go_simp; with_reducible rfl⟩)
            refine pv_ 32 110 HT_ (bm 44 8589934591) ?_
            refine tk_ 33 111 HT_ HW_ (bm 44 17179869183) hHeld ?_ (hy := Or.inl ⟨by rfl, by rintro w' ⟨s0, s1, s2, s3, s4, s5, s6, s7, s8, s9, s10, s11, s12, s13, s14⟩; go_simp; with_reducible rfl⟩)
            refine pv_ 34 112 HT_ (bm 44 34359738367) ?_
            refine pv_ 35 113 HT_ (bm 44 68719476735) ?_
            refine pv_ 36 114 HT_ (bm 44 137438953471) ?_
            refine pv_ 37 115 HT_ (bm 44 274877906943) ?_
            refine pv_ 39 117 HT_ (bm 44 824633720831) ?_
            refine pv_ 40 118 HT_ (bm 44 1924145348607) ?_
            refine tk_ 38 116 HT_ HW_ (bm 44 2199023255551) hHeld ?_ (hy := Or.inl ⟨by rfl, by rintro w' ⟨s0, s1, s2, s3, s4, s5, s6, s7, s8, s9, s10, s11, s12, s13, s14⟩; go_simp; with_reducible rfl⟩)
            refine one_ (i := 41) (N := some 119) (bm 44 4398046511103) rfl rfl (one_of HT_.out (by kernel_rfl)) (by decide) (fun K hK => ?_)
            refine goes_ Try.func120 (by kernel_rfl) rfl #[.agg #[.string ((rd_T90 l0_4 x7_2).f0), .bool ((rd_T90 l0_4 x7_2).f1), .int .i64 ((rd_T90 l0_4 x7_2).f2), .int .i64 ((rd_T90 l0_4 x7_2).f3), .slice A117_4 ((rd_T90 l0_4 x7_2).f4).length c117_4], .bool false, .int .i64 (wrap64 (a2 + 1))] (by rfl) rfl rfl (by (try simp only [List.map_toArray, List.map_cons, List.map_nil]); first | done | rfl | (simp only [List.length_drop, List.length_take]; rfl)) ?_
            with_reducible refine (ih k2 (by have := HJ3.out; have := HK2.out; omega) ((rd_T90 l0_4 x7_2).f0) ((rd_T90 l0_4 x7_2).f1) ((rd_T90 l0_4 x7_2).f2) ((rd_T90 l0_4 x7_2).f3) _ _ ((rd_T90 l0_4 x7_2).f4) false (wrap64 (a2 + 1)) false _ ?side1 ?side2 A76.out).mono ?_
            (case side1 => repeat (first | exact (Kd.C_below HR117_4.out (Bx2 HB GE115 GE118)) | (with_reducible refine Kd.C_alloc ?_ _) | (with_reducible refine Kd.C_drewN ?_ _) | (with_reducible refine Kd.C_drew ?_)))
            (case side2 => exact HC117_4.out)
            rintro e w91 ⟨rfl, hb⟩
            refine ⟨_, rfl, ?_⟩
            have n0_ := Aside0.mk (blk_below (BKx BK115) hb)
            have n1_ := Aside0.mk (blk_below (BKx BK118) hb)
            have n2_ := Aside0.mk (below_step (Bx2 HB GE115 GE118) hb)
            clear BK115
            clear BK118
            clear HB
            have BK115 := n0_
            have BK118 := n1_
            have HB := n2_
            clear n0_ n1_ n2_
            (try clear hb)
            (try clear hb2)
            (try clear hk)
            (try clear hi)
            refine hK.out _ _ ⟨(blk_cell BK118.out 0).trans rfl, (blk_cell BK118.out 1).trans rfl, (blk_cell BK118.out 2).trans rfl, (blk_cell BK118.out 3).trans rfl, (blk_cell BK118.out 4).trans rfl, (blk_cell BK115.out 0).trans rfl, (blk_cell BK115.out 1).trans rfl, (blk_cell BK115.out 2).trans rfl, (blk_cell BK115.out 3).trans rfl, (blk_cell BK115.out 4).trans rfl, ((HB.out.cell (World.block_lt_of_cell? w _ hw120_0)).trans hw120_0), ((HB.out.cell (World.block_lt_of_cell? w _ hw120_1)).trans hw120_1), ((HB.out.cell (World.block_lt_of_cell? w _ hw120_2)).trans hw120_2), ((HB.out.cell (World.block_lt_of_cell? w _ hw120_3)).trans hw120_3), ((HB.out.cell (World.block_lt_of_cell? w _ hw120_4)).trans hw120_4)⟩ (fun hHeld => ?_)
            clear hK K
            refine norm_ (a' := ?_) ?_ ?_
            rotate_left
            · show Act.put _ (some 119) _ = _
              simp only [Act.put, List.setIfInBounds_toArray, List.set_cons_zero, List.set_cons_succ, i64_w, i32_w]
              rfl
            refine pv_ 42 120 HT_ (bm 44 8796093022207) ?_
            refine pv_ 43 121 HT_ (bm 44 17592186044415) ?_
            refine done_ (done_of HT_.out (by kernel_rfl)) ?_
            try go_wp2
            go_ret
            exact ⟨by first | rfl | (simp [errW_none, errW_some] <;> rfl) | (simp [*, errW_none, errW_some] <;> rfl), Bx2 HB GE115 GE118⟩
          subst c77
          have H1 : (spec_l02Right.l0 k2 a2 (wrap64 (x7_2 + 1)) a0_0 a0_1 a0_2 a0_3 l0_4) = some r := by rw [if_pos rfl] at H; exact H
          clear H
          have H := H1
          clear H1
          have H' := Aside0.mk H
          clear H
          have hcz78_0 : wr.cell? ⟨gb115, 0, none⟩ = some (.string a0_0) := (blk_cell BK115.out 0).trans rfl
          have hcz78_1 : wr.cell? ⟨gb115, 1, none⟩ = some (.bool a0_1) := (blk_cell BK115.out 1).trans rfl
          have hcz78_2 : wr.cell? ⟨gb115, 2, none⟩ = some (.int .i64 a0_2) := (blk_cell BK115.out 2).trans rfl
          have hcz78_3 : wr.cell? ⟨gb115, 3, none⟩ = some (.int .i64 a0_3) := (blk_cell BK115.out 3).trans rfl
          have hcz78_4 : wr.cell? ⟨gb115, 4, none⟩ = some (.slice A0_4 l0_4.length c0_4) := (blk_cell BK115.out 4).trans rfl
          have hfz78_0 := blk_frozen BK115.out 0
          have hfz78_1 := blk_frozen BK115.out 1
          have hfz78_2 := blk_frozen BK115.out 2
          have hfz78_3 := blk_frozen BK115.out 3
          have hfz78_4 := blk_frozen BK115.out 4
          have p117 : 0 ≤ (x7_2 : Int) := of_decide_eq_true (by first | (with_reducible assumption) | assumption)
          have q117 : x7_2 < (l0_4.length : Int) := of_decide_eq_true (by first | (with_reducible assumption) | assumption)
          obtain ⟨ad117, A117_4, c117_4, e117, hx117_0, hx117_1, hx117_2, hx117_3, hx117_4, hl117_4, hi117_4⟩ := at_T90 HR0_4.out x7_2 p117 q117
          cases e117
          replace hx117_0 := (HB.out.cell (World.block_lt_of_cell? w _ hx117_0)).trans hx117_0
          replace hx117_1 := (HB.out.cell (World.block_lt_of_cell? w _ hx117_1)).trans hx117_1
          replace hx117_2 := (HB.out.cell (World.block_lt_of_cell? w _ hx117_2)).trans hx117_2
          replace hx117_3 := (HB.out.cell (World.block_lt_of_cell? w _ hx117_3)).trans hx117_3
          replace hx117_4 := (HB.out.cell (World.block_lt_of_cell? w _ hx117_4)).trans hx117_4
          have HR117_4 := Aside0.mk hi117_4
          have HC117_4 := Aside0.mk hl117_4
          clear hi117_4 hl117_4
          replace p117 := eq_true p117
          replace q117 := eq_true q117
          try go_wp2_with (first | ((with_reducible refine gate_dst (N := 8) rfl ?_); refine box_event ?hg (N := 8) ?hd (cs := #[.string (⟨#[]⟩ : ByteArray), .bool false, .int .i64 0, .int .i64 0, .slice none 0 0]) (t := 90) ?hr ?_; (case hd => rfl); (case hg => rfl); (case hr => first | (go_simp; done) | (go_simp; rfl)); intro gb118 hg w79 hbox hb; have n0_ := Aside0.mk (blk_below (BKx BK115) hb); have n1_ := Aside0.mk (below_step (Bx1 HB GE115) hb); have n2_ := Aside0.mk (hbox); have n3_ := Aside0.mk ((by rw [hg]; exact (below_size (Bx1 HB GE115)) : w.heap.size ≤ gb118)); have n4_ := Aside0.mk ((by rw [hg]; exact (below_size (Bx1 HB GE115)) : w.heap.size ≤ gb118)); have n5_ := Aside0.mk ((by rw [hg]; exact Nat.ne_of_lt (blk_lt (BKx BK115)) : gb115 ≠ gb118)); have n6_ := Aside0.mk ((by rw [hg]; exact Nat.ne_of_gt (blk_lt (BKx BK115)) : gb118 ≠ gb115)); clear BK115; clear HB; have BK115 := n0_; have HB := n1_; have BK118 := n2_; have GW118 := n3_; have GE118 := n4_; have NB115_118 := n5_; have NB118_115 := n6_; clear n0_ n1_ n2_ n3_ n4_ n5_ n6_; clear hb hbox hg; have hnb80 := NB118_115.out; have hnc80 := NB115_118.out; have hcz81_0 : w79.cell? ⟨gb118, 0, none⟩ = some (.string (⟨#[]⟩ : ByteArray)) := (blk_cell BK118.out 0).trans rfl; have hcz81_1 : w79.cell? ⟨gb118, 1, none⟩ = some (.bool false) := (blk_cell BK118.out 1).trans rfl; have hcz81_2 : w79.cell? ⟨gb118, 2, none⟩ = some (.int .i64 0) := (blk_cell BK118.out 2).trans rfl; have hcz81_3 : w79.cell? ⟨gb118, 3, none⟩ = some (.int .i64 0) := (blk_cell BK118.out 3).trans rfl; have hcz81_4 : w79.cell? ⟨gb118, 4, none⟩ = some (.slice none 0 0) := (blk_cell BK118.out 4).trans rfl; have hfz81_0 := blk_frozen BK118.out 0; have hfz81_1 := blk_frozen BK118.out 1; have hfz81_2 := blk_frozen BK118.out 2; have hfz81_3 := blk_frozen BK118.out 3; have hfz81_4 := blk_frozen BK118.out 4))
          have n0_ : Aside0 ((((((w79.setCell ⟨gb118, 0, none⟩ (.string ((rd_T90 l0_4 x7_2).f0))).setCell ⟨gb118, 1, none⟩ (.bool ((rd_T90 l0_4 x7_2).f1))).setCell ⟨gb118, 2, none⟩ (.int .i64 ((rd_T90 l0_4 x7_2).f2))).setCell ⟨gb118, 3, none⟩ (.int .i64 ((rd_T90 l0_4 x7_2).f3))).setCell ⟨gb118, 4, none⟩ (.slice A117_4 ((rd_T90 l0_4 x7_2).f4).length c117_4)).heap[gb115]? = some (.cells #[.string a0_0, .bool a0_1, .int .i64 a0_2, .int .i64 a0_3, .slice (some ad117) l0_4.length c0_4] 90 (0, 0))) := ⟨by (with_reducible repeat (first | refine blk_drewN ?_ _ | refine blk_drew ?_ | refine blk_alloc ?_ _)); refine blk_far ?_ NB115_118.out _; (with_reducible repeat (first | refine blk_drewN ?_ _ | refine blk_drew ?_ | refine blk_alloc ?_ _)); refine blk_far ?_ NB115_118.out _; (with_reducible repeat (first | refine blk_drewN ?_ _ | refine blk_drew ?_ | refine blk_alloc ?_ _)); refine blk_far ?_ NB115_118.out _; (with_reducible repeat (first | refine blk_drewN ?_ _ | refine blk_drew ?_ | refine blk_alloc ?_ _)); refine blk_far ?_ NB115_118.out _; (with_reducible repeat (first | refine blk_drewN ?_ _ | refine blk_drew ?_ | refine blk_alloc ?_ _)); refine blk_far ?_ NB115_118.out _; (with_reducible repeat (first | refine blk_drewN ?_ _ | refine blk_drew ?_ | refine blk_alloc ?_ _)); exact BK115.out⟩
          have n1_ : Aside0 ((((((w79.setCell ⟨gb118, 0, none⟩ (.string ((rd_T90 l0_4 x7_2).f0))).setCell ⟨gb118, 1, none⟩ (.bool ((rd_T90 l0_4 x7_2).f1))).setCell ⟨gb118, 2, none⟩ (.int .i64 ((rd_T90 l0_4 x7_2).f2))).setCell ⟨gb118, 3, none⟩ (.int .i64 ((rd_T90 l0_4 x7_2).f3))).setCell ⟨gb118, 4, none⟩ (.slice A117_4 ((rd_T90 l0_4 x7_2).f4).length c117_4)).heap[gb118]? = some (.cells #[.string ((rd_T90 l0_4 x7_2).f0), .bool ((rd_T90 l0_4 x7_2).f1), .int .i64 ((rd_T90 l0_4 x7_2).f2), .int .i64 ((rd_T90 l0_4 x7_2).f3), .slice A117_4 ((rd_T90 l0_4 x7_2).f4).length c117_4] 90 (0, 0))) := ⟨by (with_reducible repeat (first | refine blk_drewN ?_ _ | refine blk_drew ?_ | refine blk_alloc ?_ _)); refine blk_put (cs := #[.string ((rd_T90 l0_4 x7_2).f0), .bool ((rd_T90 l0_4 x7_2).f1), .int .i64 ((rd_T90 l0_4 x7_2).f2), .int .i64 ((rd_T90 l0_4 x7_2).f3), .slice none 0 0]) ?_ 4 _ rfl; (with_reducible repeat (first | refine blk_drewN ?_ _ | refine blk_drew ?_ | refine blk_alloc ?_ _)); refine blk_put (cs := #[.string ((rd_T90 l0_4 x7_2).f0), .bool ((rd_T90 l0_4 x7_2).f1), .int .i64 ((rd_T90 l0_4 x7_2).f2), .int .i64 0, .slice none 0 0]) ?_ 3 _ rfl; (with_reducible repeat (first | refine blk_drewN ?_ _ | refine blk_drew ?_ | refine blk_alloc ?_ _)); refine blk_put (cs := #[.string ((rd_T90 l0_4 x7_2).f0), .bool ((rd_T90 l0_4 x7_2).f1), .int .i64 0, .int .i64 0, .slice none 0 0]) ?_ 2 _ rfl; (with_reducible repeat (first | refine blk_drewN ?_ _ | refine blk_drew ?_ | refine blk_alloc ?_ _)); refine blk_put (cs := #[.string ((rd_T90 l0_4 x7_2).f0), .bool false, .int .i64 0, .int .i64 0, .slice none 0 0]) ?_ 1 _ rfl; (with_reducible repeat (first | refine blk_drewN ?_ _ | refine blk_drew ?_ | refine blk_alloc ?_ _)); refine blk_put (cs := #[.string (⟨#[]⟩ : ByteArray), .bool false, .int .i64 0, .int .i64 0, .slice none 0 0]) ?_ 0 _ rfl; (with_reducible repeat (first | refine blk_drewN ?_ _ | refine blk_drew ?_ | refine blk_alloc ?_ _)); exact BK118.out⟩
          have n2_ : Aside0 (Below w.heap.size w (((((w79.setCell ⟨gb118, 0, none⟩ (.string ((rd_T90 l0_4 x7_2).f0))).setCell ⟨gb118, 1, none⟩ (.bool ((rd_T90 l0_4 x7_2).f1))).setCell ⟨gb118, 2, none⟩ (.int .i64 ((rd_T90 l0_4 x7_2).f2))).setCell ⟨gb118, 3, none⟩ (.int .i64 ((rd_T90 l0_4 x7_2).f3))).setCell ⟨gb118, 4, none⟩ (.slice A117_4 ((rd_T90 l0_4 x7_2).f4).length c117_4))) := ⟨Bx2 HB GE115 GE118⟩
          (try clear BK115)
          (try clear BK118)
          (try clear HB)
          generalize (((((w79.setCell ⟨gb118, 0, none⟩ (.string ((rd_T90 l0_4 x7_2).f0))).setCell ⟨gb118, 1, none⟩ (.bool ((rd_T90 l0_4 x7_2).f1))).setCell ⟨gb118, 2, none⟩ (.int .i64 ((rd_T90 l0_4 x7_2).f2))).setCell ⟨gb118, 3, none⟩ (.int .i64 ((rd_T90 l0_4 x7_2).f3))).setCell ⟨gb118, 4, none⟩ (.slice A117_4 ((rd_T90 l0_4 x7_2).f4).length c117_4)) = w82 at n0_ n1_ n2_ ⊢
          have BK115 := n0_
          have BK118 := n1_
          have HB := n2_
          clear n0_ n1_ n2_
          have n0_ := Aside0.mk (blk_drew BK115.out)
          have n1_ := Aside0.mk (blk_drew BK118.out)
          have n2_ := Aside0.mk (below_drew1 HB.out)
          clear BK115
          clear BK118
          clear HB
          have BK115 := n0_
          have BK118 := n1_
          have HB := n2_
          clear n0_ n1_ n2_
          have p120 : 0 ≤ (0 : Int) := (by omega)
          have q120 : 0 < (l0_4.length : Int) := of_decide_eq_true (by first | (with_reducible assumption) | assumption)
          obtain ⟨ad120, A120_4, c120_4, e120, hx120_0, hx120_1, hx120_2, hx120_3, hx120_4, hl120_4, hi120_4⟩ := at_T90 HR0_4.out 0 p120 q120
          have hw120_4 := hx120_4
          (try rw [show ((0 : Int)).toNat = 0 from rfl] at hw120_4)
          (try rw [show 0 * 5 = 0 from rfl] at hw120_4)
          (try rw [Addr.add_zero'] at hw120_4)
          have hw120_3 := hx120_3
          (try rw [show ((0 : Int)).toNat = 0 from rfl] at hw120_3)
          (try rw [show 0 * 5 = 0 from rfl] at hw120_3)
          (try rw [Addr.add_zero'] at hw120_3)
          have hw120_2 := hx120_2
          (try rw [show ((0 : Int)).toNat = 0 from rfl] at hw120_2)
          (try rw [show 0 * 5 = 0 from rfl] at hw120_2)
          (try rw [Addr.add_zero'] at hw120_2)
          have hw120_1 := hx120_1
          (try rw [show ((0 : Int)).toNat = 0 from rfl] at hw120_1)
          (try rw [show 0 * 5 = 0 from rfl] at hw120_1)
          (try rw [Addr.add_zero'] at hw120_1)
          have hw120_0 := hx120_0
          (try rw [show ((0 : Int)).toNat = 0 from rfl] at hw120_0)
          (try rw [show 0 * 5 = 0 from rfl] at hw120_0)
          (try rw [Addr.add_zero'] at hw120_0)
          obtain rfl : ad117 = ad120 := (by injection e120)
          have qi120 : (0 < l0_4.length) = True := eq_true (by omega)
          (try rw [show ((0 : Int)).toNat = 0 from rfl] at hx120_0)
          (try rw [show 0 * 5 = 0 from rfl] at hx120_0)
          (try rw [Addr.add_zero'] at hx120_0)
          (try rw [show ((0 : Int)).toNat = 0 from rfl] at hx120_1)
          (try rw [show 0 * 5 = 0 from rfl] at hx120_1)
          (try rw [Addr.add_zero'] at hx120_1)
          (try rw [show ((0 : Int)).toNat = 0 from rfl] at hx120_2)
          (try rw [show 0 * 5 = 0 from rfl] at hx120_2)
          (try rw [Addr.add_zero'] at hx120_2)
          (try rw [show ((0 : Int)).toNat = 0 from rfl] at hx120_3)
          (try rw [show 0 * 5 = 0 from rfl] at hx120_3)
          (try rw [Addr.add_zero'] at hx120_3)
          (try rw [show ((0 : Int)).toNat = 0 from rfl] at hx120_4)
          (try rw [show 0 * 5 = 0 from rfl] at hx120_4)
          (try rw [Addr.add_zero'] at hx120_4)
          replace hx120_0 := (HB.out.cell (World.block_lt_of_cell? w _ hx120_0)).trans hx120_0
          replace hx120_1 := (HB.out.cell (World.block_lt_of_cell? w _ hx120_1)).trans hx120_1
          replace hx120_2 := (HB.out.cell (World.block_lt_of_cell? w _ hx120_2)).trans hx120_2
          replace hx120_3 := (HB.out.cell (World.block_lt_of_cell? w _ hx120_3)).trans hx120_3
          replace hx120_4 := (HB.out.cell (World.block_lt_of_cell? w _ hx120_4)).trans hx120_4
          have HR120_4 := Aside0.mk hi120_4
          have HC120_4 := Aside0.mk hl120_4
          clear hi120_4 hl120_4
          replace p120 := eq_true p120
          replace q120 := eq_true q120
          refine start_ (n := 44) (S := fun w' => w'.cell? ⟨gb118, 0, none⟩ = some (.string ((rd_T90 l0_4 x7_2).f0)) ∧ w'.cell? ⟨gb118, 1, none⟩ = some (.bool ((rd_T90 l0_4 x7_2).f1)) ∧ w'.cell? ⟨gb118, 2, none⟩ = some (.int .i64 ((rd_T90 l0_4 x7_2).f2)) ∧ w'.cell? ⟨gb118, 3, none⟩ = some (.int .i64 ((rd_T90 l0_4 x7_2).f3)) ∧ w'.cell? ⟨gb118, 4, none⟩ = some (.slice A117_4 ((rd_T90 l0_4 x7_2).f4).length c117_4) ∧ w'.cell? ⟨gb115, 0, none⟩ = some (.string a0_0) ∧ w'.cell? ⟨gb115, 1, none⟩ = some (.bool a0_1) ∧ w'.cell? ⟨gb115, 2, none⟩ = some (.int .i64 a0_2) ∧ w'.cell? ⟨gb115, 3, none⟩ = some (.int .i64 a0_3) ∧ w'.cell? ⟨gb115, 4, none⟩ = some (.slice (some ad117) l0_4.length c0_4) ∧ w'.cell? ad117 = some (.string ((rd_T90 l0_4 0).f0)) ∧ w'.cell? ⟨ad117.block, ad117.off + 1, none⟩ = some (.bool ((rd_T90 l0_4 0).f1)) ∧ w'.cell? ⟨ad117.block, ad117.off + 2, none⟩ = some (.int .i64 ((rd_T90 l0_4 0).f2)) ∧ w'.cell? ⟨ad117.block, ad117.off + 3, none⟩ = some (.int .i64 ((rd_T90 l0_4 0).f3)) ∧ w'.cell? ⟨ad117.block, ad117.off + 4, none⟩ = some (.slice A120_4 ((rd_T90 l0_4 0).f4).length c120_4)) (ds := []) _ (by kernel_rfl) rfl rfl ⟨(blk_cell BK118.out 0).trans rfl, (blk_cell BK118.out 1).trans rfl, (blk_cell BK118.out 2).trans rfl, (blk_cell BK118.out 3).trans rfl, (blk_cell BK118.out 4).trans rfl, (blk_cell BK115.out 0).trans rfl, (blk_cell BK115.out 1).trans rfl, (blk_cell BK115.out 2).trans rfl, (blk_cell BK115.out 3).trans rfl, (blk_cell BK115.out 4).trans rfl, ((HB.out.cell (World.block_lt_of_cell? w _ hw120_0)).trans hw120_0), ((HB.out.cell (World.block_lt_of_cell? w _ hw120_1)).trans hw120_1), ((HB.out.cell (World.block_lt_of_cell? w _ hw120_2)).trans hw120_2), ((HB.out.cell (World.block_lt_of_cell? w _ hw120_3)).trans hw120_3), ((HB.out.cell (World.block_lt_of_cell? w _ hw120_4)).trans hw120_4)⟩ (fun hHeld => ?_); refine with_tabW spec_l02Right.tab7 spec_l02Right.bits7 (fun HT_ HW_ => ?_)
          generalize w82.drew = w83 at BK115 BK118 HB HR120_4 hx120_0 hx120_1 hx120_2 hx120_3 hx120_4 hHeld ⊢
          refine pv_ 0 78 HT_ (bm 44 1) ?_
          refine pv_ 2 80 HT_ (bm 44 5) ?_
          refine tk_ 1 79 HT_ HW_ (bm 44 7) hHeld ?_ (hy := Or.inl ⟨by rfl, by rintro w' ⟨s0, s1, s2, s3, s4, s5, s6, s7, s8, s9, s10, s11, s12, s13, s14⟩; go_simp; with_reducible rfl⟩)
          refine tk_ 3 81 HT_ HW_ (bm 44 15) hHeld ?_ (hy := Or.inl ⟨by rfl, by rintro w' ⟨s0, s1, s2, s3, s4, s5, s6, s7, s8, s9, s10, s11, s12, s13, s14⟩; go_simp; with_reducible rfl⟩)
          refine one_ (i := 4) (N := some 82) (bm 44 31) rfl rfl (one_of HT_.out (by kernel_rfl)) (by decide) (fun K hK => ?_)
          refine goes_ Try.func179 (by kernel_rfl) rfl #[.string ((rd_T90 l0_4 x7_2).f0), .string a0_0] (by rfl) rfl rfl (by (try simp only [List.map_toArray, List.map_cons, List.map_nil]); first | done | rfl | (simp only [List.length_drop, List.length_take]; rfl)) ?_
          with_reducible refine (spec_l02Begins.calls ((rd_T90 l0_4 x7_2).f0) a0_0 true _ A53.out).mono ?_
          rintro e w' ⟨rfl, ⟨nd, rfl⟩⟩
          refine ⟨_, rfl, ?_⟩
          have p66 : 0 ≤ ((a0_0.size : Int) : Int) := of_decide_eq_true (by first | (with_reducible assumption) | assumption)
          have q66 : (a0_0.size : Int) < (((rd_T90 l0_4 0).f0).size : Int) := of_decide_eq_true (by first | (with_reducible assumption) | assumption)
          have hx66 : ∀ h_ : a0_0.size < (((rd_T90 l0_4 0).f0)).size, (((((rd_T90 l0_4 0).f0))[a0_0.size]'h_).toNat : Int) = bt ((rd_T90 l0_4 0).f0) (a0_0.size : Int) := bt_at ((rd_T90 l0_4 0).f0) (a0_0.size : Int)
          replace p66 := eq_true p66
          replace q66 := eq_true q66
          have p68 : 0 ≤ ((a0_0.size : Int) : Int) := of_decide_eq_true (by first | (with_reducible assumption) | assumption)
          have q68 : (a0_0.size : Int) < (((rd_T90 l0_4 x7_2).f0).size : Int) := of_decide_eq_true (by first | (with_reducible assumption) | assumption)
          have hx68 : ∀ h_ : a0_0.size < (((rd_T90 l0_4 x7_2).f0)).size, (((((rd_T90 l0_4 x7_2).f0))[a0_0.size]'h_).toNat : Int) = bt ((rd_T90 l0_4 x7_2).f0) (a0_0.size : Int) := bt_at ((rd_T90 l0_4 x7_2).f0) (a0_0.size : Int)
          replace p68 := eq_true p68
          replace q68 := eq_true q68
          refine hK.out _ _ ⟨(blk_cell BK118.out 0).trans rfl, (blk_cell BK118.out 1).trans rfl, (blk_cell BK118.out 2).trans rfl, (blk_cell BK118.out 3).trans rfl, (blk_cell BK118.out 4).trans rfl, (blk_cell BK115.out 0).trans rfl, (blk_cell BK115.out 1).trans rfl, (blk_cell BK115.out 2).trans rfl, (blk_cell BK115.out 3).trans rfl, (blk_cell BK115.out 4).trans rfl, ((HB.out.cell (World.block_lt_of_cell? w _ hw120_0)).trans hw120_0), ((HB.out.cell (World.block_lt_of_cell? w _ hw120_1)).trans hw120_1), ((HB.out.cell (World.block_lt_of_cell? w _ hw120_2)).trans hw120_2), ((HB.out.cell (World.block_lt_of_cell? w _ hw120_3)).trans hw120_3), ((HB.out.cell (World.block_lt_of_cell? w _ hw120_4)).trans hw120_4)⟩ (fun hHeld => ?_)
          clear hK K
          refine norm_ (a' := ?_) ?_ ?_
          rotate_left
          · show Act.put _ (some 82) _ = _
            simp only [Act.put, List.setIfInBounds_toArray, List.set_cons_zero, List.set_cons_succ, i64_w, i32_w]
            rfl
          refine pv_ 5 83 HT_ (bm 44 63) ?_
          refine pv_ 6 84 HT_ (bm 44 127) ?_
          refine pv_ 7 85 HT_ (bm 44 255) ?_
          refine pv_ 10 88 HT_ (bm 44 1279) ?_
          refine tk_ 8 86 HT_ HW_ (bm 44 1535) hHeld ?_ (hy := Or.inl ⟨by rfl, by rintro w' ⟨s0, s1, s2, s3, s4, s5, s6, s7, s8, s9, s10, s11, s12, s13, s14⟩; go_simp; with_reducible rfl⟩)
          refine pv_ 9 87 HT_ (bm 44 2047) ?_
          refine tk_ 11 89 HT_ HW_ (bm 44 4095) hHeld ?_ (hy := Or.inl ⟨by rfl, by rintro w' ⟨s0, s1, s2, s3, s4, s5, s6, s7, s8, s9, s10, s11, s12, s13, s14⟩; go_simp; with_reducible rfl⟩)
          refine pv_ 12 90 HT_ (bm 44 8191) ?_
          refine pv_ 13 91 HT_ (bm 44 16383) ?_
          refine pv_ 14 92 HT_ (bm 44 32767) ?_
          refine pv_ 15 93 HT_ (bm 44 65535) ?_
          refine pv_ 16 94 HT_ (bm 44 131071) ?_
          refine pv_ 17 95 HT_ (bm 44 262143) ?_
          refine pv_ 18 96 HT_ (bm 44 524287) ?_
          refine pv_ 19 97 HT_ (bm 44 1048575) ?_
          refine pv_ 24 102 HT_ (bm 44 17825791) ?_
          refine pv_ 28 106 HT_ (bm 44 286261247) ?_
          refine pv_ 30 108 HT_ (bm 44 1360003071) ?_
          refine tk_ 20 98 HT_ HW_ (bm 44 1361051647) hHeld ?_ (hy := Or.inl ⟨by rfl, by rintro w' ⟨s0, s1, s2, s3, s4, s5, s6, s7, s8, s9, s10, s11, s12, s13, s14⟩; go_simp; with_reducible rfl⟩)
          refine pv_ 21 99 HT_ (bm 44 1363148799) ?_
          refine pv_ 22 100 HT_ (bm 44 1367343103) ?_
          refine tk_ 23 101 HT_ HW_ (bm 44 1375731711) hHeld ?_ (hy := Or.inl ⟨by rfl, by rintro w' ⟨s0, s1, s2, s3, s4, s5, s6, s7, s8, s9, s10, s11, s12, s13, s14⟩; go_simp; with_reducible rfl⟩)
          refine tk_ 25 103 HT_ HW_ (bm 44 1409286143) hHeld ?_ (hy := Or.inl ⟨by rfl, by rintro w' ⟨s0, s1, s2, s3, s4, s5, s6, s7, s8, s9, s10, s11, s12, s13, s14⟩; go_simp; with_reducible rfl⟩)
          refine pv_ 26 104 HT_ (bm 44 1476395007) ?_
          refine tk_ 27 105 HT_ HW_ (bm 44 1610612735) hHeld ?_ (hy := Or.inl ⟨by rfl, by rintro w' ⟨s0, s1, s2, s3, s4, s5, s6, s7, s8, s9, s10, s11, s12, s13, s14⟩; go_simp; with_reducible rfl⟩)
          refine tk_ 29 107 HT_ HW_ (bm 44 2147483647) hHeld ?_ (hy := Or.inl ⟨by rfl, by rintro w' ⟨s0, s1, s2, s3, s4, s5, s6, s7, s8, s9, s10, s11, s12, s13, s14⟩; go_simp; with_reducible rfl⟩)
          refine tk_ 31 109 HT_ HW_ (bm 44 4294967295) hHeld ?_ (hy := Or.inl ⟨by rfl, by rintro w' ⟨s0, s1, s2, s3, s4, s5, s6, s7, s8, s9, s10, s11, s12, s13, s14⟩; go_simp; with_reducible rfl⟩)
          refine pv_ 32 110 HT_ (bm 44 8589934591) ?_
          refine tk_ 33 111 HT_ HW_ (bm 44 17179869183) hHeld ?_ (hy := Or.inl ⟨by rfl, by rintro w' ⟨s0, s1, s2, s3, s4, s5, s6, s7, s8, s9, s10, s11, s12, s13, s14⟩; go_simp; with_reducible rfl⟩)
          refine pv_ 34 112 HT_ (bm 44 34359738367) ?_
          refine pv_ 35 113 HT_ (bm 44 68719476735) ?_
          refine pv_ 36 114 HT_ (bm 44 137438953471) ?_
          refine pv_ 37 115 HT_ (bm 44 274877906943) ?_
          refine pv_ 39 117 HT_ (bm 44 824633720831) ?_
          refine pv_ 40 118 HT_ (bm 44 1924145348607) ?_
          refine tk_ 38 116 HT_ HW_ (bm 44 2199023255551) hHeld ?_ (hy := Or.inl ⟨by rfl, by rintro w' ⟨s0, s1, s2, s3, s4, s5, s6, s7, s8, s9, s10, s11, s12, s13, s14⟩; go_simp; with_reducible rfl⟩)
          refine one_ (i := 41) (N := some 119) (bm 44 4398046511103) rfl rfl (one_of HT_.out (by kernel_rfl)) (by decide) (fun K hK => ?_)
          refine goes_ Try.func120 (by kernel_rfl) rfl #[.agg #[.string ((rd_T90 l0_4 x7_2).f0), .bool ((rd_T90 l0_4 x7_2).f1), .int .i64 ((rd_T90 l0_4 x7_2).f2), .int .i64 ((rd_T90 l0_4 x7_2).f3), .slice A117_4 ((rd_T90 l0_4 x7_2).f4).length c117_4], .bool false, .int .i64 (wrap64 (a2 + 1))] (by rfl) rfl rfl (by (try simp only [List.map_toArray, List.map_cons, List.map_nil]); first | done | rfl | (simp only [List.length_drop, List.length_take]; rfl)) ?_
          with_reducible refine (ih k2 (by have := HJ3.out; have := HK2.out; omega) ((rd_T90 l0_4 x7_2).f0) ((rd_T90 l0_4 x7_2).f1) ((rd_T90 l0_4 x7_2).f2) ((rd_T90 l0_4 x7_2).f3) _ _ ((rd_T90 l0_4 x7_2).f4) false (wrap64 (a2 + 1)) true _ ?side1 ?side2 A76.out).mono ?_
          (case side1 => repeat (first | exact (Kd.C_below HR117_4.out (Bx2 HB GE115 GE118)) | (with_reducible refine Kd.C_alloc ?_ _) | (with_reducible refine Kd.C_drewN ?_ _) | (with_reducible refine Kd.C_drew ?_)))
          (case side2 => exact HC117_4.out)
          rintro e w84 ⟨rfl, hb⟩
          refine ⟨_, rfl, ?_⟩
          have n0_ := Aside0.mk (blk_below (BKx BK115) hb)
          have n1_ := Aside0.mk (blk_below (BKx BK118) hb)
          have n2_ := Aside0.mk (below_step (Bx2 HB GE115 GE118) hb)
          clear BK115
          clear BK118
          clear HB
          have BK115 := n0_
          have BK118 := n1_
          have HB := n2_
          clear n0_ n1_ n2_
          (try clear hb)
          (try clear hb2)
          (try clear hk)
          (try clear hi)
          refine hK.out _ _ ⟨(blk_cell BK118.out 0).trans rfl, (blk_cell BK118.out 1).trans rfl, (blk_cell BK118.out 2).trans rfl, (blk_cell BK118.out 3).trans rfl, (blk_cell BK118.out 4).trans rfl, (blk_cell BK115.out 0).trans rfl, (blk_cell BK115.out 1).trans rfl, (blk_cell BK115.out 2).trans rfl, (blk_cell BK115.out 3).trans rfl, (blk_cell BK115.out 4).trans rfl, ((HB.out.cell (World.block_lt_of_cell? w _ hw120_0)).trans hw120_0), ((HB.out.cell (World.block_lt_of_cell? w _ hw120_1)).trans hw120_1), ((HB.out.cell (World.block_lt_of_cell? w _ hw120_2)).trans hw120_2), ((HB.out.cell (World.block_lt_of_cell? w _ hw120_3)).trans hw120_3), ((HB.out.cell (World.block_lt_of_cell? w _ hw120_4)).trans hw120_4)⟩ (fun hHeld => ?_)
          clear hK K
          refine norm_ (a' := ?_) ?_ ?_
          rotate_left
          · show Act.put _ (some 119) _ = _
            simp only [Act.put, List.setIfInBounds_toArray, List.set_cons_zero, List.set_cons_succ, i64_w, i32_w]
            rfl
          refine pv_ 42 120 HT_ (bm 44 8796093022207) ?_
          refine pv_ 43 121 HT_ (bm 44 17592186044415) ?_
          refine done_ (done_of HT_.out (by kernel_rfl)) ?_
          try go_wp2
          go_roundg k2
          case measure => have := HJ3.out; have := HK2.out; omega
          case rel => exact ⟨(wrap64 (x7_2 + 1)), (by first | rfl | (simp; done) | (simp [*]; done)), H', ⟨by have := HJ3.out; have := HK2.out; omega⟩, ⟨by (with_reducible repeat (first | refine blk_drewN ?_ _ | refine blk_drew ?_ | refine blk_alloc ?_ _)); exact BK115.out⟩, ⟨Bx2 HB GE115 GE118⟩⟩
end Go.Proofs.Ythknoffionodmaa.QFnExactNodeOK

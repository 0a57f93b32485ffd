-- written by a program of this session
import Derived.Test.YtjfpkfophfelmaaVStep
import Derived.Test.YtjfpkfophfelmaaQFnExactBoxesOKx0
import Derived.Test.YtjfpkfophfelmaaQFnExactBoxesOKx1
import Derived.Test.YtjfpkfophfelmaaQFnExactBoxesOKx2
namespace Go.Proofs.Ytjfpkfophfelmaa.QFnExactBoxesOK
open Go.RowKit Go.Proofs.YtjfpkfophfelmaaV.PrintWords Go.Proofs.YtjfpkfophfelmaaV.PrintLast Go.Proofs.YtjfpkfophfelmaaV.PrintMore
attribute [local go_sem] max2_int min2_int max_two min_two max_three min_three max_four min_four   -- for this text's walks alone
set_option linter.unusedVariables false
set_option linter.unusedSimpArgs false

/-! ### spec_BoxesOK: function 66 -/
mutual
def spec_BoxesOK.l0 : Nat → List (S140) → Int → Option (Bool)
  | 0, _, _ => none
  | k + 1, x0, x3 => if x3 < (x0.length : Int) then (if 0 ≤ x3 then (if (((rd_T140 x0 x3).f0).size : Int) = 4 then (if (((rd_T140 x0 x3).f1).size : Int) = 4 then ((spec_l01In.f ((rd_T140 x0 x3).f2) 0 65535).bind fun t120 => (if t120 = true then ((spec_l01In.f ((rd_T140 x0 x3).f3) 0 255).bind fun t121 => (if t121 = true then ((spec_l01In.f ((rd_T140 x0 x3).f4) 0 1000030).bind fun t122 => (if t122 = true then (if (((rd_T140 x0 x3).f5).length : Int) = 0 then (spec_BoxesOK.j1 k x0 x3 true ((rd_T140 x0 x3).f0) ((rd_T140 x0 x3).f1) ((rd_T140 x0 x3).f2) ((rd_T140 x0 x3).f3) ((rd_T140 x0 x3).f4) ((rd_T140 x0 x3).f5)) else (if (((rd_T140 x0 x3).f5).length : Int) > 12 then (spec_BoxesOK.j1 k x0 x3 true ((rd_T140 x0 x3).f0) ((rd_T140 x0 x3).f1) ((rd_T140 x0 x3).f2) ((rd_T140 x0 x3).f3) ((rd_T140 x0 x3).f4) ((rd_T140 x0 x3).f5)) else (if x3 ≤ (x0.length : Int) then ((spec_l03Find.f k (x0.take (x3 : Int).toNat) ((rd_T140 x0 x3).f0) ((rd_T140 x0 x3).f1) ((rd_T140 x0 x3).f2) ((rd_T140 x0 x3).f3) ((rd_T140 x0 x3).f4) ((rd_T140 x0 x3).f5)).bind fun t127 => (spec_BoxesOK.j1 k x0 x3 (decide (t127 ≥ 0)) ((rd_T140 x0 x3).f0) ((rd_T140 x0 x3).f1) ((rd_T140 x0 x3).f2) ((rd_T140 x0 x3).f3) ((rd_T140 x0 x3).f4) ((rd_T140 x0 x3).f5))) else (none)))) else (spec_BoxesOK.j1 k x0 x3 true ((rd_T140 x0 x3).f0) ((rd_T140 x0 x3).f1) ((rd_T140 x0 x3).f2) ((rd_T140 x0 x3).f3) ((rd_T140 x0 x3).f4) ((rd_T140 x0 x3).f5)))) else (spec_BoxesOK.j1 k x0 x3 true ((rd_T140 x0 x3).f0) ((rd_T140 x0 x3).f1) ((rd_T140 x0 x3).f2) ((rd_T140 x0 x3).f3) ((rd_T140 x0 x3).f4) ((rd_T140 x0 x3).f5)))) else (spec_BoxesOK.j1 k x0 x3 true ((rd_T140 x0 x3).f0) ((rd_T140 x0 x3).f1) ((rd_T140 x0 x3).f2) ((rd_T140 x0 x3).f3) ((rd_T140 x0 x3).f4) ((rd_T140 x0 x3).f5)))) else (spec_BoxesOK.j1 k x0 x3 true ((rd_T140 x0 x3).f0) ((rd_T140 x0 x3).f1) ((rd_T140 x0 x3).f2) ((rd_T140 x0 x3).f3) ((rd_T140 x0 x3).f4) ((rd_T140 x0 x3).f5))) else (spec_BoxesOK.j1 k x0 x3 true ((rd_T140 x0 x3).f0) ((rd_T140 x0 x3).f1) ((rd_T140 x0 x3).f2) ((rd_T140 x0 x3).f3) ((rd_T140 x0 x3).f4) ((rd_T140 x0 x3).f5))) else (none)) else (some true)
def spec_BoxesOK.j1 : Nat → List (S140) → Int → Bool → ByteArray → ByteArray → Int → Int → Int → List (S143) → Option (Bool)
  | 0, _, _, _, _, _, _, _, _, _ => none
  | k + 1, x0, x3, x68, x120000, x120001, x120002, x120003, x120004, x120005 => if x68 = true then (some false) else (spec_BoxesOK.l1 k x0 x3 0 0 x120000 x120001 x120002 x120003 x120004 x120005)
def spec_BoxesOK.l1 : Nat → List (S140) → Int → Int → Int → ByteArray → ByteArray → Int → Int → Int → List (S143) → Option (Bool)
  | 0, _, _, _, _, _, _, _, _, _, _ => none
  | k + 1, x0, x3, x5, x6, x120000, x120001, x120002, x120003, x120004, x120005 => if x6 < (x120005.length : Int) then (if 0 ≤ x6 then (if ((rd_T143 x120005 x6).f0) < x5 then (some false) else (if (Int.tmod ((rd_T143 x120005 x6).f0) 8) = 0 then (if (((rd_T143 x120005 x6).f2).length : Int) > 1500 then (some false) else (if ((rd_T143 x120005 x6).f0) > (wrap64 (65515 - (((rd_T143 x120005 x6).f2).length : Int))) then (some false) else (if (rd_T143 x120005 x6).f1 = true then (if x6 < (wrap64 ((x120005.length : Int) - 1)) then (some false) else (if ((rd_T143 x120005 x6).f1 = true) then (spec_BoxesOK.l1 k x0 x3 (wrap64 (((rd_T143 x120005 x6).f0) + (((rd_T143 x120005 x6).f2).length : Int))) (wrap64 (x6 + 1)) x120000 x120001 x120002 x120003 x120004 x120005) else (if ((((rd_T143 x120005 x6).f2).length : Int) % 8) = 0 then (if (((rd_T143 x120005 x6).f2).length : Int) = 0 then (some false) else (spec_BoxesOK.l1 k x0 x3 (wrap64 (((rd_T143 x120005 x6).f0) + (((rd_T143 x120005 x6).f2).length : Int))) (wrap64 (x6 + 1)) x120000 x120001 x120002 x120003 x120004 x120005)) else (some false)))) else (if ((rd_T143 x120005 x6).f1 = true) then (spec_BoxesOK.l1 k x0 x3 (wrap64 (((rd_T143 x120005 x6).f0) + (((rd_T143 x120005 x6).f2).length : Int))) (wrap64 (x6 + 1)) x120000 x120001 x120002 x120003 x120004 x120005) else (if ((((rd_T143 x120005 x6).f2).length : Int) % 8) = 0 then (if (((rd_T143 x120005 x6).f2).length : Int) = 0 then (some false) else (spec_BoxesOK.l1 k x0 x3 (wrap64 (((rd_T143 x120005 x6).f0) + (((rd_T143 x120005 x6).f2).length : Int))) (wrap64 (x6 + 1)) x120000 x120001 x120002 x120003 x120004 x120005)) else (some false)))))) else (some false))) else (none)) else ((spec_l03Whole.f k x120000 x120001 x120002 x120003 x120004 x120005).bind fun t130 => (if t130 = true then (some false) else (spec_BoxesOK.l0 k x0 (wrap64 (x3 + 1)))))
end
def spec_BoxesOK.f (k : Nat) (l0 : List (S140)) : Option (Bool) := if (l0.length : Int) > 6 then (some false) else (spec_BoxesOK.l0 k l0 0)
theorem spec_BoxesOK.mono_l : ∀ k, (∀ y0 y1, LeO (spec_BoxesOK.l0 k y0 y1) (spec_BoxesOK.l0 (k + 1) y0 y1)) ∧ (∀ y0 y1 y2 y3 y4 y5 y6 y7 y8, LeO (spec_BoxesOK.j1 k y0 y1 y2 y3 y4 y5 y6 y7 y8) (spec_BoxesOK.j1 (k + 1) y0 y1 y2 y3 y4 y5 y6 y7 y8)) ∧ (∀ y0 y1 y2 y3 y4 y5 y6 y7 y8 y9, LeO (spec_BoxesOK.l1 k y0 y1 y2 y3 y4 y5 y6 y7 y8 y9) (spec_BoxesOK.l1 (k + 1) y0 y1 y2 y3 y4 y5 y6 y7 y8 y9))
  | 0 => ⟨fun _ _ r h => by simp [spec_BoxesOK.l0] at h, fun _ _ _ _ _ _ _ _ _ r h => by simp [spec_BoxesOK.j1] at h, fun _ _ _ _ _ _ _ _ _ _ r h => by simp [spec_BoxesOK.l1] at h⟩
  | k + 1 => by
    obtain ⟨ih0, ih1, ih2⟩ := spec_BoxesOK.mono_l k
    refine ⟨?_, ?_, ?_⟩
    · intro y0 y1
      unfold spec_BoxesOK.l0
      repeat' first
      | (with_reducible exact ih0 _ _)
      | (with_reducible exact ih1 _ _ _ _ _ _ _ _ _)
      | (with_reducible exact ih2 _ _ _ _ _ _ _ _ _ _)
      | (with_reducible exact spec_l03Find.mono _ _ _ _ _ _ _ _)
      | (with_reducible exact spec_l03Whole.mono _ _ _ _ _ _ _)
      | (with_reducible exact LeO.refl _)
      | (with_reducible exact LeO.none _)
      | (with_reducible refine LeO.ite ?_ ?_)
      | (with_reducible refine LeO.bind ?_ (fun _ => ?_))
      | exact ih0 _ _
      | exact ih1 _ _ _ _ _ _ _ _ _
      | exact ih2 _ _ _ _ _ _ _ _ _ _
      | exact spec_l03Find.mono _ _ _ _ _ _ _ _
      | exact spec_l03Whole.mono _ _ _ _ _ _ _
      | exact LeO.none _
      | refine LeO.ite ?_ ?_
      | refine LeO.bind ?_ (fun _ => ?_)
    · intro y0 y1 y2 y3 y4 y5 y6 y7 y8
      unfold spec_BoxesOK.j1
      repeat' first
      | (with_reducible exact ih0 _ _)
      | (with_reducible exact ih1 _ _ _ _ _ _ _ _ _)
      | (with_reducible exact ih2 _ _ _ _ _ _ _ _ _ _)
      | (with_reducible exact spec_l03Find.mono _ _ _ _ _ _ _ _)
      | (with_reducible exact spec_l03Whole.mono _ _ _ _ _ _ _)
      | (with_reducible exact LeO.refl _)
      | (with_reducible exact LeO.none _)
      | (with_reducible refine LeO.ite ?_ ?_)
      | (with_reducible refine LeO.bind ?_ (fun _ => ?_))
      | exact ih0 _ _
      | exact ih1 _ _ _ _ _ _ _ _ _
      | exact ih2 _ _ _ _ _ _ _ _ _ _
      | exact spec_l03Find.mono _ _ _ _ _ _ _ _
      | exact spec_l03Whole.mono _ _ _ _ _ _ _
      | exact LeO.none _
      | refine LeO.ite ?_ ?_
      | refine LeO.bind ?_ (fun _ => ?_)
    · intro y0 y1 y2 y3 y4 y5 y6 y7 y8 y9
      unfold spec_BoxesOK.l1
      repeat' first
      | (with_reducible exact ih0 _ _)
      | (with_reducible exact ih1 _ _ _ _ _ _ _ _ _)
      | (with_reducible exact ih2 _ _ _ _ _ _ _ _ _ _)
      | (with_reducible exact spec_l03Find.mono _ _ _ _ _ _ _ _)
      | (with_reducible exact spec_l03Whole.mono _ _ _ _ _ _ _)
      | (with_reducible exact LeO.refl _)
      | (with_reducible exact LeO.none _)
      | (with_reducible refine LeO.ite ?_ ?_)
      | (with_reducible refine LeO.bind ?_ (fun _ => ?_))
      | exact ih0 _ _
      | exact ih1 _ _ _ _ _ _ _ _ _
      | exact ih2 _ _ _ _ _ _ _ _ _ _
      | exact spec_l03Find.mono _ _ _ _ _ _ _ _
      | exact spec_l03Whole.mono _ _ _ _ _ _ _
      | exact LeO.none _
      | refine LeO.ite ?_ ?_
      | refine LeO.bind ?_ (fun _ => ?_)
theorem spec_BoxesOK.mono : ∀ a0 k, LeO (spec_BoxesOK.f k a0) (spec_BoxesOK.f (k + 1) a0) := by
  intro a0 k
  obtain ⟨ih0, ih1, ih2⟩ := spec_BoxesOK.mono_l k
  unfold spec_BoxesOK.f
  repeat' first
      | (with_reducible exact ih0 _ _)
      | (with_reducible exact ih1 _ _ _ _ _ _ _ _ _)
      | (with_reducible exact ih2 _ _ _ _ _ _ _ _ _ _)
      | (with_reducible exact spec_l03Find.mono _ _ _ _ _ _ _ _)
      | (with_reducible exact spec_l03Whole.mono _ _ _ _ _ _ _)
      | (with_reducible exact LeO.refl _)
      | (with_reducible exact LeO.none _)
      | (with_reducible refine LeO.ite ?_ ?_)
      | (with_reducible refine LeO.bind ?_ (fun _ => ?_))
      | exact ih0 _ _
      | exact ih1 _ _ _ _ _ _ _ _ _
      | exact ih2 _ _ _ _ _ _ _ _ _ _
      | exact spec_l03Find.mono _ _ _ _ _ _ _ _
      | exact spec_l03Whole.mono _ _ _ _ _ _ _
      | exact LeO.none _
      | refine LeO.ite ?_ ?_
      | refine LeO.bind ?_ (fun _ => ?_)
def spec_BoxesOK.T7 : Bool × List (List Nat × List Nat) := (true, [([], []), ([0], [0]), ([1], [1]), ([2], [2]), ([3], [3]), ([4], [4]), ([5, 4], [4, 5]), ([6, 4], [4, 6]), ([7, 4], [4, 7]), ([4, 8], [4, 8]), ([9, 4], [9]), ([10], [10]), ([11, 10], [10, 11]), ([12, 10, 10], [10, 12]), ([13, 10], [10, 13]), ([10, 14], [10, 14]), ([15, 13], [15]), ([16], [16]), ([17, 16], [16, 17]), ([18, 16, 16], [16, 18]), ([19, 16], [16, 19]), ([16, 20], [16, 20]), ([21, 19], [21]), ([22], [22]), ([23, 22], [22, 23]), ([24, 22, 22], [22, 24]), ([25, 22], [22, 25]), ([22, 26], [22, 26]), ([27, 25], [27]), ([28], [28]), ([29, 28], [28, 29]), ([30, 28], [28, 30]), ([31, 28], [28, 31]), ([28, 32], [28, 32]), ([33, 28], [33]), ([34], [34]), ([35, 34], [34, 35]), ([36, 34], [34, 36]), ([37, 34], [34, 37]), ([34, 38], [34, 38]), ([39, 34], [39]), ([40], [40]), ([40], [40]), ([41, 42, 40], [40, 41, 42]), ([40], [40]), ([43, 44, 40, 40], [40, 43, 44]), ([45, 40], [40, 45]), ([40, 46], [40, 46])])
def spec_BoxesOK.B7 : List Nat := [0, 1, 3, 7, 15, 31, 63, 127, 255, 511, 1023, 2047, 4095, 8191, 16383, 32767, 65535, 131071, 262143, 524287, 1048575, 2097151, 4194303, 8388607, 16777215, 33554431, 67108863, 134217727, 268435455, 536870911, 1073741823, 2147483647, 4294967295, 8589934591, 17179869183, 34359738367, 68719476735, 137438953471, 274877906943, 549755813887, 1099511627775, 2199023255551, 2199023255551, 8796093022207, 2199023255551, 35184372088831, 70368744177663, 140737488355327]
theorem spec_BoxesOK.tab7 : rtab .any (opsOf Try.f66 7) = spec_BoxesOK.T7 := by kernel_rfl
theorem spec_BoxesOK.bits7 : waitsOk spec_BoxesOK.T7.2 spec_BoxesOK.B7 = true := by kernel_rfl
set_option maxHeartbeats 8000000 in
set_option maxRecDepth 100000 in
theorem spec_BoxesOK.calls (k : Nat) (A0 : Option Addr) (c0 : Nat) (l0 : List (S140)) (r : Bool) (w : World) (hr0 : Kd.C k140 w A0 l0.length l0) (hc0 : l0.length ≤ c0) (h : spec_BoxesOK.f k l0 = some r) :
    Calls Try.prog 66 #[.slice A0 l0.length c0] w fun e w' => e = .returned (.bool r) ∧ Below w.heap.size w w' := by
  have hu140 := Try.underlying140
  have hu143 := Try.underlying143
  have HR0 := Aside0.mk hr0
  have HC0 := Aside0.mk hc0
  clear hr0 hc0
  have HB := Aside0.mk (Below.refl w.heap.size w)
  have H : (if (l0.length : Int) > 6 then (some false) else (spec_BoxesOK.l0 k l0 0)) = some r := h
  clear h
  by_cases c2 : (l0.length : Int) > 6
  · rw [if_pos c2] at H
    have c2b0 : decide (6 < (l0.length : Int)) = true := decide_eq_true c2
    have c2b1 : decide (6 < l0.length) = true := decide_eq_true (by omega)
    clear c2
    obtain rfl := Option.some.inj H
    go_enter Try.func66, Try.ntmps66
    go_wp2
    go_ret
    exact ⟨by first | rfl | (simp [errW_none, errW_some] <;> rfl) | (simp [*, errW_none, errW_some] <;> rfl), by repeat (first | (with_reducible first | exact HB.out | apply below_alloc | apply pw_below_drewN | apply below_drew1) | exact HB.out)⟩
  rw [if_neg c2] at H
  have c2b0 : decide (6 < (l0.length : Int)) = false := decide_eq_false c2
  have c2b1 : decide (6 < l0.length) = false := decide_eq_false (by omega)
  clear c2
  have H' := Aside0.mk H
  clear H
  go_enter Try.func66, Try.ntmps66
  go_wp2
  go_loopg [3] k (fun kq v3 w' => ∃ (x3_1 : Int), v3 = .int .i64 x3_1 ∧ Aside0 (spec_BoxesOK.l0 kq l0 x3_1 = some r) ∧ Aside0 (kq ≤ k) ∧ Aside0 (Below w.heap.size w w'))
  case atStart => exact ⟨(0), (by first | rfl | (simp; done) | (simp [*]; done)), H', ⟨Nat.le_refl _⟩, ⟨by repeat (first | (with_reducible first | exact HB.out | apply below_alloc | apply pw_below_drewN | apply below_drew1) | exact HB.out)⟩⟩
  case round =>
    clear H'
    try clear c2
    try clear c2b0
    try clear c2b1
    try clear p2
    obtain ⟨x3_1, rfl, HA, HK1, HB⟩ := hrel
    cases gk with
    | zero => exact absurd HA.out (by simp [spec_BoxesOK.l0])
    | succ k1 =>
      have H := HA.out
      clear HA
      simp only [spec_BoxesOK.l0] at H
      by_cases c3 : x3_1 < (l0.length : Int)
      rotate_left
      · rw [if_neg c3] at H
        have c3b0 : decide (x3_1 < (l0.length : Int)) = false := decide_eq_false c3
        clear c3
        obtain rfl := Option.some.inj H
        go_wp2
        go_ret
        exact ⟨by first | rfl | (simp [errW_none, errW_some] <;> rfl) | (simp [*, errW_none, errW_some] <;> rfl), by repeat (first | (with_reducible first | exact HB.out | apply below_alloc | apply pw_below_drewN | apply below_drew1) | exact HB.out)⟩

      rw [if_pos c3] at H
      have c3b0 : decide (x3_1 < (l0.length : Int)) = true := decide_eq_true c3
      clear c3
      by_cases c4 : 0 ≤ x3_1
      rotate_left
      · rw [if_neg c4] at H
        exact absurd H (by simp)
      rw [if_pos c4] at H
      have c4b0 : decide (0 ≤ x3_1) = true := decide_eq_true c4
      clear c4
      have HC5 := Aside0.mk H
      clear H
      have p118 : 0 ≤ (x3_1 : Int) := of_decide_eq_true (by first | (with_reducible assumption) | assumption)
      have q118 : x3_1 < (l0.length : Int) := of_decide_eq_true (by first | (with_reducible assumption) | assumption)
      obtain ⟨ad118, A118_5, c118_5, e118, hx118_0, hx118_1, hx118_2, hx118_3, hx118_4, hx118_5, hl118_5, hi118_5⟩ := at_T140 HR0.out x3_1 p118 q118
      cases e118
      replace hx118_0 := (HB.out.cell (World.block_lt_of_cell? w _ hx118_0)).trans hx118_0
      replace hx118_1 := (HB.out.cell (World.block_lt_of_cell? w _ hx118_1)).trans hx118_1
      replace hx118_2 := (HB.out.cell (World.block_lt_of_cell? w _ hx118_2)).trans hx118_2
      replace hx118_3 := (HB.out.cell (World.block_lt_of_cell? w _ hx118_3)).trans hx118_3
      replace hx118_4 := (HB.out.cell (World.block_lt_of_cell? w _ hx118_4)).trans hx118_4
      replace hx118_5 := (HB.out.cell (World.block_lt_of_cell? w _ hx118_5)).trans hx118_5
      have HR118_5 := Aside0.mk hi118_5
      have HC118_5 := Aside0.mk hl118_5
      clear hi118_5 hl118_5
      replace p118 := eq_true p118
      replace q118 := eq_true q118
      go_upto_region 7 with (first | ((with_reducible refine gate_dst (N := 4) rfl ?_); refine box_event ?hg (N := 4) ?hd (cs := #[.string (⟨#[]⟩ : ByteArray), .string (⟨#[]⟩ : ByteArray), .int .i64 0, .int .i64 0, .int .i64 0, .slice none 0 0]) (t := 140) ?hr ?_; (case hd => rfl); (case hg => rfl); (case hr => first | (go_simp; done) | (go_simp; rfl)); intro gb119 hg w6 hbox hb; have n0_ := Aside0.mk (below_step (by repeat (first | (with_reducible first | exact HB.out | apply below_alloc | apply pw_below_drewN | apply below_drew1) | exact HB.out)) hb); have n1_ := Aside0.mk (hbox); have n2_ := Aside0.mk ((by rw [hg]; exact (below_size (by repeat (first | (with_reducible first | exact HB.out | apply below_alloc | apply pw_below_drewN | apply below_drew1) | exact HB.out))) : w.heap.size ≤ gb119)); have n3_ := Aside0.mk ((by rw [hg]; exact (below_size (by repeat (first | (with_reducible first | exact HB.out | apply below_alloc | apply pw_below_drewN | apply below_drew1) | exact HB.out))) : w.heap.size ≤ gb119)); clear HB; have HB := n0_; have BK119 := n1_; have GW119 := n2_; have GE119 := n3_; clear n0_ n1_ n2_ n3_; clear hb hbox hg; have hcz7_0 : w6.cell? ⟨gb119, 0, none⟩ = some (.string (⟨#[]⟩ : ByteArray)) := (blk_cell BK119.out 0).trans rfl; have hcz7_1 : w6.cell? ⟨gb119, 1, none⟩ = some (.string (⟨#[]⟩ : ByteArray)) := (blk_cell BK119.out 1).trans rfl; have hcz7_2 : w6.cell? ⟨gb119, 2, none⟩ = some (.int .i64 0) := (blk_cell BK119.out 2).trans rfl; have hcz7_3 : w6.cell? ⟨gb119, 3, none⟩ = some (.int .i64 0) := (blk_cell BK119.out 3).trans rfl; have hcz7_4 : w6.cell? ⟨gb119, 4, none⟩ = some (.int .i64 0) := (blk_cell BK119.out 4).trans rfl; have hcz7_5 : w6.cell? ⟨gb119, 5, none⟩ = some (.slice none 0 0) := (blk_cell BK119.out 5).trans rfl; have hfz7_0 := blk_frozen BK119.out 0; have hfz7_1 := blk_frozen BK119.out 1; have hfz7_2 := blk_frozen BK119.out 2; have hfz7_3 := blk_frozen BK119.out 3; have hfz7_4 := blk_frozen BK119.out 4; have hfz7_5 := blk_frozen BK119.out 5))
      (try simp only [Act.put, List.setIfInBounds_toArray, List.set_cons_zero, List.set_cons_succ])
      go_cut [68] (fun v68 wc => ∃ (kq : Nat) (x68_4 : Bool), v68 = .bool x68_4 ∧ Aside0 (spec_BoxesOK.j1 kq l0 x3_1 x68_4 ((rd_T140 l0 x3_1).f0) ((rd_T140 l0 x3_1).f1) ((rd_T140 l0 x3_1).f2) ((rd_T140 l0 x3_1).f3) ((rd_T140 l0 x3_1).f4) ((rd_T140 l0 x3_1).f5) = some r) ∧ Aside0 (kq ≤ k1) ∧ Aside0 (wc.heap[gb119]? = some (.cells #[.string ((rd_T140 l0 x3_1).f0), .string ((rd_T140 l0 x3_1).f1), .int .i64 ((rd_T140 l0 x3_1).f2), .int .i64 ((rd_T140 l0 x3_1).f3), .int .i64 ((rd_T140 l0 x3_1).f4), (.slice A118_5 ((rd_T140 l0 x3_1).f5).length c118_5)] 140 (0, 0))) ∧ Aside0 (Below w.heap.size w wc))
      case first =>
        have H := HC5.out
        clear HC5
        by_cases c8 : (((rd_T140 l0 x3_1).f0).size : Int) = 4
        rotate_left
        · rw [if_neg c8] at H
          have c8b0 : ((((rd_T140 l0 x3_1).f0).size : Int) == 4) = false := beq_eq_false_iff_ne.mpr c8
          have c8b1 : ((((rd_T140 l0 x3_1).f0).size : Int) != 4) = true := bne_iff_ne.mpr c8
          (first | rw [c8b0] | (simp only [i64_w, i32_w]; rw [c8b0]) | skip)
          have H' := Aside0.mk H
          clear H
          try go_wp2
          have n0_ : Aside0 (((((((w6.setCell ⟨gb119, 0, none⟩ (.string ((rd_T140 l0 x3_1).f0))).setCell ⟨gb119, 1, none⟩ (.string ((rd_T140 l0 x3_1).f1))).setCell ⟨gb119, 2, none⟩ (.int .i64 ((rd_T140 l0 x3_1).f2))).setCell ⟨gb119, 3, none⟩ (.int .i64 ((rd_T140 l0 x3_1).f3))).setCell ⟨gb119, 4, none⟩ (.int .i64 ((rd_T140 l0 x3_1).f4))).setCell ⟨gb119, 5, none⟩ (.slice A118_5 ((rd_T140 l0 x3_1).f5).length c118_5)).heap[gb119]? = some (.cells #[.string ((rd_T140 l0 x3_1).f0), .string ((rd_T140 l0 x3_1).f1), .int .i64 ((rd_T140 l0 x3_1).f2), .int .i64 ((rd_T140 l0 x3_1).f3), .int .i64 ((rd_T140 l0 x3_1).f4), .slice A118_5 ((rd_T140 l0 x3_1).f5).length c118_5] 140 (0, 0))) := ⟨by (with_reducible repeat (first | refine blk_drewN ?_ _ | refine blk_drew ?_ | refine blk_alloc ?_ _)); refine blk_put (cs := #[.string ((rd_T140 l0 x3_1).f0), .string ((rd_T140 l0 x3_1).f1), .int .i64 ((rd_T140 l0 x3_1).f2), .int .i64 ((rd_T140 l0 x3_1).f3), .int .i64 ((rd_T140 l0 x3_1).f4), .slice none 0 0]) ?_ 5 _ rfl; (with_reducible repeat (first | refine blk_drewN ?_ _ | refine blk_drew ?_ | refine blk_alloc ?_ _)); refine blk_put (cs := #[.string ((rd_T140 l0 x3_1).f0), .string ((rd_T140 l0 x3_1).f1), .int .i64 ((rd_T140 l0 x3_1).f2), .int .i64 ((rd_T140 l0 x3_1).f3), .int .i64 0, .slice none 0 0]) ?_ 4 _ rfl; (with_reducible repeat (first | refine blk_drewN ?_ _ | refine blk_drew ?_ | refine blk_alloc ?_ _)); refine blk_put (cs := #[.string ((rd_T140 l0 x3_1).f0), .string ((rd_T140 l0 x3_1).f1), .int .i64 ((rd_T140 l0 x3_1).f2), .int .i64 0, .int .i64 0, .slice none 0 0]) ?_ 3 _ rfl; (with_reducible repeat (first | refine blk_drewN ?_ _ | refine blk_drew ?_ | refine blk_alloc ?_ _)); refine blk_put (cs := #[.string ((rd_T140 l0 x3_1).f0), .string ((rd_T140 l0 x3_1).f1), .int .i64 0, .int .i64 0, .int .i64 0, .slice none 0 0]) ?_ 2 _ rfl; (with_reducible repeat (first | refine blk_drewN ?_ _ | refine blk_drew ?_ | refine blk_alloc ?_ _)); refine blk_put (cs := #[.string ((rd_T140 l0 x3_1).f0), .string (⟨#[]⟩ : ByteArray), .int .i64 0, .int .i64 0, .int .i64 0, .slice none 0 0]) ?_ 1 _ rfl; (with_reducible repeat (first | refine blk_drewN ?_ _ | refine blk_drew ?_ | refine blk_alloc ?_ _)); refine blk_put (cs := #[.string (⟨#[]⟩ : ByteArray), .string (⟨#[]⟩ : ByteArray), .int .i64 0, .int .i64 0, .int .i64 0, .slice none 0 0]) ?_ 0 _ rfl; (with_reducible repeat (first | refine blk_drewN ?_ _ | refine blk_drew ?_ | refine blk_alloc ?_ _)); exact BK119.out⟩
          have n1_ : Aside0 (Below w.heap.size w ((((((w6.setCell ⟨gb119, 0, none⟩ (.string ((rd_T140 l0 x3_1).f0))).setCell ⟨gb119, 1, none⟩ (.string ((rd_T140 l0 x3_1).f1))).setCell ⟨gb119, 2, none⟩ (.int .i64 ((rd_T140 l0 x3_1).f2))).setCell ⟨gb119, 3, none⟩ (.int .i64 ((rd_T140 l0 x3_1).f3))).setCell ⟨gb119, 4, none⟩ (.int .i64 ((rd_T140 l0 x3_1).f4))).setCell ⟨gb119, 5, none⟩ (.slice A118_5 ((rd_T140 l0 x3_1).f5).length c118_5))) := ⟨by repeat (first | (with_reducible first | exact HB.out | apply below_alloc | apply pw_below_drewN | apply below_drew1 | refine below_set ?_ GE119.out) | exact HB.out)⟩
          (try clear BK119)
          (try clear HB)
          generalize ((((((w6.setCell ⟨gb119, 0, none⟩ (.string ((rd_T140 l0 x3_1).f0))).setCell ⟨gb119, 1, none⟩ (.string ((rd_T140 l0 x3_1).f1))).setCell ⟨gb119, 2, none⟩ (.int .i64 ((rd_T140 l0 x3_1).f2))).setCell ⟨gb119, 3, none⟩ (.int .i64 ((rd_T140 l0 x3_1).f3))).setCell ⟨gb119, 4, none⟩ (.int .i64 ((rd_T140 l0 x3_1).f4))).setCell ⟨gb119, 5, none⟩ (.slice A118_5 ((rd_T140 l0 x3_1).f5).length c118_5)) = w37 at n0_ n1_ ⊢
          have BK119 := n0_
          have HB := n1_
          clear n0_ n1_
          have n0_ := Aside0.mk (blk_drew BK119.out)
          have n1_ := Aside0.mk (below_drew1 HB.out)
          clear BK119
          clear HB
          have BK119 := n0_
          have HB := n1_
          clear n0_ n1_
          refine start_ (n := 48) (S := fun w' => w'.cell? ⟨gb119, 0, none⟩ = some (.string ((rd_T140 l0 x3_1).f0)) ∧ w'.cell? ⟨gb119, 1, none⟩ = some (.string ((rd_T140 l0 x3_1).f1)) ∧ w'.cell? ⟨gb119, 2, none⟩ = some (.int .i64 ((rd_T140 l0 x3_1).f2)) ∧ w'.cell? ⟨gb119, 3, none⟩ = some (.int .i64 ((rd_T140 l0 x3_1).f3)) ∧ w'.cell? ⟨gb119, 4, none⟩ = some (.int .i64 ((rd_T140 l0 x3_1).f4)) ∧ w'.cell? ⟨gb119, 5, none⟩ = some (.slice A118_5 ((rd_T140 l0 x3_1).f5).length c118_5)) (ds := []) _ (by kernel_rfl) rfl rfl ⟨(blk_cell BK119.out 0).trans rfl, (blk_cell BK119.out 1).trans rfl, (blk_cell BK119.out 2).trans rfl, (blk_cell BK119.out 3).trans rfl, (blk_cell BK119.out 4).trans rfl, (blk_cell BK119.out 5).trans rfl⟩ (fun hHeld => ?_); refine with_tabW spec_BoxesOK.tab7 spec_BoxesOK.bits7 (fun HT_ HW_ => ?_)
          generalize w37.drew = w38 at BK119 HB hHeld ⊢
          refine pv_ 0 21 HT_ (bm 48 1) ?_
          refine tk_ 1 22 HT_ HW_ (bm 48 3) hHeld ?_ (hy := Or.inl ⟨by rfl, by rintro w' ⟨s0, s1, s2, s3, s4, s5⟩; go_simp; with_reducible rfl⟩)
          refine pv_ 2 23 HT_ (bm 48 7) ?_
          refine pv_ 3 24 HT_ (bm 48 15) ?_
          refine pv_ 4 25 HT_ (bm 48 31) ?_
          refine pw_ 5 26 HT_ (bm 48 63) ?_
          refine pw_ 6 27 HT_ (bm 48 127) ?_
          refine pw_ 7 28 HT_ (bm 48 255) ?_
          refine pw_ 8 29 HT_ (bm 48 511) ?_
          refine pv_ 9 30 HT_ (bm 48 1023) ?_
          refine pv_ 10 31 HT_ (bm 48 2047) ?_
          refine pw_ 11 32 HT_ (bm 48 4095) ?_
          refine pw_ 12 33 HT_ (bm 48 8191) ?_
          refine pw_ 13 34 HT_ (bm 48 16383) ?_
          refine pw_ 14 35 HT_ (bm 48 32767) ?_
          refine pv_ 15 36 HT_ (bm 48 65535) ?_
          refine pv_ 16 37 HT_ (bm 48 131071) ?_
          refine pw_ 17 38 HT_ (bm 48 262143) ?_
          refine pw_ 18 39 HT_ (bm 48 524287) ?_
          refine pw_ 19 40 HT_ (bm 48 1048575) ?_
          refine pw_ 20 41 HT_ (bm 48 2097151) ?_
          refine pv_ 21 42 HT_ (bm 48 4194303) ?_
          refine pv_ 22 43 HT_ (bm 48 8388607) ?_
          refine pw_ 23 44 HT_ (bm 48 16777215) ?_
          refine pw_ 24 45 HT_ (bm 48 33554431) ?_
          refine pw_ 25 46 HT_ (bm 48 67108863) ?_
          refine pw_ 26 47 HT_ (bm 48 134217727) ?_
          refine pv_ 27 48 HT_ (bm 48 268435455) ?_
          refine pv_ 28 49 HT_ (bm 48 536870911) ?_
          refine pw_ 29 50 HT_ (bm 48 1073741823) ?_
          refine pw_ 30 51 HT_ (bm 48 2147483647) ?_
          refine pw_ 31 52 HT_ (bm 48 4294967295) ?_
          refine pw_ 32 53 HT_ (bm 48 8589934591) ?_
          refine pv_ 33 54 HT_ (bm 48 17179869183) ?_
          refine pv_ 34 55 HT_ (bm 48 34359738367) ?_
          refine pw_ 35 56 HT_ (bm 48 68719476735) ?_
          refine pw_ 36 57 HT_ (bm 48 137438953471) ?_
          refine pw_ 37 58 HT_ (bm 48 274877906943) ?_
          refine pw_ 38 59 HT_ (bm 48 549755813887) ?_
          refine pv_ 39 60 HT_ (bm 48 1099511627775) ?_
          refine pv_ 40 61 HT_ (bm 48 2199023255551) ?_
          refine pw_ 41 62 HT_ (bm 48 4398046511103) ?_
          refine pw_ 42 63 HT_ (bm 48 8796093022207) ?_
          refine pw_ 43 64 HT_ (bm 48 17592186044415) ?_
          refine pw_ 44 65 HT_ (bm 48 35184372088831) ?_
          refine pw_ 45 66 HT_ (bm 48 70368744177663) ?_
          refine pw_ 46 67 HT_ (bm 48 140737488355327) ?_
          refine pv_ 47 68 HT_ (bm 48 281474976710655) ?_
          refine done_ (done_of HT_.out (by kernel_rfl)) ?_
          try go_wp2
          go_meet
          case rel => exact ⟨_, (true), (by first | rfl | (simp; done) | (simp [*]; done)), H', ⟨by have := HK1.out; first | omega | exact Nat.le_refl _⟩, ⟨by (with_reducible repeat (first | refine blk_drewN ?_ _ | refine blk_drew ?_ | refine blk_alloc ?_ _)); exact BK119.out⟩, ⟨by repeat (first | (with_reducible first | exact HB.out | apply below_alloc | apply pw_below_drewN | apply below_drew1 | refine below_set ?_ GE119.out) | exact HB.out)⟩⟩
        rw [if_pos c8] at H
        have c8b0 : ((((rd_T140 l0 x3_1).f0).size : Int) == 4) = true := beq_iff_eq.mpr c8
        have c8b1 : ((((rd_T140 l0 x3_1).f0).size : Int) != 4) = false := bne_eq_false_iff_eq.mpr c8
        clear c8
        (first | rw [c8b0] | (simp only [i64_w, i32_w]; rw [c8b0]) | skip)
        by_cases c9 : (((rd_T140 l0 x3_1).f1).size : Int) = 4
        rotate_left
        · rw [if_neg c9] at H
          have c9b0 : ((((rd_T140 l0 x3_1).f1).size : Int) == 4) = false := beq_eq_false_iff_ne.mpr c9
          have c9b1 : ((((rd_T140 l0 x3_1).f1).size : Int) != 4) = true := bne_iff_ne.mpr c9
          have H' := Aside0.mk H
          clear H
          try go_wp2
          have n0_ : Aside0 (((((((w6.setCell ⟨gb119, 0, none⟩ (.string ((rd_T140 l0 x3_1).f0))).setCell ⟨gb119, 1, none⟩ (.string ((rd_T140 l0 x3_1).f1))).setCell ⟨gb119, 2, none⟩ (.int .i64 ((rd_T140 l0 x3_1).f2))).setCell ⟨gb119, 3, none⟩ (.int .i64 ((rd_T140 l0 x3_1).f3))).setCell ⟨gb119, 4, none⟩ (.int .i64 ((rd_T140 l0 x3_1).f4))).setCell ⟨gb119, 5, none⟩ (.slice A118_5 ((rd_T140 l0 x3_1).f5).length c118_5)).heap[gb119]? = some (.cells #[.string ((rd_T140 l0 x3_1).f0), .string ((rd_T140 l0 x3_1).f1), .int .i64 ((rd_T140 l0 x3_1).f2), .int .i64 ((rd_T140 l0 x3_1).f3), .int .i64 ((rd_T140 l0 x3_1).f4), .slice A118_5 ((rd_T140 l0 x3_1).f5).length c118_5] 140 (0, 0))) := ⟨by (with_reducible repeat (first | refine blk_drewN ?_ _ | refine blk_drew ?_ | refine blk_alloc ?_ _)); refine blk_put (cs := #[.string ((rd_T140 l0 x3_1).f0), .string ((rd_T140 l0 x3_1).f1), .int .i64 ((rd_T140 l0 x3_1).f2), .int .i64 ((rd_T140 l0 x3_1).f3), .int .i64 ((rd_T140 l0 x3_1).f4), .slice none 0 0]) ?_ 5 _ rfl; (with_reducible repeat (first | refine blk_drewN ?_ _ | refine blk_drew ?_ | refine blk_alloc ?_ _)); refine blk_put (cs := #[.string ((rd_T140 l0 x3_1).f0), .string ((rd_T140 l0 x3_1).f1), .int .i64 ((rd_T140 l0 x3_1).f2), .int .i64 ((rd_T140 l0 x3_1).f3), .int .i64 0, .slice none 0 0]) ?_ 4 _ rfl; (with_reducible repeat (first | refine blk_drewN ?_ _ | refine blk_drew ?_ | refine blk_alloc ?_ _)); refine blk_put (cs := #[.string ((rd_T140 l0 x3_1).f0), .string ((rd_T140 l0 x3_1).f1), .int .i64 ((rd_T140 l0 x3_1).f2), .int .i64 0, .int .i64 0, .slice none 0 0]) ?_ 3 _ rfl; (with_reducible repeat (first | refine blk_drewN ?_ _ | refine blk_drew ?_ | refine blk_alloc ?_ _)); refine blk_put (cs := #[.string ((rd_T140 l0 x3_1).f0), .string ((rd_T140 l0 x3_1).f1), .int .i64 0, .int .i64 0, .int .i64 0, .slice none 0 0]) ?_ 2 _ rfl; (with_reducible repeat (first | refine blk_drewN ?_ _ | refine blk_drew ?_ | refine blk_alloc ?_ _)); refine blk_put (cs := #[.string ((rd_T140 l0 x3_1).f0), .string (⟨#[]⟩ : ByteArray), .int .i64 0, .int .i64 0, .int .i64 0, .slice none 0 0]) ?_ 1 _ rfl; (with_reducible repeat (first | refine blk_drewN ?_ _ | refine blk_drew ?_ | refine blk_alloc ?_ _)); refine blk_put (cs := #[.string (⟨#[]⟩ : ByteArray), .string (⟨#[]⟩ : ByteArray), .int .i64 0, .int .i64 0, .int .i64 0, .slice none 0 0]) ?_ 0 _ rfl; (with_reducible repeat (first | refine blk_drewN ?_ _ | refine blk_drew ?_ | refine blk_alloc ?_ _)); exact BK119.out⟩
          have n1_ : Aside0 (Below w.heap.size w ((((((w6.setCell ⟨gb119, 0, none⟩ (.string ((rd_T140 l0 x3_1).f0))).setCell ⟨gb119, 1, none⟩ (.string ((rd_T140 l0 x3_1).f1))).setCell ⟨gb119, 2, none⟩ (.int .i64 ((rd_T140 l0 x3_1).f2))).setCell ⟨gb119, 3, none⟩ (.int .i64 ((rd_T140 l0 x3_1).f3))).setCell ⟨gb119, 4, none⟩ (.int .i64 ((rd_T140 l0 x3_1).f4))).setCell ⟨gb119, 5, none⟩ (.slice A118_5 ((rd_T140 l0 x3_1).f5).length c118_5))) := ⟨by repeat (first | (with_reducible first | exact HB.out | apply below_alloc | apply pw_below_drewN | apply below_drew1 | refine below_set ?_ GE119.out) | exact HB.out)⟩
          (try clear BK119)
          (try clear HB)
          generalize ((((((w6.setCell ⟨gb119, 0, none⟩ (.string ((rd_T140 l0 x3_1).f0))).setCell ⟨gb119, 1, none⟩ (.string ((rd_T140 l0 x3_1).f1))).setCell ⟨gb119, 2, none⟩ (.int .i64 ((rd_T140 l0 x3_1).f2))).setCell ⟨gb119, 3, none⟩ (.int .i64 ((rd_T140 l0 x3_1).f3))).setCell ⟨gb119, 4, none⟩ (.int .i64 ((rd_T140 l0 x3_1).f4))).setCell ⟨gb119, 5, none⟩ (.slice A118_5 ((rd_T140 l0 x3_1).f5).length c118_5)) = w35 at n0_ n1_ ⊢
          have BK119 := n0_
          have HB := n1_
          clear n0_ n1_
          have n0_ := Aside0.mk (blk_drew BK119.out)
          have n1_ := Aside0.mk (below_drew1 HB.out)
          clear BK119
          clear HB
          have BK119 := n0_
          have HB := n1_
          clear n0_ n1_
          refine start_ (n := 48) (S := fun w' => w'.cell? ⟨gb119, 0, none⟩ = some (.string ((rd_T140 l0 x3_1).f0)) ∧ w'.cell? ⟨gb119, 1, none⟩ = some (.string ((rd_T140 l0 x3_1).f1)) ∧ w'.cell? ⟨gb119, 2, none⟩ = some (.int .i64 ((rd_T140 l0 x3_1).f2)) ∧ w'.cell? ⟨gb119, 3, none⟩ = some (.int .i64 ((rd_T140 l0 x3_1).f3)) ∧ w'.cell? ⟨gb119, 4, none⟩ = some (.int .i64 ((rd_T140 l0 x3_1).f4)) ∧ w'.cell? ⟨gb119, 5, none⟩ = some (.slice A118_5 ((rd_T140 l0 x3_1).f5).length c118_5)) (ds := []) _ (by kernel_rfl) rfl rfl ⟨(blk_cell BK119.out 0).trans rfl, (blk_cell BK119.out 1).trans rfl, (blk_cell BK119.out 2).trans rfl, (blk_cell BK119.out 3).trans rfl, (blk_cell BK119.out 4).trans rfl, (blk_cell BK119.out 5).trans rfl⟩ (fun hHeld => ?_); refine with_tabW spec_BoxesOK.tab7 spec_BoxesOK.bits7 (fun HT_ HW_ => ?_)
          generalize w35.drew = w36 at BK119 HB hHeld ⊢
          refine pv_ 0 21 HT_ (bm 48 1) ?_
          refine tk_ 1 22 HT_ HW_ (bm 48 3) hHeld ?_ (hy := Or.inl ⟨by rfl, by rintro w' ⟨s0, s1, s2, s3, s4, s5⟩; go_simp; with_reducible rfl⟩)
          refine pv_ 2 23 HT_ (bm 48 7) ?_
          refine pv_ 3 24 HT_ (bm 48 15) ?_
          refine pv_ 4 25 HT_ (bm 48 31) ?_
          refine pv_ 5 26 HT_ (bm 48 63) ?_
          refine tk_ 6 27 HT_ HW_ (bm 48 127) hHeld ?_ (hy := Or.inl ⟨by rfl, by rintro w' ⟨s0, s1, s2, s3, s4, s5⟩; go_simp; with_reducible rfl⟩)
          refine pv_ 7 28 HT_ (bm 48 255) ?_
          refine pv_ 8 29 HT_ (bm 48 511) ?_
          refine pv_ 9 30 HT_ (bm 48 1023) ?_
          refine pv_ 10 31 HT_ (bm 48 2047) ?_
          refine pw_ 11 32 HT_ (bm 48 4095) ?_
          refine pw_ 12 33 HT_ (bm 48 8191) ?_
          refine pw_ 13 34 HT_ (bm 48 16383) ?_
          refine pw_ 14 35 HT_ (bm 48 32767) ?_
          refine pv_ 15 36 HT_ (bm 48 65535) ?_
          refine pv_ 16 37 HT_ (bm 48 131071) ?_
          refine pw_ 17 38 HT_ (bm 48 262143) ?_
          refine pw_ 18 39 HT_ (bm 48 524287) ?_
          refine pw_ 19 40 HT_ (bm 48 1048575) ?_
          refine pw_ 20 41 HT_ (bm 48 2097151) ?_
          refine pv_ 21 42 HT_ (bm 48 4194303) ?_
          refine pv_ 22 43 HT_ (bm 48 8388607) ?_
          refine pw_ 23 44 HT_ (bm 48 16777215) ?_
          refine pw_ 24 45 HT_ (bm 48 33554431) ?_
          refine pw_ 25 46 HT_ (bm 48 67108863) ?_
          refine pw_ 26 47 HT_ (bm 48 134217727) ?_
          refine pv_ 27 48 HT_ (bm 48 268435455) ?_
          refine pv_ 28 49 HT_ (bm 48 536870911) ?_
          refine pw_ 29 50 HT_ (bm 48 1073741823) ?_
          refine pw_ 30 51 HT_ (bm 48 2147483647) ?_
          refine pw_ 31 52 HT_ (bm 48 4294967295) ?_
          refine pw_ 32 53 HT_ (bm 48 8589934591) ?_
          refine pv_ 33 54 HT_ (bm 48 17179869183) ?_
          refine pv_ 34 55 HT_ (bm 48 34359738367) ?_
          refine pw_ 35 56 HT_ (bm 48 68719476735) ?_
          refine pw_ 36 57 HT_ (bm 48 137438953471) ?_
          refine pw_ 37 58 HT_ (bm 48 274877906943) ?_
          refine pw_ 38 59 HT_ (bm 48 549755813887) ?_
          refine pv_ 39 60 HT_ (bm 48 1099511627775) ?_
          refine pv_ 40 61 HT_ (bm 48 2199023255551) ?_
          refine pw_ 41 62 HT_ (bm 48 4398046511103) ?_
          refine pw_ 42 63 HT_ (bm 48 8796093022207) ?_
          refine pw_ 43 64 HT_ (bm 48 17592186044415) ?_
          refine pw_ 44 65 HT_ (bm 48 35184372088831) ?_
          refine pw_ 45 66 HT_ (bm 48 70368744177663) ?_
          refine pw_ 46 67 HT_ (bm 48 140737488355327) ?_
          refine pv_ 47 68 HT_ (bm 48 281474976710655) ?_
          refine done_ (done_of HT_.out (by kernel_rfl)) ?_
          try go_wp2
          go_meet
          case rel => exact ⟨_, (true), (by first | rfl | (simp; done) | (simp [*]; done)), H', ⟨by have := HK1.out; first | omega | exact Nat.le_refl _⟩, ⟨by (with_reducible repeat (first | refine blk_drewN ?_ _ | refine blk_drew ?_ | refine blk_alloc ?_ _)); exact BK119.out⟩, ⟨by repeat (first | (with_reducible first | exact HB.out | apply below_alloc | apply pw_below_drewN | apply below_drew1 | refine below_set ?_ GE119.out) | exact HB.out)⟩⟩
        rw [if_pos c9] at H
        have c9b0 : ((((rd_T140 l0 x3_1).f1).size : Int) == 4) = true := beq_iff_eq.mpr c9
        have c9b1 : ((((rd_T140 l0 x3_1).f1).size : Int) != 4) = false := bne_eq_false_iff_eq.mpr c9
        clear c9
        replace H := Option.bind_eq_some_iff.mp H
        obtain ⟨t120, A100, H⟩ := H
        replace H : (if t120 = true then ((spec_l01In.f ((rd_T140 l0 x3_1).f3) 0 255).bind fun t121 => (if t121 = true then ((spec_l01In.f ((rd_T140 l0 x3_1).f4) 0 1000030).bind fun t122 => (if t122 = true then (if (((rd_T140 l0 x3_1).f5).length : Int) = 0 then (spec_BoxesOK.j1 k1 l0 x3_1 true ((rd_T140 l0 x3_1).f0) ((rd_T140 l0 x3_1).f1) ((rd_T140 l0 x3_1).f2) ((rd_T140 l0 x3_1).f3) ((rd_T140 l0 x3_1).f4) ((rd_T140 l0 x3_1).f5)) else (if (((rd_T140 l0 x3_1).f5).length : Int) > 12 then (spec_BoxesOK.j1 k1 l0 x3_1 true ((rd_T140 l0 x3_1).f0) ((rd_T140 l0 x3_1).f1) ((rd_T140 l0 x3_1).f2) ((rd_T140 l0 x3_1).f3) ((rd_T140 l0 x3_1).f4) ((rd_T140 l0 x3_1).f5)) else (if x3_1 ≤ (l0.length : Int) then ((spec_l03Find.f k1 (l0.take (x3_1 : Int).toNat) ((rd_T140 l0 x3_1).f0) ((rd_T140 l0 x3_1).f1) ((rd_T140 l0 x3_1).f2) ((rd_T140 l0 x3_1).f3) ((rd_T140 l0 x3_1).f4) ((rd_T140 l0 x3_1).f5)).bind fun t127 => (spec_BoxesOK.j1 k1 l0 x3_1 (decide (t127 ≥ 0)) ((rd_T140 l0 x3_1).f0) ((rd_T140 l0 x3_1).f1) ((rd_T140 l0 x3_1).f2) ((rd_T140 l0 x3_1).f3) ((rd_T140 l0 x3_1).f4) ((rd_T140 l0 x3_1).f5))) else (none)))) else (spec_BoxesOK.j1 k1 l0 x3_1 true ((rd_T140 l0 x3_1).f0) ((rd_T140 l0 x3_1).f1) ((rd_T140 l0 x3_1).f2) ((rd_T140 l0 x3_1).f3) ((rd_T140 l0 x3_1).f4) ((rd_T140 l0 x3_1).f5)))) else (spec_BoxesOK.j1 k1 l0 x3_1 true ((rd_T140 l0 x3_1).f0) ((rd_T140 l0 x3_1).f1) ((rd_T140 l0 x3_1).f2) ((rd_T140 l0 x3_1).f3) ((rd_T140 l0 x3_1).f4) ((rd_T140 l0 x3_1).f5)))) else (spec_BoxesOK.j1 k1 l0 x3_1 true ((rd_T140 l0 x3_1).f0) ((rd_T140 l0 x3_1).f1) ((rd_T140 l0 x3_1).f2) ((rd_T140 l0 x3_1).f3) ((rd_T140 l0 x3_1).f4) ((rd_T140 l0 x3_1).f5))) = some r := H
        have A10 := Aside0.mk A100
        clear A100
        by_cases c11 : t120 = true
        rotate_left
        · replace c11 := Bool.eq_false_iff.mpr c11
          subst c11
          have H1 : (spec_BoxesOK.j1 k1 l0 x3_1 true ((rd_T140 l0 x3_1).f0) ((rd_T140 l0 x3_1).f1) ((rd_T140 l0 x3_1).f2) ((rd_T140 l0 x3_1).f3) ((rd_T140 l0 x3_1).f4) ((rd_T140 l0 x3_1).f5)) = some r := by rw [if_neg (show ¬ (false = true) by decide)] at H; exact H
          clear H
          have H := H1
          clear H1
          have H' := Aside0.mk H
          clear H
          try go_wp2
          have n0_ : Aside0 (((((((w6.setCell ⟨gb119, 0, none⟩ (.string ((rd_T140 l0 x3_1).f0))).setCell ⟨gb119, 1, none⟩ (.string ((rd_T140 l0 x3_1).f1))).setCell ⟨gb119, 2, none⟩ (.int .i64 ((rd_T140 l0 x3_1).f2))).setCell ⟨gb119, 3, none⟩ (.int .i64 ((rd_T140 l0 x3_1).f3))).setCell ⟨gb119, 4, none⟩ (.int .i64 ((rd_T140 l0 x3_1).f4))).setCell ⟨gb119, 5, none⟩ (.slice A118_5 ((rd_T140 l0 x3_1).f5).length c118_5)).heap[gb119]? = some (.cells #[.string ((rd_T140 l0 x3_1).f0), .string ((rd_T140 l0 x3_1).f1), .int .i64 ((rd_T140 l0 x3_1).f2), .int .i64 ((rd_T140 l0 x3_1).f3), .int .i64 ((rd_T140 l0 x3_1).f4), .slice A118_5 ((rd_T140 l0 x3_1).f5).length c118_5] 140 (0, 0))) := ⟨by (with_reducible repeat (first | refine blk_drewN ?_ _ | refine blk_drew ?_ | refine blk_alloc ?_ _)); refine blk_put (cs := #[.string ((rd_T140 l0 x3_1).f0), .string ((rd_T140 l0 x3_1).f1), .int .i64 ((rd_T140 l0 x3_1).f2), .int .i64 ((rd_T140 l0 x3_1).f3), .int .i64 ((rd_T140 l0 x3_1).f4), .slice none 0 0]) ?_ 5 _ rfl; (with_reducible repeat (first | refine blk_drewN ?_ _ | refine blk_drew ?_ | refine blk_alloc ?_ _)); refine blk_put (cs := #[.string ((rd_T140 l0 x3_1).f0), .string ((rd_T140 l0 x3_1).f1), .int .i64 ((rd_T140 l0 x3_1).f2), .int .i64 ((rd_T140 l0 x3_1).f3), .int .i64 0, .slice none 0 0]) ?_ 4 _ rfl; (with_reducible repeat (first | refine blk_drewN ?_ _ | refine blk_drew ?_ | refine blk_alloc ?_ _)); refine blk_put (cs := #[.string ((rd_T140 l0 x3_1).f0), .string ((rd_T140 l0 x3_1).f1), .int .i64 ((rd_T140 l0 x3_1).f2), .int .i64 0, .int .i64 0, .slice none 0 0]) ?_ 3 _ rfl; (with_reducible repeat (first | refine blk_drewN ?_ _ | refine blk_drew ?_ | refine blk_alloc ?_ _)); refine blk_put (cs := #[.string ((rd_T140 l0 x3_1).f0), .string ((rd_T140 l0 x3_1).f1), .int .i64 0, .int .i64 0, .int .i64 0, .slice none 0 0]) ?_ 2 _ rfl; (with_reducible repeat (first | refine blk_drewN ?_ _ | refine blk_drew ?_ | refine blk_alloc ?_ _)); refine blk_put (cs := #[.string ((rd_T140 l0 x3_1).f0), .string (⟨#[]⟩ : ByteArray), .int .i64 0, .int .i64 0, .int .i64 0, .slice none 0 0]) ?_ 1 _ rfl; (with_reducible repeat (first | refine blk_drewN ?_ _ | refine blk_drew ?_ | refine blk_alloc ?_ _)); refine blk_put (cs := #[.string (⟨#[]⟩ : ByteArray), .string (⟨#[]⟩ : ByteArray), .int .i64 0, .int .i64 0, .int .i64 0, .slice none 0 0]) ?_ 0 _ rfl; (with_reducible repeat (first | refine blk_drewN ?_ _ | refine blk_drew ?_ | refine blk_alloc ?_ _)); exact BK119.out⟩
          have n1_ : Aside0 (Below w.heap.size w ((((((w6.setCell ⟨gb119, 0, none⟩ (.string ((rd_T140 l0 x3_1).f0))).setCell ⟨gb119, 1, none⟩ (.string ((rd_T140 l0 x3_1).f1))).setCell ⟨gb119, 2, none⟩ (.int .i64 ((rd_T140 l0 x3_1).f2))).setCell ⟨gb119, 3, none⟩ (.int .i64 ((rd_T140 l0 x3_1).f3))).setCell ⟨gb119, 4, none⟩ (.int .i64 ((rd_T140 l0 x3_1).f4))).setCell ⟨gb119, 5, none⟩ (.slice A118_5 ((rd_T140 l0 x3_1).f5).length c118_5))) := ⟨by repeat (first | (with_reducible first | exact HB.out | apply below_alloc | apply pw_below_drewN | apply below_drew1 | refine below_set ?_ GE119.out) | exact HB.out)⟩
          (try clear BK119)
          (try clear HB)
          generalize ((((((w6.setCell ⟨gb119, 0, none⟩ (.string ((rd_T140 l0 x3_1).f0))).setCell ⟨gb119, 1, none⟩ (.string ((rd_T140 l0 x3_1).f1))).setCell ⟨gb119, 2, none⟩ (.int .i64 ((rd_T140 l0 x3_1).f2))).setCell ⟨gb119, 3, none⟩ (.int .i64 ((rd_T140 l0 x3_1).f3))).setCell ⟨gb119, 4, none⟩ (.int .i64 ((rd_T140 l0 x3_1).f4))).setCell ⟨gb119, 5, none⟩ (.slice A118_5 ((rd_T140 l0 x3_1).f5).length c118_5)) = w33 at n0_ n1_ ⊢
          have BK119 := n0_
          have HB := n1_
          clear n0_ n1_
          have n0_ := Aside0.mk (blk_drew BK119.out)
          have n1_ := Aside0.mk (below_drew1 HB.out)
          clear BK119
          clear HB
          have BK119 := n0_
          have HB := n1_
          clear n0_ n1_
          refine start_ (n := 48) (S := fun w' => w'.cell? ⟨gb119, 0, none⟩ = some (.string ((rd_T140 l0 x3_1).f0)) ∧ w'.cell? ⟨gb119, 1, none⟩ = some (.string ((rd_T140 l0 x3_1).f1)) ∧ w'.cell? ⟨gb119, 2, none⟩ = some (.int .i64 ((rd_T140 l0 x3_1).f2)) ∧ w'.cell? ⟨gb119, 3, none⟩ = some (.int .i64 ((rd_T140 l0 x3_1).f3)) ∧ w'.cell? ⟨gb119, 4, none⟩ = some (.int .i64 ((rd_T140 l0 x3_1).f4)) ∧ w'.cell? ⟨gb119, 5, none⟩ = some (.slice A118_5 ((rd_T140 l0 x3_1).f5).length c118_5)) (ds := []) _ (by kernel_rfl) rfl rfl ⟨(blk_cell BK119.out 0).trans rfl, (blk_cell BK119.out 1).trans rfl, (blk_cell BK119.out 2).trans rfl, (blk_cell BK119.out 3).trans rfl, (blk_cell BK119.out 4).trans rfl, (blk_cell BK119.out 5).trans rfl⟩ (fun hHeld => ?_); refine with_tabW spec_BoxesOK.tab7 spec_BoxesOK.bits7 (fun HT_ HW_ => ?_)
          generalize w33.drew = w34 at BK119 HB hHeld ⊢
          refine pv_ 0 21 HT_ (bm 48 1) ?_
          refine tk_ 1 22 HT_ HW_ (bm 48 3) hHeld ?_ (hy := Or.inl ⟨by rfl, by rintro w' ⟨s0, s1, s2, s3, s4, s5⟩; go_simp; with_reducible rfl⟩)
          refine pv_ 2 23 HT_ (bm 48 7) ?_
          refine pv_ 3 24 HT_ (bm 48 15) ?_
          refine pv_ 4 25 HT_ (bm 48 31) ?_
          refine pv_ 5 26 HT_ (bm 48 63) ?_
          refine tk_ 6 27 HT_ HW_ (bm 48 127) hHeld ?_ (hy := Or.inl ⟨by rfl, by rintro w' ⟨s0, s1, s2, s3, s4, s5⟩; go_simp; with_reducible rfl⟩)
          refine pv_ 7 28 HT_ (bm 48 255) ?_
          refine pv_ 8 29 HT_ (bm 48 511) ?_
          refine pv_ 9 30 HT_ (bm 48 1023) ?_
          refine pv_ 10 31 HT_ (bm 48 2047) ?_
          refine pv_ 11 32 HT_ (bm 48 4095) ?_
          refine tk_ 12 33 HT_ HW_ (bm 48 8191) hHeld ?_ (hy := Or.inl ⟨by rfl, by rintro w' ⟨s0, s1, s2, s3, s4, s5⟩; go_simp; with_reducible rfl⟩)
          refine one_ (i := 13) (N := some 34) (bm 48 16383) rfl rfl (one_of HT_.out (by kernel_rfl)) (by decide) (fun K hK => ?_)
          refine goes_ Try.func100 (by kernel_rfl) rfl #[.int .i64 ((rd_T140 l0 x3_1).f2), .int .i64 0, .int .i64 65535] (by rfl) rfl rfl (by (try simp only [List.map_toArray, List.map_cons, List.map_nil]); first | done | rfl | (simp only [List.length_drop, List.length_take]; rfl)) ?_
          with_reducible refine (spec_l01In.calls ((rd_T140 l0 x3_1).f2) 0 65535 false _ A10.out).mono ?_
          rintro e w' ⟨rfl, ⟨nd, rfl⟩⟩
          refine ⟨_, rfl, ?_⟩
          refine hK.out _ _ ⟨(blk_cell BK119.out 0).trans rfl, (blk_cell BK119.out 1).trans rfl, (blk_cell BK119.out 2).trans rfl, (blk_cell BK119.out 3).trans rfl, (blk_cell BK119.out 4).trans rfl, (blk_cell BK119.out 5).trans rfl⟩ (fun hHeld => ?_)
          clear hK K
          refine norm_ (a' := ?_) ?_ ?_
          rotate_left
          · show Act.put _ (some 34) _ = _
            simp only [Act.put, List.setIfInBounds_toArray, List.set_cons_zero, List.set_cons_succ, i64_w, i32_w]
            rfl
          refine pv_ 14 35 HT_ (bm 48 32767) ?_
          refine pv_ 15 36 HT_ (bm 48 65535) ?_
          refine pv_ 16 37 HT_ (bm 48 131071) ?_
          refine pw_ 17 38 HT_ (bm 48 262143) ?_
          refine pw_ 18 39 HT_ (bm 48 524287) ?_
          refine pw_ 19 40 HT_ (bm 48 1048575) ?_
          refine pw_ 20 41 HT_ (bm 48 2097151) ?_
          refine pv_ 21 42 HT_ (bm 48 4194303) ?_
          refine pv_ 22 43 HT_ (bm 48 8388607) ?_
          refine pw_ 23 44 HT_ (bm 48 16777215) ?_
          refine pw_ 24 45 HT_ (bm 48 33554431) ?_
          refine pw_ 25 46 HT_ (bm 48 67108863) ?_
          refine pw_ 26 47 HT_ (bm 48 134217727) ?_
          refine pv_ 27 48 HT_ (bm 48 268435455) ?_
          refine pv_ 28 49 HT_ (bm 48 536870911) ?_
          refine pw_ 29 50 HT_ (bm 48 1073741823) ?_
          refine pw_ 30 51 HT_ (bm 48 2147483647) ?_
          refine pw_ 31 52 HT_ (bm 48 4294967295) ?_
          refine pw_ 32 53 HT_ (bm 48 8589934591) ?_
          refine pv_ 33 54 HT_ (bm 48 17179869183) ?_
          refine pv_ 34 55 HT_ (bm 48 34359738367) ?_
          refine pw_ 35 56 HT_ (bm 48 68719476735) ?_
          refine pw_ 36 57 HT_ (bm 48 137438953471) ?_
          refine pw_ 37 58 HT_ (bm 48 274877906943) ?_
          refine pw_ 38 59 HT_ (bm 48 549755813887) ?_
          refine pv_ 39 60 HT_ (bm 48 1099511627775) ?_
          refine pv_ 40 61 HT_ (bm 48 2199023255551) ?_
          refine pw_ 41 62 HT_ (bm 48 4398046511103) ?_
          refine pw_ 42 63 HT_ (bm 48 8796093022207) ?_
          refine pw_ 43 64 HT_ (bm 48 17592186044415) ?_
          refine pw_ 44 65 HT_ (bm 48 35184372088831) ?_
          refine pw_ 45 66 HT_ (bm 48 70368744177663) ?_
          refine pw_ 46 67 HT_ (bm 48 140737488355327) ?_
          refine pv_ 47 68 HT_ (bm 48 281474976710655) ?_
          refine done_ (done_of HT_.out (by kernel_rfl)) ?_
          try go_wp2
          go_meet
          case rel => exact ⟨_, (true), (by first | rfl | (simp; done) | (simp [*]; done)), H', ⟨by have := HK1.out; first | omega | exact Nat.le_refl _⟩, ⟨by (with_reducible repeat (first | refine blk_drewN ?_ _ | refine blk_drew ?_ | refine blk_alloc ?_ _)); exact BK119.out⟩, ⟨by repeat (first | (with_reducible first | exact HB.out | apply below_alloc | apply pw_below_drewN | apply below_drew1 | refine below_set ?_ GE119.out) | exact HB.out)⟩⟩
        subst c11
        have H1 : ((spec_l01In.f ((rd_T140 l0 x3_1).f3) 0 255).bind fun t121 => (if t121 = true then ((spec_l01In.f ((rd_T140 l0 x3_1).f4) 0 1000030).bind fun t122 => (if t122 = true then (if (((rd_T140 l0 x3_1).f5).length : Int) = 0 then (spec_BoxesOK.j1 k1 l0 x3_1 true ((rd_T140 l0 x3_1).f0) ((rd_T140 l0 x3_1).f1) ((rd_T140 l0 x3_1).f2) ((rd_T140 l0 x3_1).f3) ((rd_T140 l0 x3_1).f4) ((rd_T140 l0 x3_1).f5)) else (if (((rd_T140 l0 x3_1).f5).length : Int) > 12 then (spec_BoxesOK.j1 k1 l0 x3_1 true ((rd_T140 l0 x3_1).f0) ((rd_T140 l0 x3_1).f1) ((rd_T140 l0 x3_1).f2) ((rd_T140 l0 x3_1).f3) ((rd_T140 l0 x3_1).f4) ((rd_T140 l0 x3_1).f5)) else (if x3_1 ≤ (l0.length : Int) then ((spec_l03Find.f k1 (l0.take (x3_1 : Int).toNat) ((rd_T140 l0 x3_1).f0) ((rd_T140 l0 x3_1).f1) ((rd_T140 l0 x3_1).f2) ((rd_T140 l0 x3_1).f3) ((rd_T140 l0 x3_1).f4) ((rd_T140 l0 x3_1).f5)).bind fun t127 => (spec_BoxesOK.j1 k1 l0 x3_1 (decide (t127 ≥ 0)) ((rd_T140 l0 x3_1).f0) ((rd_T140 l0 x3_1).f1) ((rd_T140 l0 x3_1).f2) ((rd_T140 l0 x3_1).f3) ((rd_T140 l0 x3_1).f4) ((rd_T140 l0 x3_1).f5))) else (none)))) else (spec_BoxesOK.j1 k1 l0 x3_1 true ((rd_T140 l0 x3_1).f0) ((rd_T140 l0 x3_1).f1) ((rd_T140 l0 x3_1).f2) ((rd_T140 l0 x3_1).f3) ((rd_T140 l0 x3_1).f4) ((rd_T140 l0 x3_1).f5)))) else (spec_BoxesOK.j1 k1 l0 x3_1 true ((rd_T140 l0 x3_1).f0) ((rd_T140 l0 x3_1).f1) ((rd_T140 l0 x3_1).f2) ((rd_T140 l0 x3_1).f3) ((rd_T140 l0 x3_1).f4) ((rd_T140 l0 x3_1).f5)))) = some r := by rw [if_pos rfl] at H; exact H
        clear H
        have H := H1
        clear H1
        replace H := Option.bind_eq_some_iff.mp H
        obtain ⟨t121, A120, H⟩ := H
        replace H : (if t121 = true then ((spec_l01In.f ((rd_T140 l0 x3_1).f4) 0 1000030).bind fun t122 => (if t122 = true then (if (((rd_T140 l0 x3_1).f5).length : Int) = 0 then (spec_BoxesOK.j1 k1 l0 x3_1 true ((rd_T140 l0 x3_1).f0) ((rd_T140 l0 x3_1).f1) ((rd_T140 l0 x3_1).f2) ((rd_T140 l0 x3_1).f3) ((rd_T140 l0 x3_1).f4) ((rd_T140 l0 x3_1).f5)) else (if (((rd_T140 l0 x3_1).f5).length : Int) > 12 then (spec_BoxesOK.j1 k1 l0 x3_1 true ((rd_T140 l0 x3_1).f0) ((rd_T140 l0 x3_1).f1) ((rd_T140 l0 x3_1).f2) ((rd_T140 l0 x3_1).f3) ((rd_T140 l0 x3_1).f4) ((rd_T140 l0 x3_1).f5)) else (if x3_1 ≤ (l0.length : Int) then ((spec_l03Find.f k1 (l0.take (x3_1 : Int).toNat) ((rd_T140 l0 x3_1).f0) ((rd_T140 l0 x3_1).f1) ((rd_T140 l0 x3_1).f2) ((rd_T140 l0 x3_1).f3) ((rd_T140 l0 x3_1).f4) ((rd_T140 l0 x3_1).f5)).bind fun t127 => (spec_BoxesOK.j1 k1 l0 x3_1 (decide (t127 ≥ 0)) ((rd_T140 l0 x3_1).f0) ((rd_T140 l0 x3_1).f1) ((rd_T140 l0 x3_1).f2) ((rd_T140 l0 x3_1).f3) ((rd_T140 l0 x3_1).f4) ((rd_T140 l0 x3_1).f5))) else (none)))) else (spec_BoxesOK.j1 k1 l0 x3_1 true ((rd_T140 l0 x3_1).f0) ((rd_T140 l0 x3_1).f1) ((rd_T140 l0 x3_1).f2) ((rd_T140 l0 x3_1).f3) ((rd_T140 l0 x3_1).f4) ((rd_T140 l0 x3_1).f5)))) else (spec_BoxesOK.j1 k1 l0 x3_1 true ((rd_T140 l0 x3_1).f0) ((rd_T140 l0 x3_1).f1) ((rd_T140 l0 x3_1).f2) ((rd_T140 l0 x3_1).f3) ((rd_T140 l0 x3_1).f4) ((rd_T140 l0 x3_1).f5))) = some r := H
        have A12 := Aside0.mk A120
        clear A120
        by_cases c13 : t121 = true
        rotate_left
        · replace c13 := Bool.eq_false_iff.mpr c13
          subst c13
          have H1 : (spec_BoxesOK.j1 k1 l0 x3_1 true ((rd_T140 l0 x3_1).f0) ((rd_T140 l0 x3_1).f1) ((rd_T140 l0 x3_1).f2) ((rd_T140 l0 x3_1).f3) ((rd_T140 l0 x3_1).f4) ((rd_T140 l0 x3_1).f5)) = some r := by rw [if_neg (show ¬ (false = true) by decide)] at H; exact H
          clear H
          have H := H1
          clear H1
          have H' := Aside0.mk H
          clear H
          try go_wp2
          have n0_ : Aside0 (((((((w6.setCell ⟨gb119, 0, none⟩ (.string ((rd_T140 l0 x3_1).f0))).setCell ⟨gb119, 1, none⟩ (.string ((rd_T140 l0 x3_1).f1))).setCell ⟨gb119, 2, none⟩ (.int .i64 ((rd_T140 l0 x3_1).f2))).setCell ⟨gb119, 3, none⟩ (.int .i64 ((rd_T140 l0 x3_1).f3))).setCell ⟨gb119, 4, none⟩ (.int .i64 ((rd_T140 l0 x3_1).f4))).setCell ⟨gb119, 5, none⟩ (.slice A118_5 ((rd_T140 l0 x3_1).f5).length c118_5)).heap[gb119]? = some (.cells #[.string ((rd_T140 l0 x3_1).f0), .string ((rd_T140 l0 x3_1).f1), .int .i64 ((rd_T140 l0 x3_1).f2), .int .i64 ((rd_T140 l0 x3_1).f3), .int .i64 ((rd_T140 l0 x3_1).f4), .slice A118_5 ((rd_T140 l0 x3_1).f5).length c118_5] 140 (0, 0))) := ⟨by (with_reducible repeat (first | refine blk_drewN ?_ _ | refine blk_drew ?_ | refine blk_alloc ?_ _)); refine blk_put (cs := #[.string ((rd_T140 l0 x3_1).f0), .string ((rd_T140 l0 x3_1).f1), .int .i64 ((rd_T140 l0 x3_1).f2), .int .i64 ((rd_T140 l0 x3_1).f3), .int .i64 ((rd_T140 l0 x3_1).f4), .slice none 0 0]) ?_ 5 _ rfl; (with_reducible repeat (first | refine blk_drewN ?_ _ | refine blk_drew ?_ | refine blk_alloc ?_ _)); refine blk_put (cs := #[.string ((rd_T140 l0 x3_1).f0), .string ((rd_T140 l0 x3_1).f1), .int .i64 ((rd_T140 l0 x3_1).f2), .int .i64 ((rd_T140 l0 x3_1).f3), .int .i64 0, .slice none 0 0]) ?_ 4 _ rfl; (with_reducible repeat (first | refine blk_drewN ?_ _ | refine blk_drew ?_ | refine blk_alloc ?_ _)); refine blk_put (cs := #[.string ((rd_T140 l0 x3_1).f0), .string ((rd_T140 l0 x3_1).f1), .int .i64 ((rd_T140 l0 x3_1).f2), .int .i64 0, .int .i64 0, .slice none 0 0]) ?_ 3 _ rfl; (with_reducible repeat (first | refine blk_drewN ?_ _ | refine blk_drew ?_ | refine blk_alloc ?_ _)); refine blk_put (cs := #[.string ((rd_T140 l0 x3_1).f0), .string ((rd_T140 l0 x3_1).f1), .int .i64 0, .int .i64 0, .int .i64 0, .slice none 0 0]) ?_ 2 _ rfl; (with_reducible repeat (first | refine blk_drewN ?_ _ | refine blk_drew ?_ | refine blk_alloc ?_ _)); refine blk_put (cs := #[.string ((rd_T140 l0 x3_1).f0), .string (⟨#[]⟩ : ByteArray), .int .i64 0, .int .i64 0, .int .i64 0, .slice none 0 0]) ?_ 1 _ rfl; (with_reducible repeat (first | refine blk_drewN ?_ _ | refine blk_drew ?_ | refine blk_alloc ?_ _)); refine blk_put (cs := #[.string (⟨#[]⟩ : ByteArray), .string (⟨#[]⟩ : ByteArray), .int .i64 0, .int .i64 0, .int .i64 0, .slice none 0 0]) ?_ 0 _ rfl; (with_reducible repeat (first | refine blk_drewN ?_ _ | refine blk_drew ?_ | refine blk_alloc ?_ _)); exact BK119.out⟩
          have n1_ : Aside0 (Below w.heap.size w ((((((w6.setCell ⟨gb119, 0, none⟩ (.string ((rd_T140 l0 x3_1).f0))).setCell ⟨gb119, 1, none⟩ (.string ((rd_T140 l0 x3_1).f1))).setCell ⟨gb119, 2, none⟩ (.int .i64 ((rd_T140 l0 x3_1).f2))).setCell ⟨gb119, 3, none⟩ (.int .i64 ((rd_T140 l0 x3_1).f3))).setCell ⟨gb119, 4, none⟩ (.int .i64 ((rd_T140 l0 x3_1).f4))).setCell ⟨gb119, 5, none⟩ (.slice A118_5 ((rd_T140 l0 x3_1).f5).length c118_5))) := ⟨by repeat (first | (with_reducible first | exact HB.out | apply below_alloc | apply pw_below_drewN | apply below_drew1 | refine below_set ?_ GE119.out) | exact HB.out)⟩
          (try clear BK119)
          (try clear HB)
          generalize ((((((w6.setCell ⟨gb119, 0, none⟩ (.string ((rd_T140 l0 x3_1).f0))).setCell ⟨gb119, 1, none⟩ (.string ((rd_T140 l0 x3_1).f1))).setCell ⟨gb119, 2, none⟩ (.int .i64 ((rd_T140 l0 x3_1).f2))).setCell ⟨gb119, 3, none⟩ (.int .i64 ((rd_T140 l0 x3_1).f3))).setCell ⟨gb119, 4, none⟩ (.int .i64 ((rd_T140 l0 x3_1).f4))).setCell ⟨gb119, 5, none⟩ (.slice A118_5 ((rd_T140 l0 x3_1).f5).length c118_5)) = w31 at n0_ n1_ ⊢
          have BK119 := n0_
          have HB := n1_
          clear n0_ n1_
          have n0_ := Aside0.mk (blk_drew BK119.out)
          have n1_ := Aside0.mk (below_drew1 HB.out)
          clear BK119
          clear HB
          have BK119 := n0_
          have HB := n1_
          clear n0_ n1_
          refine start_ (n := 48) (S := fun w' => w'.cell? ⟨gb119, 0, none⟩ = some (.string ((rd_T140 l0 x3_1).f0)) ∧ w'.cell? ⟨gb119, 1, none⟩ = some (.string ((rd_T140 l0 x3_1).f1)) ∧ w'.cell? ⟨gb119, 2, none⟩ = some (.int .i64 ((rd_T140 l0 x3_1).f2)) ∧ w'.cell? ⟨gb119, 3, none⟩ = some (.int .i64 ((rd_T140 l0 x3_1).f3)) ∧ w'.cell? ⟨gb119, 4, none⟩ = some (.int .i64 ((rd_T140 l0 x3_1).f4)) ∧ w'.cell? ⟨gb119, 5, none⟩ = some (.slice A118_5 ((rd_T140 l0 x3_1).f5).length c118_5)) (ds := []) _ (by kernel_rfl) rfl rfl ⟨(blk_cell BK119.out 0).trans rfl, (blk_cell BK119.out 1).trans rfl, (blk_cell BK119.out 2).trans rfl, (blk_cell BK119.out 3).trans rfl, (blk_cell BK119.out 4).trans rfl, (blk_cell BK119.out 5).trans rfl⟩ (fun hHeld => ?_); refine with_tabW spec_BoxesOK.tab7 spec_BoxesOK.bits7 (fun HT_ HW_ => ?_)
          generalize w31.drew = w32 at BK119 HB hHeld ⊢
          refine pv_ 0 21 HT_ (bm 48 1) ?_
          refine tk_ 1 22 HT_ HW_ (bm 48 3) hHeld ?_ (hy := Or.inl ⟨by rfl, by rintro w' ⟨s0, s1, s2, s3, s4, s5⟩; go_simp; with_reducible rfl⟩)
          refine pv_ 2 23 HT_ (bm 48 7) ?_
          refine pv_ 3 24 HT_ (bm 48 15) ?_
          refine pv_ 4 25 HT_ (bm 48 31) ?_
          refine pv_ 5 26 HT_ (bm 48 63) ?_
          refine tk_ 6 27 HT_ HW_ (bm 48 127) hHeld ?_ (hy := Or.inl ⟨by rfl, by rintro w' ⟨s0, s1, s2, s3, s4, s5⟩; go_simp; with_reducible rfl⟩)
          refine pv_ 7 28 HT_ (bm 48 255) ?_
          refine pv_ 8 29 HT_ (bm 48 511) ?_
          refine pv_ 9 30 HT_ (bm 48 1023) ?_
          refine pv_ 10 31 HT_ (bm 48 2047) ?_
          refine pv_ 11 32 HT_ (bm 48 4095) ?_
          refine tk_ 12 33 HT_ HW_ (bm 48 8191) hHeld ?_ (hy := Or.inl ⟨by rfl, by rintro w' ⟨s0, s1, s2, s3, s4, s5⟩; go_simp; with_reducible rfl⟩)
          refine one_ (i := 13) (N := some 34) (bm 48 16383) rfl rfl (one_of HT_.out (by kernel_rfl)) (by decide) (fun K hK => ?_)
          refine goes_ Try.func100 (by kernel_rfl) rfl #[.int .i64 ((rd_T140 l0 x3_1).f2), .int .i64 0, .int .i64 65535] (by rfl) rfl rfl (by (try simp only [List.map_toArray, List.map_cons, List.map_nil]); first | done | rfl | (simp only [List.length_drop, List.length_take]; rfl)) ?_
          with_reducible refine (spec_l01In.calls ((rd_T140 l0 x3_1).f2) 0 65535 true _ A10.out).mono ?_
          rintro e w' ⟨rfl, ⟨nd, rfl⟩⟩
          refine ⟨_, rfl, ?_⟩
          refine hK.out _ _ ⟨(blk_cell BK119.out 0).trans rfl, (blk_cell BK119.out 1).trans rfl, (blk_cell BK119.out 2).trans rfl, (blk_cell BK119.out 3).trans rfl, (blk_cell BK119.out 4).trans rfl, (blk_cell BK119.out 5).trans rfl⟩ (fun hHeld => ?_)
          clear hK K
          refine norm_ (a' := ?_) ?_ ?_
          rotate_left
          · show Act.put _ (some 34) _ = _
            simp only [Act.put, List.setIfInBounds_toArray, List.set_cons_zero, List.set_cons_succ, i64_w, i32_w]
            rfl
          refine pv_ 14 35 HT_ (bm 48 32767) ?_
          refine pv_ 15 36 HT_ (bm 48 65535) ?_
          refine pv_ 16 37 HT_ (bm 48 131071) ?_
          refine pv_ 17 38 HT_ (bm 48 262143) ?_
          refine tk_ 18 39 HT_ HW_ (bm 48 524287) hHeld ?_ (hy := Or.inl ⟨by rfl, by rintro w' ⟨s0, s1, s2, s3, s4, s5⟩; go_simp; with_reducible rfl⟩)
          refine one_ (i := 19) (N := some 40) (bm 48 1048575) rfl rfl (one_of HT_.out (by kernel_rfl)) (by decide) (fun K hK => ?_)
          refine goes_ Try.func100 (by kernel_rfl) rfl #[.int .i64 ((rd_T140 l0 x3_1).f3), .int .i64 0, .int .i64 255] (by rfl) rfl rfl (by (try simp only [List.map_toArray, List.map_cons, List.map_nil]); first | done | rfl | (simp only [List.length_drop, List.length_take]; rfl)) ?_
          with_reducible refine (spec_l01In.calls ((rd_T140 l0 x3_1).f3) 0 255 false _ A12.out).mono ?_
          rintro e w' ⟨rfl, ⟨nd, rfl⟩⟩
          refine ⟨_, rfl, ?_⟩
          refine hK.out _ _ ⟨(blk_cell BK119.out 0).trans rfl, (blk_cell BK119.out 1).trans rfl, (blk_cell BK119.out 2).trans rfl, (blk_cell BK119.out 3).trans rfl, (blk_cell BK119.out 4).trans rfl, (blk_cell BK119.out 5).trans rfl⟩ (fun hHeld => ?_)
          clear hK K
          refine norm_ (a' := ?_) ?_ ?_
          rotate_left
          · show Act.put _ (some 40) _ = _
            simp only [Act.put, List.setIfInBounds_toArray, List.set_cons_zero, List.set_cons_succ, i64_w, i32_w]
            rfl
          refine pv_ 20 41 HT_ (bm 48 2097151) ?_
          refine pv_ 21 42 HT_ (bm 48 4194303) ?_
          refine pv_ 22 43 HT_ (bm 48 8388607) ?_
          refine pw_ 23 44 HT_ (bm 48 16777215) ?_
          refine pw_ 24 45 HT_ (bm 48 33554431) ?_
          refine pw_ 25 46 HT_ (bm 48 67108863) ?_
          refine pw_ 26 47 HT_ (bm 48 134217727) ?_
          refine pv_ 27 48 HT_ (bm 48 268435455) ?_
          refine pv_ 28 49 HT_ (bm 48 536870911) ?_
          refine pw_ 29 50 HT_ (bm 48 1073741823) ?_
          refine pw_ 30 51 HT_ (bm 48 2147483647) ?_
          refine pw_ 31 52 HT_ (bm 48 4294967295) ?_
          refine pw_ 32 53 HT_ (bm 48 8589934591) ?_
          refine pv_ 33 54 HT_ (bm 48 17179869183) ?_
          refine pv_ 34 55 HT_ (bm 48 34359738367) ?_
          refine pw_ 35 56 HT_ (bm 48 68719476735) ?_
          refine pw_ 36 57 HT_ (bm 48 137438953471) ?_
          refine pw_ 37 58 HT_ (bm 48 274877906943) ?_
          refine pw_ 38 59 HT_ (bm 48 549755813887) ?_
          refine pv_ 39 60 HT_ (bm 48 1099511627775) ?_
          refine pv_ 40 61 HT_ (bm 48 2199023255551) ?_
          refine pw_ 41 62 HT_ (bm 48 4398046511103) ?_
          refine pw_ 42 63 HT_ (bm 48 8796093022207) ?_
          refine pw_ 43 64 HT_ (bm 48 17592186044415) ?_
          refine pw_ 44 65 HT_ (bm 48 35184372088831) ?_
          refine pw_ 45 66 HT_ (bm 48 70368744177663) ?_
          refine pw_ 46 67 HT_ (bm 48 140737488355327) ?_
          refine pv_ 47 68 HT_ (bm 48 281474976710655) ?_
          refine done_ (done_of HT_.out (by kernel_rfl)) ?_
          try go_wp2
          go_meet
          case rel => exact ⟨_, (true), (by first | rfl | (simp; done) | (simp [*]; done)), H', ⟨by have := HK1.out; first | omega | exact Nat.le_refl _⟩, ⟨by (with_reducible repeat (first | refine blk_drewN ?_ _ | refine blk_drew ?_ | refine blk_alloc ?_ _)); exact BK119.out⟩, ⟨by repeat (first | (with_reducible first | exact HB.out | apply below_alloc | apply pw_below_drewN | apply below_drew1 | refine below_set ?_ GE119.out) | exact HB.out)⟩⟩
        subst c13
        have H1 : ((spec_l01In.f ((rd_T140 l0 x3_1).f4) 0 1000030).bind fun t122 => (if t122 = true then (if (((rd_T140 l0 x3_1).f5).length : Int) = 0 then (spec_BoxesOK.j1 k1 l0 x3_1 true ((rd_T140 l0 x3_1).f0) ((rd_T140 l0 x3_1).f1) ((rd_T140 l0 x3_1).f2) ((rd_T140 l0 x3_1).f3) ((rd_T140 l0 x3_1).f4) ((rd_T140 l0 x3_1).f5)) else (if (((rd_T140 l0 x3_1).f5).length : Int) > 12 then (spec_BoxesOK.j1 k1 l0 x3_1 true ((rd_T140 l0 x3_1).f0) ((rd_T140 l0 x3_1).f1) ((rd_T140 l0 x3_1).f2) ((rd_T140 l0 x3_1).f3) ((rd_T140 l0 x3_1).f4) ((rd_T140 l0 x3_1).f5)) else (if x3_1 ≤ (l0.length : Int) then ((spec_l03Find.f k1 (l0.take (x3_1 : Int).toNat) ((rd_T140 l0 x3_1).f0) ((rd_T140 l0 x3_1).f1) ((rd_T140 l0 x3_1).f2) ((rd_T140 l0 x3_1).f3) ((rd_T140 l0 x3_1).f4) ((rd_T140 l0 x3_1).f5)).bind fun t127 => (spec_BoxesOK.j1 k1 l0 x3_1 (decide (t127 ≥ 0)) ((rd_T140 l0 x3_1).f0) ((rd_T140 l0 x3_1).f1) ((rd_T140 l0 x3_1).f2) ((rd_T140 l0 x3_1).f3) ((rd_T140 l0 x3_1).f4) ((rd_T140 l0 x3_1).f5))) else (none)))) else (spec_BoxesOK.j1 k1 l0 x3_1 true ((rd_T140 l0 x3_1).f0) ((rd_T140 l0 x3_1).f1) ((rd_T140 l0 x3_1).f2) ((rd_T140 l0 x3_1).f3) ((rd_T140 l0 x3_1).f4) ((rd_T140 l0 x3_1).f5)))) = some r := by rw [if_pos rfl] at H; exact H
        clear H
        have H := H1
        clear H1
        replace H := Option.bind_eq_some_iff.mp H
        obtain ⟨t122, A140, H⟩ := H
        replace H : (if t122 = true then (if (((rd_T140 l0 x3_1).f5).length : Int) = 0 then (spec_BoxesOK.j1 k1 l0 x3_1 true ((rd_T140 l0 x3_1).f0) ((rd_T140 l0 x3_1).f1) ((rd_T140 l0 x3_1).f2) ((rd_T140 l0 x3_1).f3) ((rd_T140 l0 x3_1).f4) ((rd_T140 l0 x3_1).f5)) else (if (((rd_T140 l0 x3_1).f5).length : Int) > 12 then (spec_BoxesOK.j1 k1 l0 x3_1 true ((rd_T140 l0 x3_1).f0) ((rd_T140 l0 x3_1).f1) ((rd_T140 l0 x3_1).f2) ((rd_T140 l0 x3_1).f3) ((rd_T140 l0 x3_1).f4) ((rd_T140 l0 x3_1).f5)) else (if x3_1 ≤ (l0.length : Int) then ((spec_l03Find.f k1 (l0.take (x3_1 : Int).toNat) ((rd_T140 l0 x3_1).f0) ((rd_T140 l0 x3_1).f1) ((rd_T140 l0 x3_1).f2) ((rd_T140 l0 x3_1).f3) ((rd_T140 l0 x3_1).f4) ((rd_T140 l0 x3_1).f5)).bind fun t127 => (spec_BoxesOK.j1 k1 l0 x3_1 (decide (t127 ≥ 0)) ((rd_T140 l0 x3_1).f0) ((rd_T140 l0 x3_1).f1) ((rd_T140 l0 x3_1).f2) ((rd_T140 l0 x3_1).f3) ((rd_T140 l0 x3_1).f4) ((rd_T140 l0 x3_1).f5))) else (none)))) else (spec_BoxesOK.j1 k1 l0 x3_1 true ((rd_T140 l0 x3_1).f0) ((rd_T140 l0 x3_1).f1) ((rd_T140 l0 x3_1).f2) ((rd_T140 l0 x3_1).f3) ((rd_T140 l0 x3_1).f4) ((rd_T140 l0 x3_1).f5))) = some r := H
        have A14 := Aside0.mk A140
        clear A140
        by_cases c15 : t122 = true
        rotate_left
        · replace c15 := Bool.eq_false_iff.mpr c15
          subst c15
          have H1 : (spec_BoxesOK.j1 k1 l0 x3_1 true ((rd_T140 l0 x3_1).f0) ((rd_T140 l0 x3_1).f1) ((rd_T140 l0 x3_1).f2) ((rd_T140 l0 x3_1).f3) ((rd_T140 l0 x3_1).f4) ((rd_T140 l0 x3_1).f5)) = some r := by rw [if_neg (show ¬ (false = true) by decide)] at H; exact H
          clear H
          have H := H1
          clear H1
          have H' := Aside0.mk H
          clear H
          try go_wp2
          have n0_ : Aside0 (((((((w6.setCell ⟨gb119, 0, none⟩ (.string ((rd_T140 l0 x3_1).f0))).setCell ⟨gb119, 1, none⟩ (.string ((rd_T140 l0 x3_1).f1))).setCell ⟨gb119, 2, none⟩ (.int .i64 ((rd_T140 l0 x3_1).f2))).setCell ⟨gb119, 3, none⟩ (.int .i64 ((rd_T140 l0 x3_1).f3))).setCell ⟨gb119, 4, none⟩ (.int .i64 ((rd_T140 l0 x3_1).f4))).setCell ⟨gb119, 5, none⟩ (.slice A118_5 ((rd_T140 l0 x3_1).f5).length c118_5)).heap[gb119]? = some (.cells #[.string ((rd_T140 l0 x3_1).f0), .string ((rd_T140 l0 x3_1).f1), .int .i64 ((rd_T140 l0 x3_1).f2), .int .i64 ((rd_T140 l0 x3_1).f3), .int .i64 ((rd_T140 l0 x3_1).f4), .slice A118_5 ((rd_T140 l0 x3_1).f5).length c118_5] 140 (0, 0))) := ⟨by (with_reducible repeat (first | refine blk_drewN ?_ _ | refine blk_drew ?_ | refine blk_alloc ?_ _)); refine blk_put (cs := #[.string ((rd_T140 l0 x3_1).f0), .string ((rd_T140 l0 x3_1).f1), .int .i64 ((rd_T140 l0 x3_1).f2), .int .i64 ((rd_T140 l0 x3_1).f3), .int .i64 ((rd_T140 l0 x3_1).f4), .slice none 0 0]) ?_ 5 _ rfl; (with_reducible repeat (first | refine blk_drewN ?_ _ | refine blk_drew ?_ | refine blk_alloc ?_ _)); refine blk_put (cs := #[.string ((rd_T140 l0 x3_1).f0), .string ((rd_T140 l0 x3_1).f1), .int .i64 ((rd_T140 l0 x3_1).f2), .int .i64 ((rd_T140 l0 x3_1).f3), .int .i64 0, .slice none 0 0]) ?_ 4 _ rfl; (with_reducible repeat (first | refine blk_drewN ?_ _ | refine blk_drew ?_ | refine blk_alloc ?_ _)); refine blk_put (cs := #[.string ((rd_T140 l0 x3_1).f0), .string ((rd_T140 l0 x3_1).f1), .int .i64 ((rd_T140 l0 x3_1).f2), .int .i64 0, .int .i64 0, .slice none 0 0]) ?_ 3 _ rfl; (with_reducible repeat (first | refine blk_drewN ?_ _ | refine blk_drew ?_ | refine blk_alloc ?_ _)); refine blk_put (cs := #[.string ((rd_T140 l0 x3_1).f0), .string ((rd_T140 l0 x3_1).f1), .int .i64 0, .int .i64 0, .int .i64 0, .slice none 0 0]) ?_ 2 _ rfl; (with_reducible repeat (first | refine blk_drewN ?_ _ | refine blk_drew ?_ | refine blk_alloc ?_ _)); refine blk_put (cs := #[.string ((rd_T140 l0 x3_1).f0), .string (⟨#[]⟩ : ByteArray), .int .i64 0, .int .i64 0, .int .i64 0, .slice none 0 0]) ?_ 1 _ rfl; (with_reducible repeat (first | refine blk_drewN ?_ _ | refine blk_drew ?_ | refine blk_alloc ?_ _)); refine blk_put (cs := #[.string (⟨#[]⟩ : ByteArray), .string (⟨#[]⟩ : ByteArray), .int .i64 0, .int .i64 0, .int .i64 0, .slice none 0 0]) ?_ 0 _ rfl; (with_reducible repeat (first | refine blk_drewN ?_ _ | refine blk_drew ?_ | refine blk_alloc ?_ _)); exact BK119.out⟩
          have n1_ : Aside0 (Below w.heap.size w ((((((w6.setCell ⟨gb119, 0, none⟩ (.string ((rd_T140 l0 x3_1).f0))).setCell ⟨gb119, 1, none⟩ (.string ((rd_T140 l0 x3_1).f1))).setCell ⟨gb119, 2, none⟩ (.int .i64 ((rd_T140 l0 x3_1).f2))).setCell ⟨gb119, 3, none⟩ (.int .i64 ((rd_T140 l0 x3_1).f3))).setCell ⟨gb119, 4, none⟩ (.int .i64 ((rd_T140 l0 x3_1).f4))).setCell ⟨gb119, 5, none⟩ (.slice A118_5 ((rd_T140 l0 x3_1).f5).length c118_5))) := ⟨by repeat (first | (with_reducible first | exact HB.out | apply below_alloc | apply pw_below_drewN | apply below_drew1 | refine below_set ?_ GE119.out) | exact HB.out)⟩
          (try clear BK119)
          (try clear HB)
          generalize ((((((w6.setCell ⟨gb119, 0, none⟩ (.string ((rd_T140 l0 x3_1).f0))).setCell ⟨gb119, 1, none⟩ (.string ((rd_T140 l0 x3_1).f1))).setCell ⟨gb119, 2, none⟩ (.int .i64 ((rd_T140 l0 x3_1).f2))).setCell ⟨gb119, 3, none⟩ (.int .i64 ((rd_T140 l0 x3_1).f3))).setCell ⟨gb119, 4, none⟩ (.int .i64 ((rd_T140 l0 x3_1).f4))).setCell ⟨gb119, 5, none⟩ (.slice A118_5 ((rd_T140 l0 x3_1).f5).length c118_5)) = w29 at n0_ n1_ ⊢
          have BK119 := n0_
          have HB := n1_
          clear n0_ n1_
          have n0_ := Aside0.mk (blk_drew BK119.out)
          have n1_ := Aside0.mk (below_drew1 HB.out)
          clear BK119
          clear HB
          have BK119 := n0_
          have HB := n1_
          clear n0_ n1_
          refine start_ (n := 48) (S := fun w' => w'.cell? ⟨gb119, 0, none⟩ = some (.string ((rd_T140 l0 x3_1).f0)) ∧ w'.cell? ⟨gb119, 1, none⟩ = some (.string ((rd_T140 l0 x3_1).f1)) ∧ w'.cell? ⟨gb119, 2, none⟩ = some (.int .i64 ((rd_T140 l0 x3_1).f2)) ∧ w'.cell? ⟨gb119, 3, none⟩ = some (.int .i64 ((rd_T140 l0 x3_1).f3)) ∧ w'.cell? ⟨gb119, 4, none⟩ = some (.int .i64 ((rd_T140 l0 x3_1).f4)) ∧ w'.cell? ⟨gb119, 5, none⟩ = some (.slice A118_5 ((rd_T140 l0 x3_1).f5).length c118_5)) (ds := []) _ (by kernel_rfl) rfl rfl ⟨(blk_cell BK119.out 0).trans rfl, (blk_cell BK119.out 1).trans rfl, (blk_cell BK119.out 2).trans rfl, (blk_cell BK119.out 3).trans rfl, (blk_cell BK119.out 4).trans rfl, (blk_cell BK119.out 5).trans rfl⟩ (fun hHeld => ?_); refine with_tabW spec_BoxesOK.tab7 spec_BoxesOK.bits7 (fun HT_ HW_ => ?_)
          generalize w29.drew = w30 at BK119 HB hHeld ⊢
          refine pv_ 0 21 HT_ (bm 48 1) ?_
          refine tk_ 1 22 HT_ HW_ (bm 48 3) hHeld ?_ (hy := Or.inl ⟨by rfl, by rintro w' ⟨s0, s1, s2, s3, s4, s5⟩; go_simp; with_reducible rfl⟩)
          refine pv_ 2 23 HT_ (bm 48 7) ?_
          refine pv_ 3 24 HT_ (bm 48 15) ?_
          refine pv_ 4 25 HT_ (bm 48 31) ?_
          refine pv_ 5 26 HT_ (bm 48 63) ?_
          refine tk_ 6 27 HT_ HW_ (bm 48 127) hHeld ?_ (hy := Or.inl ⟨by rfl, by rintro w' ⟨s0, s1, s2, s3, s4, s5⟩; go_simp; with_reducible rfl⟩)
          refine pv_ 7 28 HT_ (bm 48 255) ?_
          refine pv_ 8 29 HT_ (bm 48 511) ?_
          refine pv_ 9 30 HT_ (bm 48 1023) ?_
          refine pv_ 10 31 HT_ (bm 48 2047) ?_
          refine pv_ 11 32 HT_ (bm 48 4095) ?_
          refine tk_ 12 33 HT_ HW_ (bm 48 8191) hHeld ?_ (hy := Or.inl ⟨by rfl, by rintro w' ⟨s0, s1, s2, s3, s4, s5⟩; go_simp; with_reducible rfl⟩)
          refine one_ (i := 13) (N := some 34) (bm 48 16383) rfl rfl (one_of HT_.out (by kernel_rfl)) (by decide) (fun K hK => ?_)
          refine goes_ Try.func100 (by kernel_rfl) rfl #[.int .i64 ((rd_T140 l0 x3_1).f2), .int .i64 0, .int .i64 65535] (by rfl) rfl rfl (by (try simp only [List.map_toArray, List.map_cons, List.map_nil]); first | done | rfl | (simp only [List.length_drop, List.length_take]; rfl)) ?_
          with_reducible refine (spec_l01In.calls ((rd_T140 l0 x3_1).f2) 0 65535 true _ A10.out).mono ?_
          rintro e w' ⟨rfl, ⟨nd, rfl⟩⟩
          refine ⟨_, rfl, ?_⟩
          refine hK.out _ _ ⟨(blk_cell BK119.out 0).trans rfl, (blk_cell BK119.out 1).trans rfl, (blk_cell BK119.out 2).trans rfl, (blk_cell BK119.out 3).trans rfl, (blk_cell BK119.out 4).trans rfl, (blk_cell BK119.out 5).trans rfl⟩ (fun hHeld => ?_)
          clear hK K
          refine norm_ (a' := ?_) ?_ ?_
          rotate_left
          · show Act.put _ (some 34) _ = _
            simp only [Act.put, List.setIfInBounds_toArray, List.set_cons_zero, List.set_cons_succ, i64_w, i32_w]
            rfl
          refine pv_ 14 35 HT_ (bm 48 32767) ?_
          refine pv_ 15 36 HT_ (bm 48 65535) ?_
          refine pv_ 16 37 HT_ (bm 48 131071) ?_
          refine pv_ 17 38 HT_ (bm 48 262143) ?_
          refine tk_ 18 39 HT_ HW_ (bm 48 524287) hHeld ?_ (hy := Or.inl ⟨by rfl, by rintro w' ⟨s0, s1, s2, s3, s4, s5⟩; go_simp; with_reducible rfl⟩)
          refine one_ (i := 19) (N := some 40) (bm 48 1048575) rfl rfl (one_of HT_.out (by kernel_rfl)) (by decide) (fun K hK => ?_)
          refine goes_ Try.func100 (by kernel_rfl) rfl #[.int .i64 ((rd_T140 l0 x3_1).f3), .int .i64 0, .int .i64 255] (by rfl) rfl rfl (by (try simp only [List.map_toArray, List.map_cons, List.map_nil]); first | done | rfl | (simp only [List.length_drop, List.length_take]; rfl)) ?_
          with_reducible refine (spec_l01In.calls ((rd_T140 l0 x3_1).f3) 0 255 true _ A12.out).mono ?_
          rintro e w' ⟨rfl, ⟨nd, rfl⟩⟩
          refine ⟨_, rfl, ?_⟩
          refine hK.out _ _ ⟨(blk_cell BK119.out 0).trans rfl, (blk_cell BK119.out 1).trans rfl, (blk_cell BK119.out 2).trans rfl, (blk_cell BK119.out 3).trans rfl, (blk_cell BK119.out 4).trans rfl, (blk_cell BK119.out 5).trans rfl⟩ (fun hHeld => ?_)
          clear hK K
          refine norm_ (a' := ?_) ?_ ?_
          rotate_left
          · show Act.put _ (some 40) _ = _
            simp only [Act.put, List.setIfInBounds_toArray, List.set_cons_zero, List.set_cons_succ, i64_w, i32_w]
            rfl
          refine pv_ 20 41 HT_ (bm 48 2097151) ?_
          refine pv_ 21 42 HT_ (bm 48 4194303) ?_
          refine pv_ 22 43 HT_ (bm 48 8388607) ?_
          refine pv_ 23 44 HT_ (bm 48 16777215) ?_
          refine tk_ 24 45 HT_ HW_ (bm 48 33554431) hHeld ?_ (hy := Or.inl ⟨by rfl, by rintro w' ⟨s0, s1, s2, s3, s4, s5⟩; go_simp; with_reducible rfl⟩)
          refine one_ (i := 25) (N := some 46) (bm 48 67108863) rfl rfl (one_of HT_.out (by kernel_rfl)) (by decide) (fun K hK => ?_)
          refine goes_ Try.func100 (by kernel_rfl) rfl #[.int .i64 ((rd_T140 l0 x3_1).f4), .int .i64 0, .int .i64 1000030] (by rfl) rfl rfl (by (try simp only [List.map_toArray, List.map_cons, List.map_nil]); first | done | rfl | (simp only [List.length_drop, List.length_take]; rfl)) ?_
          with_reducible refine (spec_l01In.calls ((rd_T140 l0 x3_1).f4) 0 1000030 false _ A14.out).mono ?_
          rintro e w' ⟨rfl, ⟨nd, rfl⟩⟩
          refine ⟨_, rfl, ?_⟩
          refine hK.out _ _ ⟨(blk_cell BK119.out 0).trans rfl, (blk_cell BK119.out 1).trans rfl, (blk_cell BK119.out 2).trans rfl, (blk_cell BK119.out 3).trans rfl, (blk_cell BK119.out 4).trans rfl, (blk_cell BK119.out 5).trans rfl⟩ (fun hHeld => ?_)
          clear hK K
          refine norm_ (a' := ?_) ?_ ?_
          rotate_left
          · show Act.put _ (some 46) _ = _
            simp only [Act.put, List.setIfInBounds_toArray, List.set_cons_zero, List.set_cons_succ, i64_w, i32_w]
            rfl
          refine pv_ 26 47 HT_ (bm 48 134217727) ?_
          refine pv_ 27 48 HT_ (bm 48 268435455) ?_
          refine pv_ 28 49 HT_ (bm 48 536870911) ?_
          refine pw_ 29 50 HT_ (bm 48 1073741823) ?_
          refine pw_ 30 51 HT_ (bm 48 2147483647) ?_
          refine pw_ 31 52 HT_ (bm 48 4294967295) ?_
          refine pw_ 32 53 HT_ (bm 48 8589934591) ?_
          refine pv_ 33 54 HT_ (bm 48 17179869183) ?_
          refine pv_ 34 55 HT_ (bm 48 34359738367) ?_
          refine pw_ 35 56 HT_ (bm 48 68719476735) ?_
          refine pw_ 36 57 HT_ (bm 48 137438953471) ?_
          refine pw_ 37 58 HT_ (bm 48 274877906943) ?_
          refine pw_ 38 59 HT_ (bm 48 549755813887) ?_
          refine pv_ 39 60 HT_ (bm 48 1099511627775) ?_
          refine pv_ 40 61 HT_ (bm 48 2199023255551) ?_
          refine pw_ 41 62 HT_ (bm 48 4398046511103) ?_
          refine pw_ 42 63 HT_ (bm 48 8796093022207) ?_
          refine pw_ 43 64 HT_ (bm 48 17592186044415) ?_
          refine pw_ 44 65 HT_ (bm 48 35184372088831) ?_
          refine pw_ 45 66 HT_ (bm 48 70368744177663) ?_
          refine pw_ 46 67 HT_ (bm 48 140737488355327) ?_
          refine pv_ 47 68 HT_ (bm 48 281474976710655) ?_
          refine done_ (done_of HT_.out (by kernel_rfl)) ?_
          try go_wp2
          go_meet
          case rel => exact ⟨_, (true), (by first | rfl | (simp; done) | (simp [*]; done)), H', ⟨by have := HK1.out; first | omega | exact Nat.le_refl _⟩, ⟨by (with_reducible repeat (first | refine blk_drewN ?_ _ | refine blk_drew ?_ | refine blk_alloc ?_ _)); exact BK119.out⟩, ⟨by repeat (first | (with_reducible first | exact HB.out | apply below_alloc | apply pw_below_drewN | apply below_drew1 | refine below_set ?_ GE119.out) | exact HB.out)⟩⟩
        subst c15
        have H1 : (if (((rd_T140 l0 x3_1).f5).length : Int) = 0 then (spec_BoxesOK.j1 k1 l0 x3_1 true ((rd_T140 l0 x3_1).f0) ((rd_T140 l0 x3_1).f1) ((rd_T140 l0 x3_1).f2) ((rd_T140 l0 x3_1).f3) ((rd_T140 l0 x3_1).f4) ((rd_T140 l0 x3_1).f5)) else (if (((rd_T140 l0 x3_1).f5).length : Int) > 12 then (spec_BoxesOK.j1 k1 l0 x3_1 true ((rd_T140 l0 x3_1).f0) ((rd_T140 l0 x3_1).f1) ((rd_T140 l0 x3_1).f2) ((rd_T140 l0 x3_1).f3) ((rd_T140 l0 x3_1).f4) ((rd_T140 l0 x3_1).f5)) else (if x3_1 ≤ (l0.length : Int) then ((spec_l03Find.f k1 (l0.take (x3_1 : Int).toNat) ((rd_T140 l0 x3_1).f0) ((rd_T140 l0 x3_1).f1) ((rd_T140 l0 x3_1).f2) ((rd_T140 l0 x3_1).f3) ((rd_T140 l0 x3_1).f4) ((rd_T140 l0 x3_1).f5)).bind fun t127 => (spec_BoxesOK.j1 k1 l0 x3_1 (decide (t127 ≥ 0)) ((rd_T140 l0 x3_1).f0) ((rd_T140 l0 x3_1).f1) ((rd_T140 l0 x3_1).f2) ((rd_T140 l0 x3_1).f3) ((rd_T140 l0 x3_1).f4) ((rd_T140 l0 x3_1).f5))) else (none)))) = some r := by rw [if_pos rfl] at H; exact H
        clear H
        have H := H1
        clear H1
        by_cases c16 : (((rd_T140 l0 x3_1).f5).length : Int) = 0
        · rw [if_pos c16] at H
          have c16b0 : ((((rd_T140 l0 x3_1).f5).length : Int) == 0) = true := beq_iff_eq.mpr c16
          have c16b1 : ((((rd_T140 l0 x3_1).f5).length : Int) != 0) = false := bne_eq_false_iff_eq.mpr c16
          clear c16
          have H' := Aside0.mk H
          clear H
          try go_wp2
          have n0_ : Aside0 (((((((w6.setCell ⟨gb119, 0, none⟩ (.string ((rd_T140 l0 x3_1).f0))).setCell ⟨gb119, 1, none⟩ (.string ((rd_T140 l0 x3_1).f1))).setCell ⟨gb119, 2, none⟩ (.int .i64 ((rd_T140 l0 x3_1).f2))).setCell ⟨gb119, 3, none⟩ (.int .i64 ((rd_T140 l0 x3_1).f3))).setCell ⟨gb119, 4, none⟩ (.int .i64 ((rd_T140 l0 x3_1).f4))).setCell ⟨gb119, 5, none⟩ (.slice A118_5 ((rd_T140 l0 x3_1).f5).length c118_5)).heap[gb119]? = some (.cells #[.string ((rd_T140 l0 x3_1).f0), .string ((rd_T140 l0 x3_1).f1), .int .i64 ((rd_T140 l0 x3_1).f2), .int .i64 ((rd_T140 l0 x3_1).f3), .int .i64 ((rd_T140 l0 x3_1).f4), .slice A118_5 ((rd_T140 l0 x3_1).f5).length c118_5] 140 (0, 0))) := ⟨by (with_reducible repeat (first | refine blk_drewN ?_ _ | refine blk_drew ?_ | refine blk_alloc ?_ _)); refine blk_put (cs := #[.string ((rd_T140 l0 x3_1).f0), .string ((rd_T140 l0 x3_1).f1), .int .i64 ((rd_T140 l0 x3_1).f2), .int .i64 ((rd_T140 l0 x3_1).f3), .int .i64 ((rd_T140 l0 x3_1).f4), .slice none 0 0]) ?_ 5 _ rfl; (with_reducible repeat (first | refine blk_drewN ?_ _ | refine blk_drew ?_ | refine blk_alloc ?_ _)); refine blk_put (cs := #[.string ((rd_T140 l0 x3_1).f0), .string ((rd_T140 l0 x3_1).f1), .int .i64 ((rd_T140 l0 x3_1).f2), .int .i64 ((rd_T140 l0 x3_1).f3), .int .i64 0, .slice none 0 0]) ?_ 4 _ rfl; (with_reducible repeat (first | refine blk_drewN ?_ _ | refine blk_drew ?_ | refine blk_alloc ?_ _)); refine blk_put (cs := #[.string ((rd_T140 l0 x3_1).f0), .string ((rd_T140 l0 x3_1).f1), .int .i64 ((rd_T140 l0 x3_1).f2), .int .i64 0, .int .i64 0, .slice none 0 0]) ?_ 3 _ rfl; (with_reducible repeat (first | refine blk_drewN ?_ _ | refine blk_drew ?_ | refine blk_alloc ?_ _)); refine blk_put (cs := #[.string ((rd_T140 l0 x3_1).f0), .string ((rd_T140 l0 x3_1).f1), .int .i64 0, .int .i64 0, .int .i64 0, .slice none 0 0]) ?_ 2 _ rfl; (with_reducible repeat (first | refine blk_drewN ?_ _ | refine blk_drew ?_ | refine blk_alloc ?_ _)); refine blk_put (cs := #[.string ((rd_T140 l0 x3_1).f0), .string (⟨#[]⟩ : ByteArray), .int .i64 0, .int .i64 0, .int .i64 0, .slice none 0 0]) ?_ 1 _ rfl; (with_reducible repeat (first | refine blk_drewN ?_ _ | refine blk_drew ?_ | refine blk_alloc ?_ _)); refine blk_put (cs := #[.string (⟨#[]⟩ : ByteArray), .string (⟨#[]⟩ : ByteArray), .int .i64 0, .int .i64 0, .int .i64 0, .slice none 0 0]) ?_ 0 _ rfl; (with_reducible repeat (first | refine blk_drewN ?_ _ | refine blk_drew ?_ | refine blk_alloc ?_ _)); exact BK119.out⟩
          have n1_ : Aside0 (Below w.heap.size w ((((((w6.setCell ⟨gb119, 0, none⟩ (.string ((rd_T140 l0 x3_1).f0))).setCell ⟨gb119, 1, none⟩ (.string ((rd_T140 l0 x3_1).f1))).setCell ⟨gb119, 2, none⟩ (.int .i64 ((rd_T140 l0 x3_1).f2))).setCell ⟨gb119, 3, none⟩ (.int .i64 ((rd_T140 l0 x3_1).f3))).setCell ⟨gb119, 4, none⟩ (.int .i64 ((rd_T140 l0 x3_1).f4))).setCell ⟨gb119, 5, none⟩ (.slice A118_5 ((rd_T140 l0 x3_1).f5).length c118_5))) := ⟨by repeat (first | (with_reducible first | exact HB.out | apply below_alloc | apply pw_below_drewN | apply below_drew1 | refine below_set ?_ GE119.out) | exact HB.out)⟩
          (try clear BK119)
          (try clear HB)
          generalize ((((((w6.setCell ⟨gb119, 0, none⟩ (.string ((rd_T140 l0 x3_1).f0))).setCell ⟨gb119, 1, none⟩ (.string ((rd_T140 l0 x3_1).f1))).setCell ⟨gb119, 2, none⟩ (.int .i64 ((rd_T140 l0 x3_1).f2))).setCell ⟨gb119, 3, none⟩ (.int .i64 ((rd_T140 l0 x3_1).f3))).setCell ⟨gb119, 4, none⟩ (.int .i64 ((rd_T140 l0 x3_1).f4))).setCell ⟨gb119, 5, none⟩ (.slice A118_5 ((rd_T140 l0 x3_1).f5).length c118_5)) = w17 at n0_ n1_ ⊢
          have BK119 := n0_
          have HB := n1_
          clear n0_ n1_
          have n0_ := Aside0.mk (blk_drew BK119.out)
          have n1_ := Aside0.mk (below_drew1 HB.out)
          clear BK119
          clear HB
          have BK119 := n0_
          have HB := n1_
          clear n0_ n1_
          refine start_ (n := 48) (S := fun w' => w'.cell? ⟨gb119, 0, none⟩ = some (.string ((rd_T140 l0 x3_1).f0)) ∧ w'.cell? ⟨gb119, 1, none⟩ = some (.string ((rd_T140 l0 x3_1).f1)) ∧ w'.cell? ⟨gb119, 2, none⟩ = some (.int .i64 ((rd_T140 l0 x3_1).f2)) ∧ w'.cell? ⟨gb119, 3, none⟩ = some (.int .i64 ((rd_T140 l0 x3_1).f3)) ∧ w'.cell? ⟨gb119, 4, none⟩ = some (.int .i64 ((rd_T140 l0 x3_1).f4)) ∧ w'.cell? ⟨gb119, 5, none⟩ = some (.slice A118_5 ((rd_T140 l0 x3_1).f5).length c118_5)) (ds := []) _ (by kernel_rfl) rfl rfl ⟨(blk_cell BK119.out 0).trans rfl, (blk_cell BK119.out 1).trans rfl, (blk_cell BK119.out 2).trans rfl, (blk_cell BK119.out 3).trans rfl, (blk_cell BK119.out 4).trans rfl, (blk_cell BK119.out 5).trans rfl⟩ (fun hHeld => ?_); refine with_tabW spec_BoxesOK.tab7 spec_BoxesOK.bits7 (fun HT_ HW_ => ?_)
          generalize w17.drew = w18 at BK119 HB hHeld ⊢
          refine pv_ 0 21 HT_ (bm 48 1) ?_
          refine tk_ 1 22 HT_ HW_ (bm 48 3) hHeld ?_ (hy := Or.inl ⟨by rfl, by rintro w' ⟨s0, s1, s2, s3, s4, s5⟩; go_simp; with_reducible rfl⟩)
          refine pv_ 2 23 HT_ (bm 48 7) ?_
          refine pv_ 3 24 HT_ (bm 48 15) ?_
          refine pv_ 4 25 HT_ (bm 48 31) ?_
          refine pv_ 5 26 HT_ (bm 48 63) ?_
          refine tk_ 6 27 HT_ HW_ (bm 48 127) hHeld ?_ (hy := Or.inl ⟨by rfl, by rintro w' ⟨s0, s1, s2, s3, s4, s5⟩; go_simp; with_reducible rfl⟩)
          refine pv_ 7 28 HT_ (bm 48 255) ?_
          refine pv_ 8 29 HT_ (bm 48 511) ?_
          refine pv_ 9 30 HT_ (bm 48 1023) ?_
          refine pv_ 10 31 HT_ (bm 48 2047) ?_
          refine pv_ 11 32 HT_ (bm 48 4095) ?_
          refine tk_ 12 33 HT_ HW_ (bm 48 8191) hHeld ?_ (hy := Or.inl ⟨by rfl, by rintro w' ⟨s0, s1, s2, s3, s4, s5⟩; go_simp; with_reducible rfl⟩)
          refine one_ (i := 13) (N := some 34) (bm 48 16383) rfl rfl (one_of HT_.out (by kernel_rfl)) (by decide) (fun K hK => ?_)
          refine goes_ Try.func100 (by kernel_rfl) rfl #[.int .i64 ((rd_T140 l0 x3_1).f2), .int .i64 0, .int .i64 65535] (by rfl) rfl rfl (by (try simp only [List.map_toArray, List.map_cons, List.map_nil]); first | done | rfl | (simp only [List.length_drop, List.length_take]; rfl)) ?_
          with_reducible refine (spec_l01In.calls ((rd_T140 l0 x3_1).f2) 0 65535 true _ A10.out).mono ?_
          rintro e w' ⟨rfl, ⟨nd, rfl⟩⟩
          refine ⟨_, rfl, ?_⟩
          refine hK.out _ _ ⟨(blk_cell BK119.out 0).trans rfl, (blk_cell BK119.out 1).trans rfl, (blk_cell BK119.out 2).trans rfl, (blk_cell BK119.out 3).trans rfl, (blk_cell BK119.out 4).trans rfl, (blk_cell BK119.out 5).trans rfl⟩ (fun hHeld => ?_)
          clear hK K
          refine norm_ (a' := ?_) ?_ ?_
          rotate_left
          · show Act.put _ (some 34) _ = _
            simp only [Act.put, List.setIfInBounds_toArray, List.set_cons_zero, List.set_cons_succ, i64_w, i32_w]
            rfl
          refine pv_ 14 35 HT_ (bm 48 32767) ?_
          refine pv_ 15 36 HT_ (bm 48 65535) ?_
          refine pv_ 16 37 HT_ (bm 48 131071) ?_
          refine pv_ 17 38 HT_ (bm 48 262143) ?_
          refine tk_ 18 39 HT_ HW_ (bm 48 524287) hHeld ?_ (hy := Or.inl ⟨by rfl, by rintro w' ⟨s0, s1, s2, s3, s4, s5⟩; go_simp; with_reducible rfl⟩)
          refine one_ (i := 19) (N := some 40) (bm 48 1048575) rfl rfl (one_of HT_.out (by kernel_rfl)) (by decide) (fun K hK => ?_)
          refine goes_ Try.func100 (by kernel_rfl) rfl #[.int .i64 ((rd_T140 l0 x3_1).f3), .int .i64 0, .int .i64 255] (by rfl) rfl rfl (by (try simp only [List.map_toArray, List.map_cons, List.map_nil]); first | done | rfl | (simp only [List.length_drop, List.length_take]; rfl)) ?_
          with_reducible refine (spec_l01In.calls ((rd_T140 l0 x3_1).f3) 0 255 true _ A12.out).mono ?_
          rintro e w' ⟨rfl, ⟨nd, rfl⟩⟩
          refine ⟨_, rfl, ?_⟩
          refine hK.out _ _ ⟨(blk_cell BK119.out 0).trans rfl, (blk_cell BK119.out 1).trans rfl, (blk_cell BK119.out 2).trans rfl, (blk_cell BK119.out 3).trans rfl, (blk_cell BK119.out 4).trans rfl, (blk_cell BK119.out 5).trans rfl⟩ (fun hHeld => ?_)
          clear hK K
          refine norm_ (a' := ?_) ?_ ?_
          rotate_left
          · show Act.put _ (some 40) _ = _
            simp only [Act.put, List.setIfInBounds_toArray, List.set_cons_zero, List.set_cons_succ, i64_w, i32_w]
            rfl
          refine pv_ 20 41 HT_ (bm 48 2097151) ?_
          refine pv_ 21 42 HT_ (bm 48 4194303) ?_
          refine pv_ 22 43 HT_ (bm 48 8388607) ?_
          refine pv_ 23 44 HT_ (bm 48 16777215) ?_
          refine tk_ 24 45 HT_ HW_ (bm 48 33554431) hHeld ?_ (hy := Or.inl ⟨by rfl, by rintro w' ⟨s0, s1, s2, s3, s4, s5⟩; go_simp; with_reducible rfl⟩)
          refine one_ (i := 25) (N := some 46) (bm 48 67108863) rfl rfl (one_of HT_.out (by kernel_rfl)) (by decide) (fun K hK => ?_)
          refine goes_ Try.func100 (by kernel_rfl) rfl #[.int .i64 ((rd_T140 l0 x3_1).f4), .int .i64 0, .int .i64 1000030] (by rfl) rfl rfl (by (try simp only [List.map_toArray, List.map_cons, List.map_nil]); first | done | rfl | (simp only [List.length_drop, List.length_take]; rfl)) ?_
          with_reducible refine (spec_l01In.calls ((rd_T140 l0 x3_1).f4) 0 1000030 true _ A14.out).mono ?_
          rintro e w' ⟨rfl, ⟨nd, rfl⟩⟩
          refine ⟨_, rfl, ?_⟩
          refine hK.out _ _ ⟨(blk_cell BK119.out 0).trans rfl, (blk_cell BK119.out 1).trans rfl, (blk_cell BK119.out 2).trans rfl, (blk_cell BK119.out 3).trans rfl, (blk_cell BK119.out 4).trans rfl, (blk_cell BK119.out 5).trans rfl⟩ (fun hHeld => ?_)
          clear hK K
          refine norm_ (a' := ?_) ?_ ?_
          rotate_left
          · show Act.put _ (some 46) _ = _
            simp only [Act.put, List.setIfInBounds_toArray, List.set_cons_zero, List.set_cons_succ, i64_w, i32_w]
            rfl
          refine pv_ 26 47 HT_ (bm 48 134217727) ?_
          refine pv_ 27 48 HT_ (bm 48 268435455) ?_
          refine pv_ 28 49 HT_ (bm 48 536870911) ?_
          refine pv_ 29 50 HT_ (bm 48 1073741823) ?_
          refine tk_ 30 51 HT_ HW_ (bm 48 2147483647) hHeld ?_ (hy := Or.inl ⟨by rfl, by rintro w' ⟨s0, s1, s2, s3, s4, s5⟩; go_simp; with_reducible rfl⟩)
          refine pv_ 31 52 HT_ (bm 48 4294967295) ?_
          refine pv_ 32 53 HT_ (bm 48 8589934591) ?_
          refine pv_ 33 54 HT_ (bm 48 17179869183) ?_
          refine pv_ 34 55 HT_ (bm 48 34359738367) ?_
          refine pw_ 35 56 HT_ (bm 48 68719476735) ?_
          refine pw_ 36 57 HT_ (bm 48 137438953471) ?_
          refine pw_ 37 58 HT_ (bm 48 274877906943) ?_
          refine pw_ 38 59 HT_ (bm 48 549755813887) ?_
          refine pv_ 39 60 HT_ (bm 48 1099511627775) ?_
          refine pv_ 40 61 HT_ (bm 48 2199023255551) ?_
          refine pw_ 41 62 HT_ (bm 48 4398046511103) ?_
          refine pw_ 42 63 HT_ (bm 48 8796093022207) ?_
          refine pw_ 43 64 HT_ (bm 48 17592186044415) ?_
          refine pw_ 44 65 HT_ (bm 48 35184372088831) ?_
          refine pw_ 45 66 HT_ (bm 48 70368744177663) ?_
          refine pw_ 46 67 HT_ (bm 48 140737488355327) ?_
          refine pv_ 47 68 HT_ (bm 48 281474976710655) ?_
          refine done_ (done_of HT_.out (by kernel_rfl)) ?_
          try go_wp2
          go_meet
          case rel => exact ⟨_, (true), (by first | rfl | (simp; done) | (simp [*]; done)), H', ⟨by have := HK1.out; first | omega | exact Nat.le_refl _⟩, ⟨by (with_reducible repeat (first | refine blk_drewN ?_ _ | refine blk_drew ?_ | refine blk_alloc ?_ _)); exact BK119.out⟩, ⟨by repeat (first | (with_reducible first | exact HB.out | apply below_alloc | apply pw_below_drewN | apply below_drew1 | refine below_set ?_ GE119.out) | exact HB.out)⟩⟩
        rw [if_neg c16] at H
        have c16b0 : ((((rd_T140 l0 x3_1).f5).length : Int) == 0) = false := beq_eq_false_iff_ne.mpr c16
        have c16b1 : ((((rd_T140 l0 x3_1).f5).length : Int) != 0) = true := bne_iff_ne.mpr c16
        have c16b2 : ¬ (((rd_T140 l0 x3_1).f5) = []) := fun h_ => c16 (by rw [h_]; rfl)
        by_cases c19 : (((rd_T140 l0 x3_1).f5).length : Int) > 12
        · rw [if_pos c19] at H
          have c19b0 : decide (12 < (((rd_T140 l0 x3_1).f5).length : Int)) = true := decide_eq_true c19
          have c19b1 : decide (12 < ((rd_T140 l0 x3_1).f5).length) = true := decide_eq_true (by omega)
          clear c19
          have H' := Aside0.mk H
          clear H
          try go_wp2
          have n0_ : Aside0 (((((((w6.setCell ⟨gb119, 0, none⟩ (.string ((rd_T140 l0 x3_1).f0))).setCell ⟨gb119, 1, none⟩ (.string ((rd_T140 l0 x3_1).f1))).setCell ⟨gb119, 2, none⟩ (.int .i64 ((rd_T140 l0 x3_1).f2))).setCell ⟨gb119, 3, none⟩ (.int .i64 ((rd_T140 l0 x3_1).f3))).setCell ⟨gb119, 4, none⟩ (.int .i64 ((rd_T140 l0 x3_1).f4))).setCell ⟨gb119, 5, none⟩ (.slice A118_5 ((rd_T140 l0 x3_1).f5).length c118_5)).heap[gb119]? = some (.cells #[.string ((rd_T140 l0 x3_1).f0), .string ((rd_T140 l0 x3_1).f1), .int .i64 ((rd_T140 l0 x3_1).f2), .int .i64 ((rd_T140 l0 x3_1).f3), .int .i64 ((rd_T140 l0 x3_1).f4), .slice A118_5 ((rd_T140 l0 x3_1).f5).length c118_5] 140 (0, 0))) := ⟨by (with_reducible repeat (first | refine blk_drewN ?_ _ | refine blk_drew ?_ | refine blk_alloc ?_ _)); refine blk_put (cs := #[.string ((rd_T140 l0 x3_1).f0), .string ((rd_T140 l0 x3_1).f1), .int .i64 ((rd_T140 l0 x3_1).f2), .int .i64 ((rd_T140 l0 x3_1).f3), .int .i64 ((rd_T140 l0 x3_1).f4), .slice none 0 0]) ?_ 5 _ rfl; (with_reducible repeat (first | refine blk_drewN ?_ _ | refine blk_drew ?_ | refine blk_alloc ?_ _)); refine blk_put (cs := #[.string ((rd_T140 l0 x3_1).f0), .string ((rd_T140 l0 x3_1).f1), .int .i64 ((rd_T140 l0 x3_1).f2), .int .i64 ((rd_T140 l0 x3_1).f3), .int .i64 0, .slice none 0 0]) ?_ 4 _ rfl; (with_reducible repeat (first | refine blk_drewN ?_ _ | refine blk_drew ?_ | refine blk_alloc ?_ _)); refine blk_put (cs := #[.string ((rd_T140 l0 x3_1).f0), .string ((rd_T140 l0 x3_1).f1), .int .i64 ((rd_T140 l0 x3_1).f2), .int .i64 0, .int .i64 0, .slice none 0 0]) ?_ 3 _ rfl; (with_reducible repeat (first | refine blk_drewN ?_ _ | refine blk_drew ?_ | refine blk_alloc ?_ _)); refine blk_put (cs := #[.string ((rd_T140 l0 x3_1).f0), .string ((rd_T140 l0 x3_1).f1), .int .i64 0, .int .i64 0, .int .i64 0, .slice none 0 0]) ?_ 2 _ rfl; (with_reducible repeat (first | refine blk_drewN ?_ _ | refine blk_drew ?_ | refine blk_alloc ?_ _)); refine blk_put (cs := #[.string ((rd_T140 l0 x3_1).f0), .string (⟨#[]⟩ : ByteArray), .int .i64 0, .int .i64 0, .int .i64 0, .slice none 0 0]) ?_ 1 _ rfl; (with_reducible repeat (first | refine blk_drewN ?_ _ | refine blk_drew ?_ | refine blk_alloc ?_ _)); refine blk_put (cs := #[.string (⟨#[]⟩ : ByteArray), .string (⟨#[]⟩ : ByteArray), .int .i64 0, .int .i64 0, .int .i64 0, .slice none 0 0]) ?_ 0 _ rfl; (with_reducible repeat (first | refine blk_drewN ?_ _ | refine blk_drew ?_ | refine blk_alloc ?_ _)); exact BK119.out⟩
          have n1_ : Aside0 (Below w.heap.size w ((((((w6.setCell ⟨gb119, 0, none⟩ (.string ((rd_T140 l0 x3_1).f0))).setCell ⟨gb119, 1, none⟩ (.string ((rd_T140 l0 x3_1).f1))).setCell ⟨gb119, 2, none⟩ (.int .i64 ((rd_T140 l0 x3_1).f2))).setCell ⟨gb119, 3, none⟩ (.int .i64 ((rd_T140 l0 x3_1).f3))).setCell ⟨gb119, 4, none⟩ (.int .i64 ((rd_T140 l0 x3_1).f4))).setCell ⟨gb119, 5, none⟩ (.slice A118_5 ((rd_T140 l0 x3_1).f5).length c118_5))) := ⟨by repeat (first | (with_reducible first | exact HB.out | apply below_alloc | apply pw_below_drewN | apply below_drew1 | refine below_set ?_ GE119.out) | exact HB.out)⟩
          (try clear BK119)
          (try clear HB)
          generalize ((((((w6.setCell ⟨gb119, 0, none⟩ (.string ((rd_T140 l0 x3_1).f0))).setCell ⟨gb119, 1, none⟩ (.string ((rd_T140 l0 x3_1).f1))).setCell ⟨gb119, 2, none⟩ (.int .i64 ((rd_T140 l0 x3_1).f2))).setCell ⟨gb119, 3, none⟩ (.int .i64 ((rd_T140 l0 x3_1).f3))).setCell ⟨gb119, 4, none⟩ (.int .i64 ((rd_T140 l0 x3_1).f4))).setCell ⟨gb119, 5, none⟩ (.slice A118_5 ((rd_T140 l0 x3_1).f5).length c118_5)) = w20 at n0_ n1_ ⊢
          have BK119 := n0_
          have HB := n1_
          clear n0_ n1_
          have n0_ := Aside0.mk (blk_drew BK119.out)
          have n1_ := Aside0.mk (below_drew1 HB.out)
          clear BK119
          clear HB
          have BK119 := n0_
          have HB := n1_
          clear n0_ n1_
          refine start_ (n := 48) (S := fun w' => w'.cell? ⟨gb119, 0, none⟩ = some (.string ((rd_T140 l0 x3_1).f0)) ∧ w'.cell? ⟨gb119, 1, none⟩ = some (.string ((rd_T140 l0 x3_1).f1)) ∧ w'.cell? ⟨gb119, 2, none⟩ = some (.int .i64 ((rd_T140 l0 x3_1).f2)) ∧ w'.cell? ⟨gb119, 3, none⟩ = some (.int .i64 ((rd_T140 l0 x3_1).f3)) ∧ w'.cell? ⟨gb119, 4, none⟩ = some (.int .i64 ((rd_T140 l0 x3_1).f4)) ∧ w'.cell? ⟨gb119, 5, none⟩ = some (.slice A118_5 ((rd_T140 l0 x3_1).f5).length c118_5)) (ds := []) _ (by kernel_rfl) rfl rfl ⟨(blk_cell BK119.out 0).trans rfl, (blk_cell BK119.out 1).trans rfl, (blk_cell BK119.out 2).trans rfl, (blk_cell BK119.out 3).trans rfl, (blk_cell BK119.out 4).trans rfl, (blk_cell BK119.out 5).trans rfl⟩ (fun hHeld => ?_); refine with_tabW spec_BoxesOK.tab7 spec_BoxesOK.bits7 (fun HT_ HW_ => ?_)
          generalize w20.drew = w21 at BK119 HB hHeld ⊢
          refine pv_ 0 21 HT_ (bm 48 1) ?_
          refine tk_ 1 22 HT_ HW_ (bm 48 3) hHeld ?_ (hy := Or.inl ⟨by rfl, by rintro w' ⟨s0, s1, s2, s3, s4, s5⟩; go_simp; with_reducible rfl⟩)
          refine pv_ 2 23 HT_ (bm 48 7) ?_
          refine pv_ 3 24 HT_ (bm 48 15) ?_
          refine pv_ 4 25 HT_ (bm 48 31) ?_
          refine pv_ 5 26 HT_ (bm 48 63) ?_
          refine tk_ 6 27 HT_ HW_ (bm 48 127) hHeld ?_ (hy := Or.inl ⟨by rfl, by rintro w' ⟨s0, s1, s2, s3, s4, s5⟩; go_simp; with_reducible rfl⟩)
          refine pv_ 7 28 HT_ (bm 48 255) ?_
          refine pv_ 8 29 HT_ (bm 48 511) ?_
          refine pv_ 9 30 HT_ (bm 48 1023) ?_
          refine pv_ 10 31 HT_ (bm 48 2047) ?_
          refine pv_ 11 32 HT_ (bm 48 4095) ?_
          refine tk_ 12 33 HT_ HW_ (bm 48 8191) hHeld ?_ (hy := Or.inl ⟨by rfl, by rintro w' ⟨s0, s1, s2, s3, s4, s5⟩; go_simp; with_reducible rfl⟩)
          refine one_ (i := 13) (N := some 34) (bm 48 16383) rfl rfl (one_of HT_.out (by kernel_rfl)) (by decide) (fun K hK => ?_)
          refine goes_ Try.func100 (by kernel_rfl) rfl #[.int .i64 ((rd_T140 l0 x3_1).f2), .int .i64 0, .int .i64 65535] (by rfl) rfl rfl (by (try simp only [List.map_toArray, List.map_cons, List.map_nil]); first | done | rfl | (simp only [List.length_drop, List.length_take]; rfl)) ?_
          with_reducible refine (spec_l01In.calls ((rd_T140 l0 x3_1).f2) 0 65535 true _ A10.out).mono ?_
          rintro e w' ⟨rfl, ⟨nd, rfl⟩⟩
          refine ⟨_, rfl, ?_⟩
          refine hK.out _ _ ⟨(blk_cell BK119.out 0).trans rfl, (blk_cell BK119.out 1).trans rfl, (blk_cell BK119.out 2).trans rfl, (blk_cell BK119.out 3).trans rfl, (blk_cell BK119.out 4).trans rfl, (blk_cell BK119.out 5).trans rfl⟩ (fun hHeld => ?_)
          clear hK K
          refine norm_ (a' := ?_) ?_ ?_
          rotate_left
          · show Act.put _ (some 34) _ = _
            simp only [Act.put, List.setIfInBounds_toArray, List.set_cons_zero, List.set_cons_succ, i64_w, i32_w]
            rfl
          refine pv_ 14 35 HT_ (bm 48 32767) ?_
          refine pv_ 15 36 HT_ (bm 48 65535) ?_
          refine pv_ 16 37 HT_ (bm 48 131071) ?_
          refine pv_ 17 38 HT_ (bm 48 262143) ?_
          refine tk_ 18 39 HT_ HW_ (bm 48 524287) hHeld ?_ (hy := Or.inl ⟨by rfl, by rintro w' ⟨s0, s1, s2, s3, s4, s5⟩; go_simp; with_reducible rfl⟩)
          refine one_ (i := 19) (N := some 40) (bm 48 1048575) rfl rfl (one_of HT_.out (by kernel_rfl)) (by decide) (fun K hK => ?_)
          refine goes_ Try.func100 (by kernel_rfl) rfl #[.int .i64 ((rd_T140 l0 x3_1).f3), .int .i64 0, .int .i64 255] (by rfl) rfl rfl (by (try simp only [List.map_toArray, List.map_cons, List.map_nil]); first | done | rfl | (simp only [List.length_drop, List.length_take]; rfl)) ?_
          with_reducible refine (spec_l01In.calls ((rd_T140 l0 x3_1).f3) 0 255 true _ A12.out).mono ?_
          rintro e w' ⟨rfl, ⟨nd, rfl⟩⟩
          refine ⟨_, rfl, ?_⟩
          refine hK.out _ _ ⟨(blk_cell BK119.out 0).trans rfl, (blk_cell BK119.out 1).trans rfl, (blk_cell BK119.out 2).trans rfl, (blk_cell BK119.out 3).trans rfl, (blk_cell BK119.out 4).trans rfl, (blk_cell BK119.out 5).trans rfl⟩ (fun hHeld => ?_)
          clear hK K
          refine norm_ (a' := ?_) ?_ ?_
          rotate_left
          · show Act.put _ (some 40) _ = _
            simp only [Act.put, List.setIfInBounds_toArray, List.set_cons_zero, List.set_cons_succ, i64_w, i32_w]
            rfl
          refine pv_ 20 41 HT_ (bm 48 2097151) ?_
          refine pv_ 21 42 HT_ (bm 48 4194303) ?_
          refine pv_ 22 43 HT_ (bm 48 8388607) ?_
          refine pv_ 23 44 HT_ (bm 48 16777215) ?_
          refine tk_ 24 45 HT_ HW_ (bm 48 33554431) hHeld ?_ (hy := Or.inl ⟨by rfl, by rintro w' ⟨s0, s1, s2, s3, s4, s5⟩; go_simp; with_reducible rfl⟩)
          refine one_ (i := 25) (N := some 46) (bm 48 67108863) rfl rfl (one_of HT_.out (by kernel_rfl)) (by decide) (fun K hK => ?_)
          refine goes_ Try.func100 (by kernel_rfl) rfl #[.int .i64 ((rd_T140 l0 x3_1).f4), .int .i64 0, .int .i64 1000030] (by rfl) rfl rfl (by (try simp only [List.map_toArray, List.map_cons, List.map_nil]); first | done | rfl | (simp only [List.length_drop, List.length_take]; rfl)) ?_
          with_reducible refine (spec_l01In.calls ((rd_T140 l0 x3_1).f4) 0 1000030 true _ A14.out).mono ?_
          rintro e w' ⟨rfl, ⟨nd, rfl⟩⟩
          refine ⟨_, rfl, ?_⟩
          refine hK.out _ _ ⟨(blk_cell BK119.out 0).trans rfl, (blk_cell BK119.out 1).trans rfl, (blk_cell BK119.out 2).trans rfl, (blk_cell BK119.out 3).trans rfl, (blk_cell BK119.out 4).trans rfl, (blk_cell BK119.out 5).trans rfl⟩ (fun hHeld => ?_)
          clear hK K
          refine norm_ (a' := ?_) ?_ ?_
          rotate_left
          · show Act.put _ (some 46) _ = _
            simp only [Act.put, List.setIfInBounds_toArray, List.set_cons_zero, List.set_cons_succ, i64_w, i32_w]
            rfl
          refine pv_ 26 47 HT_ (bm 48 134217727) ?_
          refine pv_ 27 48 HT_ (bm 48 268435455) ?_
          refine pv_ 28 49 HT_ (bm 48 536870911) ?_
          refine pv_ 29 50 HT_ (bm 48 1073741823) ?_
          refine tk_ 30 51 HT_ HW_ (bm 48 2147483647) hHeld ?_ (hy := Or.inl ⟨by rfl, by rintro w' ⟨s0, s1, s2, s3, s4, s5⟩; go_simp; with_reducible rfl⟩)
          refine pv_ 31 52 HT_ (bm 48 4294967295) ?_
          refine pv_ 32 53 HT_ (bm 48 8589934591) ?_
          refine pv_ 33 54 HT_ (bm 48 17179869183) ?_
          refine pv_ 34 55 HT_ (bm 48 34359738367) ?_
          refine pv_ 35 56 HT_ (bm 48 68719476735) ?_
          refine tk_ 36 57 HT_ HW_ (bm 48 137438953471) hHeld ?_ (hy := Or.inl ⟨by rfl, by rintro w' ⟨s0, s1, s2, s3, s4, s5⟩; go_simp; with_reducible rfl⟩)
          refine pv_ 37 58 HT_ (bm 48 274877906943) ?_
          refine pv_ 38 59 HT_ (bm 48 549755813887) ?_
          refine pv_ 39 60 HT_ (bm 48 1099511627775) ?_
          refine pv_ 40 61 HT_ (bm 48 2199023255551) ?_
          refine pw_ 41 62 HT_ (bm 48 4398046511103) ?_
          refine pw_ 42 63 HT_ (bm 48 8796093022207) ?_
          refine pw_ 43 64 HT_ (bm 48 17592186044415) ?_
          refine pw_ 44 65 HT_ (bm 48 35184372088831) ?_
          refine pw_ 45 66 HT_ (bm 48 70368744177663) ?_
          refine pw_ 46 67 HT_ (bm 48 140737488355327) ?_
          refine pv_ 47 68 HT_ (bm 48 281474976710655) ?_
          refine done_ (done_of HT_.out (by kernel_rfl)) ?_
          try go_wp2
          go_meet
          case rel => exact ⟨_, (true), (by first | rfl | (simp; done) | (simp [*]; done)), H', ⟨by have := HK1.out; first | omega | exact Nat.le_refl _⟩, ⟨by (with_reducible repeat (first | refine blk_drewN ?_ _ | refine blk_drew ?_ | refine blk_alloc ?_ _)); exact BK119.out⟩, ⟨by repeat (first | (with_reducible first | exact HB.out | apply below_alloc | apply pw_below_drewN | apply below_drew1 | refine below_set ?_ GE119.out) | exact HB.out)⟩⟩
        rw [if_neg c19] at H
        have c19b0 : decide (12 < (((rd_T140 l0 x3_1).f5).length : Int)) = false := decide_eq_false c19
        have c19b1 : decide (12 < ((rd_T140 l0 x3_1).f5).length) = false := decide_eq_false (by omega)
        clear c19
        have c22b0 := eq_true (of_decide_eq_true (by first | (with_reducible assumption) | assumption) : 0 ≤ x3_1)
        by_cases c23 : x3_1 ≤ (l0.length : Int)
        rotate_left
        · rw [if_neg c23] at H
          exact absurd H (by simp)
        rw [if_pos c23] at H
        have c23b0 := eq_true c23
        have c23b1 : decide (x3_1 ≤ (l0.length : Int)) = true := decide_eq_true c23
        clear c23
        obtain ⟨y123, hy123⟩ : ∃ y_ : List (S140), y_ = (l0.take (x3_1 : Int).toNat) := ⟨_, rfl⟩
        replace H : ((spec_l03Find.f k1 y123 ((rd_T140 l0 x3_1).f0) ((rd_T140 l0 x3_1).f1) ((rd_T140 l0 x3_1).f2) ((rd_T140 l0 x3_1).f3) ((rd_T140 l0 x3_1).f4) ((rd_T140 l0 x3_1).f5)).bind fun t127 => (spec_BoxesOK.j1 k1 l0 x3_1 (decide (t127 ≥ 0)) ((rd_T140 l0 x3_1).f0) ((rd_T140 l0 x3_1).f1) ((rd_T140 l0 x3_1).f2) ((rd_T140 l0 x3_1).f3) ((rd_T140 l0 x3_1).f4) ((rd_T140 l0 x3_1).f5))) = some r := by first | (rw [hy123]; with_reducible exact H) | (have H2_ := (Option.bind_some _ _).symm.trans H; rw [hy123]; with_reducible exact H2_) | (have H2_ := (Option.bind_some _ _).symm.trans H; with_reducible exact H2_) | with_reducible exact H | (rw [hy123]; exact H) | exact H
        have Ny123 := Aside0.mk hy123
        clear hy123
        replace H := Option.bind_eq_some_iff.mp H
        obtain ⟨t127, A240, H⟩ := H
        replace H : (spec_BoxesOK.j1 k1 l0 x3_1 (decide (t127 ≥ 0)) ((rd_T140 l0 x3_1).f0) ((rd_T140 l0 x3_1).f1) ((rd_T140 l0 x3_1).f2) ((rd_T140 l0 x3_1).f3) ((rd_T140 l0 x3_1).f4) ((rd_T140 l0 x3_1).f5)) = some r := H
        have A24 := Aside0.mk A240
        clear A240
        have H' := Aside0.mk H
        clear H
        try go_wp2
        have n0_ : Aside0 (((((((w6.setCell ⟨gb119, 0, none⟩ (.string ((rd_T140 l0 x3_1).f0))).setCell ⟨gb119, 1, none⟩ (.string ((rd_T140 l0 x3_1).f1))).setCell ⟨gb119, 2, none⟩ (.int .i64 ((rd_T140 l0 x3_1).f2))).setCell ⟨gb119, 3, none⟩ (.int .i64 ((rd_T140 l0 x3_1).f3))).setCell ⟨gb119, 4, none⟩ (.int .i64 ((rd_T140 l0 x3_1).f4))).setCell ⟨gb119, 5, none⟩ (.slice A118_5 ((rd_T140 l0 x3_1).f5).length c118_5)).heap[gb119]? = some (.cells #[.string ((rd_T140 l0 x3_1).f0), .string ((rd_T140 l0 x3_1).f1), .int .i64 ((rd_T140 l0 x3_1).f2), .int .i64 ((rd_T140 l0 x3_1).f3), .int .i64 ((rd_T140 l0 x3_1).f4), .slice A118_5 ((rd_T140 l0 x3_1).f5).length c118_5] 140 (0, 0))) := ⟨by (with_reducible repeat (first | refine blk_drewN ?_ _ | refine blk_drew ?_ | refine blk_alloc ?_ _)); refine blk_put (cs := #[.string ((rd_T140 l0 x3_1).f0), .string ((rd_T140 l0 x3_1).f1), .int .i64 ((rd_T140 l0 x3_1).f2), .int .i64 ((rd_T140 l0 x3_1).f3), .int .i64 ((rd_T140 l0 x3_1).f4), .slice none 0 0]) ?_ 5 _ rfl; (with_reducible repeat (first | refine blk_drewN ?_ _ | refine blk_drew ?_ | refine blk_alloc ?_ _)); refine blk_put (cs := #[.string ((rd_T140 l0 x3_1).f0), .string ((rd_T140 l0 x3_1).f1), .int .i64 ((rd_T140 l0 x3_1).f2), .int .i64 ((rd_T140 l0 x3_1).f3), .int .i64 0, .slice none 0 0]) ?_ 4 _ rfl; (with_reducible repeat (first | refine blk_drewN ?_ _ | refine blk_drew ?_ | refine blk_alloc ?_ _)); refine blk_put (cs := #[.string ((rd_T140 l0 x3_1).f0), .string ((rd_T140 l0 x3_1).f1), .int .i64 ((rd_T140 l0 x3_1).f2), .int .i64 0, .int .i64 0, .slice none 0 0]) ?_ 3 _ rfl; (with_reducible repeat (first | refine blk_drewN ?_ _ | refine blk_drew ?_ | refine blk_alloc ?_ _)); refine blk_put (cs := #[.string ((rd_T140 l0 x3_1).f0), .string ((rd_T140 l0 x3_1).f1), .int .i64 0, .int .i64 0, .int .i64 0, .slice none 0 0]) ?_ 2 _ rfl; (with_reducible repeat (first | refine blk_drewN ?_ _ | refine blk_drew ?_ | refine blk_alloc ?_ _)); refine blk_put (cs := #[.string ((rd_T140 l0 x3_1).f0), .string (⟨#[]⟩ : ByteArray), .int .i64 0, .int .i64 0, .int .i64 0, .slice none 0 0]) ?_ 1 _ rfl; (with_reducible repeat (first | refine blk_drewN ?_ _ | refine blk_drew ?_ | refine blk_alloc ?_ _)); refine blk_put (cs := #[.string (⟨#[]⟩ : ByteArray), .string (⟨#[]⟩ : ByteArray), .int .i64 0, .int .i64 0, .int .i64 0, .slice none 0 0]) ?_ 0 _ rfl; (with_reducible repeat (first | refine blk_drewN ?_ _ | refine blk_drew ?_ | refine blk_alloc ?_ _)); exact BK119.out⟩
        have n1_ : Aside0 (Below w.heap.size w ((((((w6.setCell ⟨gb119, 0, none⟩ (.string ((rd_T140 l0 x3_1).f0))).setCell ⟨gb119, 1, none⟩ (.string ((rd_T140 l0 x3_1).f1))).setCell ⟨gb119, 2, none⟩ (.int .i64 ((rd_T140 l0 x3_1).f2))).setCell ⟨gb119, 3, none⟩ (.int .i64 ((rd_T140 l0 x3_1).f3))).setCell ⟨gb119, 4, none⟩ (.int .i64 ((rd_T140 l0 x3_1).f4))).setCell ⟨gb119, 5, none⟩ (.slice A118_5 ((rd_T140 l0 x3_1).f5).length c118_5))) := ⟨by repeat (first | (with_reducible first | exact HB.out | apply below_alloc | apply pw_below_drewN | apply below_drew1 | refine below_set ?_ GE119.out) | exact HB.out)⟩
        (try clear BK119)
        (try clear HB)
        generalize ((((((w6.setCell ⟨gb119, 0, none⟩ (.string ((rd_T140 l0 x3_1).f0))).setCell ⟨gb119, 1, none⟩ (.string ((rd_T140 l0 x3_1).f1))).setCell ⟨gb119, 2, none⟩ (.int .i64 ((rd_T140 l0 x3_1).f2))).setCell ⟨gb119, 3, none⟩ (.int .i64 ((rd_T140 l0 x3_1).f3))).setCell ⟨gb119, 4, none⟩ (.int .i64 ((rd_T140 l0 x3_1).f4))).setCell ⟨gb119, 5, none⟩ (.slice A118_5 ((rd_T140 l0 x3_1).f5).length c118_5)) = w25 at n0_ n1_ ⊢
        have BK119 := n0_
        have HB := n1_
        clear n0_ n1_
        have n0_ := Aside0.mk (blk_drew BK119.out)
        have n1_ := Aside0.mk (below_drew1 HB.out)
        clear BK119
        clear HB
        have BK119 := n0_
        have HB := n1_
        clear n0_ n1_
        refine start_ (n := 48) (S := fun w' => w'.cell? ⟨gb119, 0, none⟩ = some (.string ((rd_T140 l0 x3_1).f0)) ∧ w'.cell? ⟨gb119, 1, none⟩ = some (.string ((rd_T140 l0 x3_1).f1)) ∧ w'.cell? ⟨gb119, 2, none⟩ = some (.int .i64 ((rd_T140 l0 x3_1).f2)) ∧ w'.cell? ⟨gb119, 3, none⟩ = some (.int .i64 ((rd_T140 l0 x3_1).f3)) ∧ w'.cell? ⟨gb119, 4, none⟩ = some (.int .i64 ((rd_T140 l0 x3_1).f4)) ∧ w'.cell? ⟨gb119, 5, none⟩ = some (.slice A118_5 ((rd_T140 l0 x3_1).f5).length c118_5)) (ds := []) _ (by kernel_rfl) rfl rfl ⟨(blk_cell BK119.out 0).trans rfl, (blk_cell BK119.out 1).trans rfl, (blk_cell BK119.out 2).trans rfl, (blk_cell BK119.out 3).trans rfl, (blk_cell BK119.out 4).trans rfl, (blk_cell BK119.out 5).trans rfl⟩ (fun hHeld => ?_); refine with_tabW spec_BoxesOK.tab7 spec_BoxesOK.bits7 (fun HT_ HW_ => ?_)
        generalize w25.drew = w26 at BK119 HB hHeld ⊢
        refine pv_ 0 21 HT_ (bm 48 1) ?_
        refine tk_ 1 22 HT_ HW_ (bm 48 3) hHeld ?_ (hy := Or.inl ⟨by rfl, by rintro w' ⟨s0, s1, s2, s3, s4, s5⟩; go_simp; with_reducible rfl⟩)
        refine pv_ 2 23 HT_ (bm 48 7) ?_
        refine pv_ 3 24 HT_ (bm 48 15) ?_
        refine pv_ 4 25 HT_ (bm 48 31) ?_
        refine pv_ 5 26 HT_ (bm 48 63) ?_
        refine tk_ 6 27 HT_ HW_ (bm 48 127) hHeld ?_ (hy := Or.inl ⟨by rfl, by rintro w' ⟨s0, s1, s2, s3, s4, s5⟩; go_simp; with_reducible rfl⟩)
        refine pv_ 7 28 HT_ (bm 48 255) ?_
        refine pv_ 8 29 HT_ (bm 48 511) ?_
        refine pv_ 9 30 HT_ (bm 48 1023) ?_
        refine pv_ 10 31 HT_ (bm 48 2047) ?_
        refine pv_ 11 32 HT_ (bm 48 4095) ?_
        refine tk_ 12 33 HT_ HW_ (bm 48 8191) hHeld ?_ (hy := Or.inl ⟨by rfl, by rintro w' ⟨s0, s1, s2, s3, s4, s5⟩; go_simp; with_reducible rfl⟩)
        refine one_ (i := 13) (N := some 34) (bm 48 16383) rfl rfl (one_of HT_.out (by kernel_rfl)) (by decide) (fun K hK => ?_)
        refine goes_ Try.func100 (by kernel_rfl) rfl #[.int .i64 ((rd_T140 l0 x3_1).f2), .int .i64 0, .int .i64 65535] (by rfl) rfl rfl (by (try simp only [List.map_toArray, List.map_cons, List.map_nil]); first | done | rfl | (simp only [List.length_drop, List.length_take]; rfl)) ?_
        with_reducible refine (spec_l01In.calls ((rd_T140 l0 x3_1).f2) 0 65535 true _ A10.out).mono ?_
        rintro e w' ⟨rfl, ⟨nd, rfl⟩⟩
        refine ⟨_, rfl, ?_⟩
        refine hK.out _ _ ⟨(blk_cell BK119.out 0).trans rfl, (blk_cell BK119.out 1).trans rfl, (blk_cell BK119.out 2).trans rfl, (blk_cell BK119.out 3).trans rfl, (blk_cell BK119.out 4).trans rfl, (blk_cell BK119.out 5).trans rfl⟩ (fun hHeld => ?_)
        clear hK K
        refine norm_ (a' := ?_) ?_ ?_
        rotate_left
        · show Act.put _ (some 34) _ = _
          simp only [Act.put, List.setIfInBounds_toArray, List.set_cons_zero, List.set_cons_succ, i64_w, i32_w]
          rfl
        refine pv_ 14 35 HT_ (bm 48 32767) ?_
        refine pv_ 15 36 HT_ (bm 48 65535) ?_
        refine pv_ 16 37 HT_ (bm 48 131071) ?_
        refine pv_ 17 38 HT_ (bm 48 262143) ?_
        refine tk_ 18 39 HT_ HW_ (bm 48 524287) hHeld ?_ (hy := Or.inl ⟨by rfl, by rintro w' ⟨s0, s1, s2, s3, s4, s5⟩; go_simp; with_reducible rfl⟩)
        refine one_ (i := 19) (N := some 40) (bm 48 1048575) rfl rfl (one_of HT_.out (by kernel_rfl)) (by decide) (fun K hK => ?_)
        refine goes_ Try.func100 (by kernel_rfl) rfl #[.int .i64 ((rd_T140 l0 x3_1).f3), .int .i64 0, .int .i64 255] (by rfl) rfl rfl (by (try simp only [List.map_toArray, List.map_cons, List.map_nil]); first | done | rfl | (simp only [List.length_drop, List.length_take]; rfl)) ?_
        with_reducible refine (spec_l01In.calls ((rd_T140 l0 x3_1).f3) 0 255 true _ A12.out).mono ?_
        rintro e w' ⟨rfl, ⟨nd, rfl⟩⟩
        refine ⟨_, rfl, ?_⟩
        refine hK.out _ _ ⟨(blk_cell BK119.out 0).trans rfl, (blk_cell BK119.out 1).trans rfl, (blk_cell BK119.out 2).trans rfl, (blk_cell BK119.out 3).trans rfl, (blk_cell BK119.out 4).trans rfl, (blk_cell BK119.out 5).trans rfl⟩ (fun hHeld => ?_)
        clear hK K
        refine norm_ (a' := ?_) ?_ ?_
        rotate_left
        · show Act.put _ (some 40) _ = _
          simp only [Act.put, List.setIfInBounds_toArray, List.set_cons_zero, List.set_cons_succ, i64_w, i32_w]
          rfl
        refine pv_ 20 41 HT_ (bm 48 2097151) ?_
        refine pv_ 21 42 HT_ (bm 48 4194303) ?_
        refine pv_ 22 43 HT_ (bm 48 8388607) ?_
        refine pv_ 23 44 HT_ (bm 48 16777215) ?_
        refine tk_ 24 45 HT_ HW_ (bm 48 33554431) hHeld ?_ (hy := Or.inl ⟨by rfl, by rintro w' ⟨s0, s1, s2, s3, s4, s5⟩; go_simp; with_reducible rfl⟩)
        refine one_ (i := 25) (N := some 46) (bm 48 67108863) rfl rfl (one_of HT_.out (by kernel_rfl)) (by decide) (fun K hK => ?_)
        refine goes_ Try.func100 (by kernel_rfl) rfl #[.int .i64 ((rd_T140 l0 x3_1).f4), .int .i64 0, .int .i64 1000030] (by rfl) rfl rfl (by (try simp only [List.map_toArray, List.map_cons, List.map_nil]); first | done | rfl | (simp only [List.length_drop, List.length_take]; rfl)) ?_
        with_reducible refine (spec_l01In.calls ((rd_T140 l0 x3_1).f4) 0 1000030 true _ A14.out).mono ?_
        rintro e w' ⟨rfl, ⟨nd, rfl⟩⟩
        refine ⟨_, rfl, ?_⟩
        have q27 : (x3_1 : Int) ≤ ((l0.length : Int) : Int) := of_decide_eq_true (by first | (with_reducible assumption) | assumption)
        obtain ⟨i027, hi027, _, hsz27, _⟩ := info_parts info140
        have hroom27 : l0.length ≤ c0 := HC0.out
        have hC27 : Kd.C k140 _ (some ad118) l0.length l0 := HR0.out
        have hcut27 := cut_to (P := Try.prog) 90 140 .i64 Try.underlying90 hi027 (some ad118) l0.length c0 x3_1 (of_decide_eq_true (by first | (with_reducible assumption) | assumption)) q27 hroom27
        have hr27 := Kd.C_take (m := (x3_1 : Int).toNat) hC27 (by omega)
        have hy27 : y123.length = (x3_1 : Int).toNat := (by rw [Ny123.out, List.length_take]; omega)
        rw [← Ny123.out] at hr27
        rw [← hy27] at hcut27
        have HR126 := Aside0.mk hr27
        have HC126 := Aside0.mk (show y123.length ≤ c0 from by omega)
        clear hr27 hC27 hroom27 hi027 hsz27
        have KY27 := Aside0.mk hy27
        clear hy27
        replace q27 := eq_true q27
        refine hK.out _ _ ⟨(blk_cell BK119.out 0).trans rfl, (blk_cell BK119.out 1).trans rfl, (blk_cell BK119.out 2).trans rfl, (blk_cell BK119.out 3).trans rfl, (blk_cell BK119.out 4).trans rfl, (blk_cell BK119.out 5).trans rfl⟩ (fun hHeld => ?_)
        clear hK K
        refine norm_ (a' := ?_) ?_ ?_
        rotate_left
        · show Act.put _ (some 46) _ = _
          simp only [Act.put, List.setIfInBounds_toArray, List.set_cons_zero, List.set_cons_succ, i64_w, i32_w]
          rfl
        refine pv_ 26 47 HT_ (bm 48 134217727) ?_
        refine pv_ 27 48 HT_ (bm 48 268435455) ?_
        refine pv_ 28 49 HT_ (bm 48 536870911) ?_
        refine pv_ 29 50 HT_ (bm 48 1073741823) ?_
        refine tk_ 30 51 HT_ HW_ (bm 48 2147483647) hHeld ?_ (hy := Or.inl ⟨by rfl, by rintro w' ⟨s0, s1, s2, s3, s4, s5⟩; go_simp; with_reducible rfl⟩)
        refine pv_ 31 52 HT_ (bm 48 4294967295) ?_
        refine pv_ 32 53 HT_ (bm 48 8589934591) ?_
        refine pv_ 33 54 HT_ (bm 48 17179869183) ?_
        refine pv_ 34 55 HT_ (bm 48 34359738367) ?_
        refine pv_ 35 56 HT_ (bm 48 68719476735) ?_
        refine tk_ 36 57 HT_ HW_ (bm 48 137438953471) hHeld ?_ (hy := Or.inl ⟨by rfl, by rintro w' ⟨s0, s1, s2, s3, s4, s5⟩; go_simp; with_reducible rfl⟩)
        refine pv_ 37 58 HT_ (bm 48 274877906943) ?_
        refine pv_ 38 59 HT_ (bm 48 549755813887) ?_
        refine pv_ 39 60 HT_ (bm 48 1099511627775) ?_
        refine pv_ 40 61 HT_ (bm 48 2199023255551) ?_
        refine pv_ 41 62 HT_ (bm 48 4398046511103) ?_
        refine pv_ 42 63 HT_ (bm 48 8796093022207) ?_
        refine pv_ 43 64 HT_ (bm 48 17592186044415) ?_
        refine tk_ 44 65 HT_ HW_ (bm 48 35184372088831) hHeld ?_ (hy := Or.inl ⟨by rfl, by rintro w' ⟨s0, s1, s2, s3, s4, s5⟩; go_simp; with_reducible rfl⟩)
        refine one_ (i := 45) (N := some 66) (bm 48 70368744177663) rfl rfl (one_of HT_.out (by kernel_rfl)) (by decide) (fun K hK => ?_)
        refine goes_ Try.func120 (by kernel_rfl) rfl #[.slice (some ad118) y123.length c0, .agg #[.string ((rd_T140 l0 x3_1).f0), .string ((rd_T140 l0 x3_1).f1), .int .i64 ((rd_T140 l0 x3_1).f2), .int .i64 ((rd_T140 l0 x3_1).f3), .int .i64 ((rd_T140 l0 x3_1).f4), .slice A118_5 ((rd_T140 l0 x3_1).f5).length c118_5]] (by rfl) rfl rfl (by (try simp only [List.map_toArray, List.map_cons, List.map_nil]); first | done | rfl | (simp only [List.length_drop, List.length_take]; rfl)) ?_
        with_reducible refine (spec_l03Find.calls k1 _ _ y123 ((rd_T140 l0 x3_1).f0) ((rd_T140 l0 x3_1).f1) ((rd_T140 l0 x3_1).f2) ((rd_T140 l0 x3_1).f3) ((rd_T140 l0 x3_1).f4) _ _ ((rd_T140 l0 x3_1).f5) t127 _ ?side1 ?side2 ?side3 ?side4 A24.out).mono ?_
        (case side1 => repeat (first | exact (Kd.C_below HR126.out (by repeat (first | (with_reducible first | exact HB.out | apply below_alloc | apply pw_below_drewN | apply below_drew1 | refine below_set ?_ GE119.out) | exact HB.out))) | (with_reducible refine Kd.C_alloc ?_ _) | (with_reducible refine Kd.C_drewN ?_ _) | (with_reducible refine Kd.C_drew ?_)))
        (case side2 => exact HC126.out)
        (case side3 => repeat (first | exact (Kd.C_below HR118_5.out (by repeat (first | (with_reducible first | exact HB.out | apply below_alloc | apply pw_below_drewN | apply below_drew1 | refine below_set ?_ GE119.out) | exact HB.out))) | (with_reducible refine Kd.C_alloc ?_ _) | (with_reducible refine Kd.C_drewN ?_ _) | (with_reducible refine Kd.C_drew ?_)))
        (case side4 => exact HC118_5.out)
        rintro e w28 ⟨rfl, hb⟩
        refine ⟨_, rfl, ?_⟩
        have n0_ := Aside0.mk (blk_below (g := gb119) (o := .cells #[.string ((rd_T140 l0 x3_1).f0), .string ((rd_T140 l0 x3_1).f1), .int .i64 ((rd_T140 l0 x3_1).f2), .int .i64 ((rd_T140 l0 x3_1).f3), .int .i64 ((rd_T140 l0 x3_1).f4), .slice A118_5 ((rd_T140 l0 x3_1).f5).length c118_5] 140 (0, 0)) (by (with_reducible repeat (first | refine blk_drewN ?_ _ | refine blk_drew ?_ | refine blk_alloc ?_ _)); exact BK119.out) hb)
        have n1_ := Aside0.mk (below_step (by repeat (first | (with_reducible first | exact HB.out | apply below_alloc | apply pw_below_drewN | apply below_drew1 | refine below_set ?_ GE119.out) | exact HB.out)) hb)
        clear BK119
        clear HB
        have BK119 := n0_
        have HB := n1_
        clear n0_ n1_
        (try clear hb)
        (try clear hb2)
        (try clear hk)
        (try clear hi)
        refine hK.out _ _ ⟨(blk_cell BK119.out 0).trans rfl, (blk_cell BK119.out 1).trans rfl, (blk_cell BK119.out 2).trans rfl, (blk_cell BK119.out 3).trans rfl, (blk_cell BK119.out 4).trans rfl, (blk_cell BK119.out 5).trans rfl⟩ (fun hHeld => ?_)
        clear hK K
        refine norm_ (a' := ?_) ?_ ?_
        rotate_left
        · show Act.put _ (some 66) _ = _
          simp only [Act.put, List.setIfInBounds_toArray, List.set_cons_zero, List.set_cons_succ, i64_w, i32_w]
          rfl
        refine pv_ 46 67 HT_ (bm 48 140737488355327) ?_
        refine pv_ 47 68 HT_ (bm 48 281474976710655) ?_
        refine done_ (done_of HT_.out (by kernel_rfl)) ?_
        try go_wp2
        go_meet
        case rel => exact ⟨_, (decide (t127 ≥ 0)), (by first | rfl | (simp; done) | (simp [*]; done)), H', ⟨by have := HK1.out; first | omega | exact Nat.le_refl _⟩, ⟨by (with_reducible repeat (first | refine blk_drewN ?_ _ | refine blk_drew ?_ | refine blk_alloc ?_ _)); exact BK119.out⟩, ⟨by repeat (first | (with_reducible first | exact HB.out | apply below_alloc | apply pw_below_drewN | apply below_drew1 | refine below_set ?_ GE119.out) | exact HB.out)⟩⟩
      case rest =>
        clear HC5
        try clear c1
        try clear p2
        try clear c8
        try clear c8b0
        try clear c8b1
        try clear c9
        try clear c9b0
        try clear c9b1
        try clear c11
        obtain ⟨kq, x68_4, rfl, HA, HJ4, BK119, HB⟩ := hcut
        cases kq with
        | zero => exact absurd HA.out (by simp [spec_BoxesOK.j1])
        | succ kj4 =>
          have H := HA.out
          clear HA
          simp only [spec_BoxesOK.j1] at H
          by_cases c39 : x68_4 = true
          · subst c39
            have H1 : (some false) = some r := by rw [if_pos rfl] at H; exact H
            clear H
            have H := H1
            clear H1
            obtain rfl := Option.some.inj H
            go_wp2
            go_ret
            exact ⟨by first | rfl | (simp [errW_none, errW_some] <;> rfl) | (simp [*, errW_none, errW_some] <;> rfl), by repeat (first | (with_reducible first | exact HB.out | apply below_alloc | apply pw_below_drewN | apply below_drew1 | refine below_set ?_ GE119.out) | exact HB.out)⟩
          replace c39 := Bool.eq_false_iff.mpr c39
          subst c39
          have H1 : (spec_BoxesOK.l1 kj4 l0 x3_1 0 0 ((rd_T140 l0 x3_1).f0) ((rd_T140 l0 x3_1).f1) ((rd_T140 l0 x3_1).f2) ((rd_T140 l0 x3_1).f3) ((rd_T140 l0 x3_1).f4) ((rd_T140 l0 x3_1).f5)) = some r := by rw [if_neg (show ¬ (false = true) by decide)] at H; exact H
          clear H
          have H := H1
          clear H1
          have H' := Aside0.mk H
          clear H
          go_wp2
          go_loopg [5, 6] kj4 (fun kq v5 v6 w' => ∃ (x5_3 : Int) (x6_3 : Int), v5 = .int .i64 x5_3 ∧ v6 = .int .i64 x6_3 ∧ Aside0 (spec_BoxesOK.l1 kq l0 x3_1 x5_3 x6_3 ((rd_T140 l0 x3_1).f0) ((rd_T140 l0 x3_1).f1) ((rd_T140 l0 x3_1).f2) ((rd_T140 l0 x3_1).f3) ((rd_T140 l0 x3_1).f4) ((rd_T140 l0 x3_1).f5) = some r) ∧ Aside0 (kq ≤ kj4) ∧ Aside0 (w'.heap[gb119]? = some (.cells #[.string ((rd_T140 l0 x3_1).f0), .string ((rd_T140 l0 x3_1).f1), .int .i64 ((rd_T140 l0 x3_1).f2), .int .i64 ((rd_T140 l0 x3_1).f3), .int .i64 ((rd_T140 l0 x3_1).f4), (.slice A118_5 ((rd_T140 l0 x3_1).f5).length c118_5)] 140 (0, 0))) ∧ Aside0 (Below w.heap.size w w'))
          case atStart => exact ⟨(0), (0), (by first | rfl | (simp; done) | (simp [*]; done)), (by first | rfl | (simp; done) | (simp [*]; done)), H', ⟨Nat.le_refl _⟩, ⟨by (with_reducible repeat (first | refine blk_drewN ?_ _ | refine blk_drew ?_ | refine blk_alloc ?_ _)); exact BK119.out⟩, ⟨by repeat (first | (with_reducible first | exact HB.out | apply below_alloc | apply pw_below_drewN | apply below_drew1 | refine below_set ?_ GE119.out) | exact HB.out)⟩⟩
          case round =>
            clear H'
            try clear c1
            try clear p2
            try clear c3
            try clear c8
            try clear c8b0
            try clear c8b1
            try clear c9
            try clear c9b0
            try clear c9b1
            try clear c11
            try clear c39
            try clear p2
            obtain ⟨x5_3, x6_3, rfl, rfl, HA, HK3, BK119, HB⟩ := hrel
            cases gk with
            | zero => exact absurd HA.out (by simp [spec_BoxesOK.l1])
            | succ k3 =>
              have H := HA.out
              clear HA
              simp only [spec_BoxesOK.l1] at H
              by_cases c40 : x6_3 < (((rd_T140 l0 x3_1).f5).length : Int)
              rotate_left
              · rw [if_neg c40] at H
                have c40b0 : decide (x6_3 < (((rd_T140 l0 x3_1).f5).length : Int)) = false := decide_eq_false c40
                clear c40
                replace H := Option.bind_eq_some_iff.mp H
                obtain ⟨t130, A1120, H⟩ := H
                replace H : (if t130 = true then (some false) else (spec_BoxesOK.l0 k3 l0 (wrap64 (x3_1 + 1)))) = some r := H
                have A112 := Aside0.mk A1120
                clear A1120
                by_cases c113 : t130 = true
                · subst c113
                  have H1 : (some false) = some r := by rw [if_pos rfl] at H; exact H
                  clear H
                  have H := H1
                  clear H1
                  obtain rfl := Option.some.inj H
                  have hcz114_0 : wr.cell? ⟨gb119, 0, none⟩ = some (.string ((rd_T140 l0 x3_1).f0)) := (blk_cell BK119.out 0).trans rfl
                  have hcz114_1 : wr.cell? ⟨gb119, 1, none⟩ = some (.string ((rd_T140 l0 x3_1).f1)) := (blk_cell BK119.out 1).trans rfl
                  have hcz114_2 : wr.cell? ⟨gb119, 2, none⟩ = some (.int .i64 ((rd_T140 l0 x3_1).f2)) := (blk_cell BK119.out 2).trans rfl
                  have hcz114_3 : wr.cell? ⟨gb119, 3, none⟩ = some (.int .i64 ((rd_T140 l0 x3_1).f3)) := (blk_cell BK119.out 3).trans rfl
                  have hcz114_4 : wr.cell? ⟨gb119, 4, none⟩ = some (.int .i64 ((rd_T140 l0 x3_1).f4)) := (blk_cell BK119.out 4).trans rfl
                  have hcz114_5 : wr.cell? ⟨gb119, 5, none⟩ = some (.slice A118_5 ((rd_T140 l0 x3_1).f5).length c118_5) := (blk_cell BK119.out 5).trans rfl
                  have hfz114_0 := blk_frozen BK119.out 0
                  have hfz114_1 := blk_frozen BK119.out 1
                  have hfz114_2 := blk_frozen BK119.out 2
                  have hfz114_3 := blk_frozen BK119.out 3
                  have hfz114_4 := blk_frozen BK119.out 4
                  have hfz114_5 := blk_frozen BK119.out 5
                  go_wp2_with (first | ((with_reducible refine gate_callee (f := 121) rfl ?_); refine goesL_ (some 143) rfl rfl Try.func121 (by kernel_rfl) rfl #[.agg #[.string ((rd_T140 l0 x3_1).f0), .string ((rd_T140 l0 x3_1).f1), .int .i64 ((rd_T140 l0 x3_1).f2), .int .i64 ((rd_T140 l0 x3_1).f3), .int .i64 ((rd_T140 l0 x3_1).f4), .slice A118_5 ((rd_T140 l0 x3_1).f5).length c118_5]] rfl (by (try simp only [List.map_toArray, List.map_cons, List.map_nil]); first | done | rfl | (simp only [List.length_drop, List.length_take]; rfl)) ?_; (with_reducible refine (spec_l03Whole.calls k3 ((rd_T140 l0 x3_1).f0) ((rd_T140 l0 x3_1).f1) ((rd_T140 l0 x3_1).f2) ((rd_T140 l0 x3_1).f3) ((rd_T140 l0 x3_1).f4) _ _ ((rd_T140 l0 x3_1).f5) true _ ?side1 ?side2 A112.out).mono ?_); (case side1 => repeat (first | exact (Kd.C_below HR118_5.out HB.out) | (with_reducible refine Kd.C_alloc ?_ _) | (with_reducible refine Kd.C_drewN ?_ _) | (with_reducible refine Kd.C_drew ?_))); (case side2 => exact HC118_5.out); rintro e w115 ⟨rfl, hb⟩; refine ⟨_, rfl, ?_⟩; have n0_ := Aside0.mk (blk_below (g := gb119) (o := .cells #[.string ((rd_T140 l0 x3_1).f0), .string ((rd_T140 l0 x3_1).f1), .int .i64 ((rd_T140 l0 x3_1).f2), .int .i64 ((rd_T140 l0 x3_1).f3), .int .i64 ((rd_T140 l0 x3_1).f4), .slice A118_5 ((rd_T140 l0 x3_1).f5).length c118_5] 140 (0, 0)) (by (with_reducible repeat (first | refine blk_drewN ?_ _ | refine blk_drew ?_ | refine blk_alloc ?_ _)); exact BK119.out) hb); have n1_ := Aside0.mk (below_step (by repeat (first | (with_reducible first | exact HB.out | apply below_alloc | apply pw_below_drewN | apply below_drew1 | refine below_set ?_ GE119.out) | exact HB.out)) hb); clear BK119; clear HB; have BK119 := n0_; have HB := n1_; clear n0_ n1_; (try clear hb); (try clear hb2); (try clear hk); (try clear hi)))
                  go_ret
                  exact ⟨by first | rfl | (simp [errW_none, errW_some] <;> rfl) | (simp [*, errW_none, errW_some] <;> rfl), by repeat (first | (with_reducible first | exact HB.out | apply below_alloc | apply pw_below_drewN | apply below_drew1 | refine below_set ?_ GE119.out) | exact HB.out)⟩
                replace c113 := Bool.eq_false_iff.mpr c113
                subst c113
                have H1 : (spec_BoxesOK.l0 k3 l0 (wrap64 (x3_1 + 1))) = some r := by rw [if_neg (show ¬ (false = true) by decide)] at H; exact H
                clear H
                have H := H1
                clear H1
                have H' := Aside0.mk H
                clear H
                have hcz116_0 : wr.cell? ⟨gb119, 0, none⟩ = some (.string ((rd_T140 l0 x3_1).f0)) := (blk_cell BK119.out 0).trans rfl
                have hcz116_1 : wr.cell? ⟨gb119, 1, none⟩ = some (.string ((rd_T140 l0 x3_1).f1)) := (blk_cell BK119.out 1).trans rfl
                have hcz116_2 : wr.cell? ⟨gb119, 2, none⟩ = some (.int .i64 ((rd_T140 l0 x3_1).f2)) := (blk_cell BK119.out 2).trans rfl
                have hcz116_3 : wr.cell? ⟨gb119, 3, none⟩ = some (.int .i64 ((rd_T140 l0 x3_1).f3)) := (blk_cell BK119.out 3).trans rfl
                have hcz116_4 : wr.cell? ⟨gb119, 4, none⟩ = some (.int .i64 ((rd_T140 l0 x3_1).f4)) := (blk_cell BK119.out 4).trans rfl
                have hcz116_5 : wr.cell? ⟨gb119, 5, none⟩ = some (.slice A118_5 ((rd_T140 l0 x3_1).f5).length c118_5) := (blk_cell BK119.out 5).trans rfl
                have hfz116_0 := blk_frozen BK119.out 0
                have hfz116_1 := blk_frozen BK119.out 1
                have hfz116_2 := blk_frozen BK119.out 2
                have hfz116_3 := blk_frozen BK119.out 3
                have hfz116_4 := blk_frozen BK119.out 4
                have hfz116_5 := blk_frozen BK119.out 5
                go_wp2_with (first | ((with_reducible refine gate_callee (f := 121) rfl ?_); refine goesL_ (some 143) rfl rfl Try.func121 (by kernel_rfl) rfl #[.agg #[.string ((rd_T140 l0 x3_1).f0), .string ((rd_T140 l0 x3_1).f1), .int .i64 ((rd_T140 l0 x3_1).f2), .int .i64 ((rd_T140 l0 x3_1).f3), .int .i64 ((rd_T140 l0 x3_1).f4), .slice A118_5 ((rd_T140 l0 x3_1).f5).length c118_5]] rfl (by (try simp only [List.map_toArray, List.map_cons, List.map_nil]); first | done | rfl | (simp only [List.length_drop, List.length_take]; rfl)) ?_; (with_reducible refine (spec_l03Whole.calls k3 ((rd_T140 l0 x3_1).f0) ((rd_T140 l0 x3_1).f1) ((rd_T140 l0 x3_1).f2) ((rd_T140 l0 x3_1).f3) ((rd_T140 l0 x3_1).f4) _ _ ((rd_T140 l0 x3_1).f5) false _ ?side1 ?side2 A112.out).mono ?_); (case side1 => repeat (first | exact (Kd.C_below HR118_5.out HB.out) | (with_reducible refine Kd.C_alloc ?_ _) | (with_reducible refine Kd.C_drewN ?_ _) | (with_reducible refine Kd.C_drew ?_))); (case side2 => exact HC118_5.out); rintro e w117 ⟨rfl, hb⟩; refine ⟨_, rfl, ?_⟩; have n0_ := Aside0.mk (blk_below (g := gb119) (o := .cells #[.string ((rd_T140 l0 x3_1).f0), .string ((rd_T140 l0 x3_1).f1), .int .i64 ((rd_T140 l0 x3_1).f2), .int .i64 ((rd_T140 l0 x3_1).f3), .int .i64 ((rd_T140 l0 x3_1).f4), .slice A118_5 ((rd_T140 l0 x3_1).f5).length c118_5] 140 (0, 0)) (by (with_reducible repeat (first | refine blk_drewN ?_ _ | refine blk_drew ?_ | refine blk_alloc ?_ _)); exact BK119.out) hb); have n1_ := Aside0.mk (below_step (by repeat (first | (with_reducible first | exact HB.out | apply below_alloc | apply pw_below_drewN | apply below_drew1 | refine below_set ?_ GE119.out) | exact HB.out)) hb); clear BK119; clear HB; have BK119 := n0_; have HB := n1_; clear n0_ n1_; (try clear hb); (try clear hb2); (try clear hk); (try clear hi)))
                go_roundg k3
                case measure => have := HK1.out; have := HJ4.out; have := HK3.out; omega
                case rel => exact ⟨(wrap64 (x3_1 + 1)), (by first | rfl | (simp; done) | (simp [*]; done)), H', ⟨by have := HK1.out; have := HJ4.out; have := HK3.out; omega⟩, ⟨by repeat (first | (with_reducible first | exact HB.out | apply below_alloc | apply pw_below_drewN | apply below_drew1 | refine below_set ?_ GE119.out) | exact HB.out)⟩⟩
              rw [if_pos c40] at H
              have c40b0 : decide (x6_3 < (((rd_T140 l0 x3_1).f5).length : Int)) = true := decide_eq_true c40
              clear c40
              by_cases c41 : 0 ≤ x6_3
              rotate_left
              · rw [if_neg c41] at H
                exact absurd H (by simp)
              rw [if_pos c41] at H
              have c41b0 : decide (0 ≤ x6_3) = true := decide_eq_true c41
              clear c41
              by_cases c42 : ((rd_T143 ((rd_T140 l0 x3_1).f5) x6_3).f0) < x5_3
              · rw [if_pos c42] at H
                have c42b0 : decide (((rd_T143 ((rd_T140 l0 x3_1).f5) x6_3).f0) < x5_3) = true := decide_eq_true c42
                clear c42
                obtain rfl := Option.some.inj H
                have hcz43_0 : wr.cell? ⟨gb119, 0, none⟩ = some (.string ((rd_T140 l0 x3_1).f0)) := (blk_cell BK119.out 0).trans rfl
                have hcz43_1 : wr.cell? ⟨gb119, 1, none⟩ = some (.string ((rd_T140 l0 x3_1).f1)) := (blk_cell BK119.out 1).trans rfl
                have hcz43_2 : wr.cell? ⟨gb119, 2, none⟩ = some (.int .i64 ((rd_T140 l0 x3_1).f2)) := (blk_cell BK119.out 2).trans rfl
                have hcz43_3 : wr.cell? ⟨gb119, 3, none⟩ = some (.int .i64 ((rd_T140 l0 x3_1).f3)) := (blk_cell BK119.out 3).trans rfl
                have hcz43_4 : wr.cell? ⟨gb119, 4, none⟩ = some (.int .i64 ((rd_T140 l0 x3_1).f4)) := (blk_cell BK119.out 4).trans rfl
                have hcz43_5 : wr.cell? ⟨gb119, 5, none⟩ = some (.slice A118_5 ((rd_T140 l0 x3_1).f5).length c118_5) := (blk_cell BK119.out 5).trans rfl
                have hfz43_0 := blk_frozen BK119.out 0
                have hfz43_1 := blk_frozen BK119.out 1
                have hfz43_2 := blk_frozen BK119.out 2
                have hfz43_3 := blk_frozen BK119.out 3
                have hfz43_4 := blk_frozen BK119.out 4
                have hfz43_5 := blk_frozen BK119.out 5
                have p128 : 0 ≤ (x6_3 : Int) := of_decide_eq_true (by first | (with_reducible assumption) | assumption)
                have q128 : x6_3 < (((rd_T140 l0 x3_1).f5).length : Int) := of_decide_eq_true (by first | (with_reducible assumption) | assumption)
                obtain ⟨ad128, A128_2, c128_2, e128, hx128_0, hx128_1, hx128_2, hl128_2, hi128_2⟩ := at_T143 HR118_5.out x6_3 p128 q128
                cases e128
                replace hx128_0 := (HB.out.cell (World.block_lt_of_cell? w _ hx128_0)).trans hx128_0
                replace hx128_1 := (HB.out.cell (World.block_lt_of_cell? w _ hx128_1)).trans hx128_1
                replace hx128_2 := (HB.out.cell (World.block_lt_of_cell? w _ hx128_2)).trans hx128_2
                have HR128_2 := Aside0.mk hi128_2
                have HC128_2 := Aside0.mk hl128_2
                clear hi128_2 hl128_2
                replace p128 := eq_true p128
                replace q128 := eq_true q128
                go_wp2_with (first | ((with_reducible refine gate_dst (N := 7) rfl ?_); refine box_event ?hg (N := 7) ?hd (cs := #[.int .i64 0, .bool false, .slice none 0 0]) (t := 143) ?hr ?_; (case hd => rfl); (case hg => rfl); (case hr => first | (go_simp; done) | (go_simp; rfl)); intro gb129 hg w44 hbox hb; have n0_ := Aside0.mk (blk_below (g := gb119) (o := .cells #[.string ((rd_T140 l0 x3_1).f0), .string ((rd_T140 l0 x3_1).f1), .int .i64 ((rd_T140 l0 x3_1).f2), .int .i64 ((rd_T140 l0 x3_1).f3), .int .i64 ((rd_T140 l0 x3_1).f4), .slice (some ad128) ((rd_T140 l0 x3_1).f5).length c118_5] 140 (0, 0)) (by (with_reducible repeat (first | refine blk_drewN ?_ _ | refine blk_drew ?_ | refine blk_alloc ?_ _)); exact BK119.out) hb); have n1_ := Aside0.mk (below_step (by repeat (first | (with_reducible first | exact HB.out | apply below_alloc | apply pw_below_drewN | apply below_drew1 | refine below_set ?_ GE119.out) | exact HB.out)) hb); have n2_ := Aside0.mk (hbox); have n3_ := Aside0.mk ((by rw [hg]; exact (below_size (by repeat (first | (with_reducible first | exact HB.out | apply below_alloc | apply pw_below_drewN | apply below_drew1 | refine below_set ?_ GE119.out) | exact HB.out))) : w.heap.size ≤ gb129)); have n4_ := Aside0.mk ((by rw [hg]; exact (below_size (by repeat (first | (with_reducible first | exact HB.out | apply below_alloc | apply pw_below_drewN | apply below_drew1 | refine below_set ?_ GE119.out) | exact HB.out))) : w.heap.size ≤ gb129)); have n5_ := Aside0.mk ((by rw [hg]; exact Nat.ne_of_lt (blk_lt (g := gb119) (o := .cells #[.string ((rd_T140 l0 x3_1).f0), .string ((rd_T140 l0 x3_1).f1), .int .i64 ((rd_T140 l0 x3_1).f2), .int .i64 ((rd_T140 l0 x3_1).f3), .int .i64 ((rd_T140 l0 x3_1).f4), .slice (some ad128) ((rd_T140 l0 x3_1).f5).length c118_5] 140 (0, 0)) (by (with_reducible repeat (first | refine blk_drewN ?_ _ | refine blk_drew ?_ | refine blk_alloc ?_ _)); exact BK119.out)) : gb119 ≠ gb129)); have n6_ := Aside0.mk ((by rw [hg]; exact Nat.ne_of_gt (blk_lt (g := gb119) (o := .cells #[.string ((rd_T140 l0 x3_1).f0), .string ((rd_T140 l0 x3_1).f1), .int .i64 ((rd_T140 l0 x3_1).f2), .int .i64 ((rd_T140 l0 x3_1).f3), .int .i64 ((rd_T140 l0 x3_1).f4), .slice (some ad128) ((rd_T140 l0 x3_1).f5).length c118_5] 140 (0, 0)) (by (with_reducible repeat (first | refine blk_drewN ?_ _ | refine blk_drew ?_ | refine blk_alloc ?_ _)); exact BK119.out)) : gb129 ≠ gb119)); clear BK119; clear HB; have BK119 := n0_; have HB := n1_; have BK129 := n2_; have GW129 := n3_; have GE129 := n4_; have NB119_129 := n5_; have NB129_119 := n6_; clear n0_ n1_ n2_ n3_ n4_ n5_ n6_; clear hb hbox hg; have hnb45 := NB129_119.out; have hnc45 := NB119_129.out; have hcz46_0 : w44.cell? ⟨gb129, 0, none⟩ = some (.int .i64 0) := (blk_cell BK129.out 0).trans rfl; have hcz46_1 : w44.cell? ⟨gb129, 1, none⟩ = some (.bool false) := (blk_cell BK129.out 1).trans rfl; have hcz46_2 : w44.cell? ⟨gb129, 2, none⟩ = some (.slice none 0 0) := (blk_cell BK129.out 2).trans rfl; have hfz46_0 := blk_frozen BK129.out 0; have hfz46_1 := blk_frozen BK129.out 1; have hfz46_2 := blk_frozen BK129.out 2))
                go_ret
                exact ⟨by first | rfl | (simp [errW_none, errW_some] <;> rfl) | (simp [*, errW_none, errW_some] <;> rfl), by repeat (first | (with_reducible first | exact HB.out | apply below_alloc | apply pw_below_drewN | apply below_drew1 | refine below_set ?_ GE119.out | refine below_set ?_ GE129.out) | exact HB.out)⟩
              rw [if_neg c42] at H
              have c42b0 : decide (((rd_T143 ((rd_T140 l0 x3_1).f5) x6_3).f0) < x5_3) = false := decide_eq_false c42
              clear c42
              by_cases c47 : (Int.tmod ((rd_T143 ((rd_T140 l0 x3_1).f5) x6_3).f0) 8) = 0
              rotate_left
              · rw [if_neg c47] at H
                have c47b0 : ((Int.tmod ((rd_T143 ((rd_T140 l0 x3_1).f5) x6_3).f0) 8) == 0) = false := beq_eq_false_iff_ne.mpr c47
                have c47b1 : ((Int.tmod ((rd_T143 ((rd_T140 l0 x3_1).f5) x6_3).f0) 8) != 0) = true := bne_iff_ne.mpr c47
                obtain rfl := Option.some.inj H
                have hcz108_0 : wr.cell? ⟨gb119, 0, none⟩ = some (.string ((rd_T140 l0 x3_1).f0)) := (blk_cell BK119.out 0).trans rfl
                have hcz108_1 : wr.cell? ⟨gb119, 1, none⟩ = some (.string ((rd_T140 l0 x3_1).f1)) := (blk_cell BK119.out 1).trans rfl
                have hcz108_2 : wr.cell? ⟨gb119, 2, none⟩ = some (.int .i64 ((rd_T140 l0 x3_1).f2)) := (blk_cell BK119.out 2).trans rfl
                have hcz108_3 : wr.cell? ⟨gb119, 3, none⟩ = some (.int .i64 ((rd_T140 l0 x3_1).f3)) := (blk_cell BK119.out 3).trans rfl
                have hcz108_4 : wr.cell? ⟨gb119, 4, none⟩ = some (.int .i64 ((rd_T140 l0 x3_1).f4)) := (blk_cell BK119.out 4).trans rfl
                have hcz108_5 : wr.cell? ⟨gb119, 5, none⟩ = some (.slice A118_5 ((rd_T140 l0 x3_1).f5).length c118_5) := (blk_cell BK119.out 5).trans rfl
                have hfz108_0 := blk_frozen BK119.out 0
                have hfz108_1 := blk_frozen BK119.out 1
                have hfz108_2 := blk_frozen BK119.out 2
                have hfz108_3 := blk_frozen BK119.out 3
                have hfz108_4 := blk_frozen BK119.out 4
                have hfz108_5 := blk_frozen BK119.out 5
                have p128 : 0 ≤ (x6_3 : Int) := of_decide_eq_true (by first | (with_reducible assumption) | assumption)
                have q128 : x6_3 < (((rd_T140 l0 x3_1).f5).length : Int) := of_decide_eq_true (by first | (with_reducible assumption) | assumption)
                obtain ⟨ad128, A128_2, c128_2, e128, hx128_0, hx128_1, hx128_2, hl128_2, hi128_2⟩ := at_T143 HR118_5.out x6_3 p128 q128
                cases e128
                replace hx128_0 := (HB.out.cell (World.block_lt_of_cell? w _ hx128_0)).trans hx128_0
                replace hx128_1 := (HB.out.cell (World.block_lt_of_cell? w _ hx128_1)).trans hx128_1
                replace hx128_2 := (HB.out.cell (World.block_lt_of_cell? w _ hx128_2)).trans hx128_2
                have HR128_2 := Aside0.mk hi128_2
                have HC128_2 := Aside0.mk hl128_2
                clear hi128_2 hl128_2
                replace p128 := eq_true p128
                replace q128 := eq_true q128
                go_wp2_with (first | ((with_reducible refine gate_dst (N := 7) rfl ?_); refine box_event ?hg (N := 7) ?hd (cs := #[.int .i64 0, .bool false, .slice none 0 0]) (t := 143) ?hr ?_; (case hd => rfl); (case hg => rfl); (case hr => first | (go_simp; done) | (go_simp; rfl)); intro gb129 hg w109 hbox hb; have n0_ := Aside0.mk (blk_below (g := gb119) (o := .cells #[.string ((rd_T140 l0 x3_1).f0), .string ((rd_T140 l0 x3_1).f1), .int .i64 ((rd_T140 l0 x3_1).f2), .int .i64 ((rd_T140 l0 x3_1).f3), .int .i64 ((rd_T140 l0 x3_1).f4), .slice (some ad128) ((rd_T140 l0 x3_1).f5).length c118_5] 140 (0, 0)) (by (with_reducible repeat (first | refine blk_drewN ?_ _ | refine blk_drew ?_ | refine blk_alloc ?_ _)); exact BK119.out) hb); have n1_ := Aside0.mk (below_step (by repeat (first | (with_reducible first | exact HB.out | apply below_alloc | apply pw_below_drewN | apply below_drew1 | refine below_set ?_ GE119.out) | exact HB.out)) hb); have n2_ := Aside0.mk (hbox); have n3_ := Aside0.mk ((by rw [hg]; exact (below_size (by repeat (first | (with_reducible first | exact HB.out | apply below_alloc | apply pw_below_drewN | apply below_drew1 | refine below_set ?_ GE119.out) | exact HB.out))) : w.heap.size ≤ gb129)); have n4_ := Aside0.mk ((by rw [hg]; exact (below_size (by repeat (first | (with_reducible first | exact HB.out | apply below_alloc | apply pw_below_drewN | apply below_drew1 | refine below_set ?_ GE119.out) | exact HB.out))) : w.heap.size ≤ gb129)); have n5_ := Aside0.mk ((by rw [hg]; exact Nat.ne_of_lt (blk_lt (g := gb119) (o := .cells #[.string ((rd_T140 l0 x3_1).f0), .string ((rd_T140 l0 x3_1).f1), .int .i64 ((rd_T140 l0 x3_1).f2), .int .i64 ((rd_T140 l0 x3_1).f3), .int .i64 ((rd_T140 l0 x3_1).f4), .slice (some ad128) ((rd_T140 l0 x3_1).f5).length c118_5] 140 (0, 0)) (by (with_reducible repeat (first | refine blk_drewN ?_ _ | refine blk_drew ?_ | refine blk_alloc ?_ _)); exact BK119.out)) : gb119 ≠ gb129)); have n6_ := Aside0.mk ((by rw [hg]; exact Nat.ne_of_gt (blk_lt (g := gb119) (o := .cells #[.string ((rd_T140 l0 x3_1).f0), .string ((rd_T140 l0 x3_1).f1), .int .i64 ((rd_T140 l0 x3_1).f2), .int .i64 ((rd_T140 l0 x3_1).f3), .int .i64 ((rd_T140 l0 x3_1).f4), .slice (some ad128) ((rd_T140 l0 x3_1).f5).length c118_5] 140 (0, 0)) (by (with_reducible repeat (first | refine blk_drewN ?_ _ | refine blk_drew ?_ | refine blk_alloc ?_ _)); exact BK119.out)) : gb129 ≠ gb119)); clear BK119; clear HB; have BK119 := n0_; have HB := n1_; have BK129 := n2_; have GW129 := n3_; have GE129 := n4_; have NB119_129 := n5_; have NB129_119 := n6_; clear n0_ n1_ n2_ n3_ n4_ n5_ n6_; clear hb hbox hg; have hnb110 := NB129_119.out; have hnc110 := NB119_129.out; have hcz111_0 : w109.cell? ⟨gb129, 0, none⟩ = some (.int .i64 0) := (blk_cell BK129.out 0).trans rfl; have hcz111_1 : w109.cell? ⟨gb129, 1, none⟩ = some (.bool false) := (blk_cell BK129.out 1).trans rfl; have hcz111_2 : w109.cell? ⟨gb129, 2, none⟩ = some (.slice none 0 0) := (blk_cell BK129.out 2).trans rfl; have hfz111_0 := blk_frozen BK129.out 0; have hfz111_1 := blk_frozen BK129.out 1; have hfz111_2 := blk_frozen BK129.out 2))
                go_ret
                exact ⟨by first | rfl | (simp [errW_none, errW_some] <;> rfl) | (simp [*, errW_none, errW_some] <;> rfl), by repeat (first | (with_reducible first | exact HB.out | apply below_alloc | apply pw_below_drewN | apply below_drew1 | refine below_set ?_ GE119.out | refine below_set ?_ GE129.out) | exact HB.out)⟩
              rw [if_pos c47] at H
              have c47b0 : ((Int.tmod ((rd_T143 ((rd_T140 l0 x3_1).f5) x6_3).f0) 8) == 0) = true := beq_iff_eq.mpr c47
              have c47b1 : ((Int.tmod ((rd_T143 ((rd_T140 l0 x3_1).f5) x6_3).f0) 8) != 0) = false := bne_eq_false_iff_eq.mpr c47
              clear c47
              by_cases c48 : (((rd_T143 ((rd_T140 l0 x3_1).f5) x6_3).f2).length : Int) > 1500
              · rw [if_pos c48] at H
                have c48b0 : decide (1500 < (((rd_T143 ((rd_T140 l0 x3_1).f5) x6_3).f2).length : Int)) = true := decide_eq_true c48
                have c48b1 : decide (1500 < ((rd_T143 ((rd_T140 l0 x3_1).f5) x6_3).f2).length) = true := decide_eq_true (by omega)
                clear c48
                obtain rfl := Option.some.inj H
                have hcz49_0 : wr.cell? ⟨gb119, 0, none⟩ = some (.string ((rd_T140 l0 x3_1).f0)) := (blk_cell BK119.out 0).trans rfl
                have hcz49_1 : wr.cell? ⟨gb119, 1, none⟩ = some (.string ((rd_T140 l0 x3_1).f1)) := (blk_cell BK119.out 1).trans rfl
                have hcz49_2 : wr.cell? ⟨gb119, 2, none⟩ = some (.int .i64 ((rd_T140 l0 x3_1).f2)) := (blk_cell BK119.out 2).trans rfl
                have hcz49_3 : wr.cell? ⟨gb119, 3, none⟩ = some (.int .i64 ((rd_T140 l0 x3_1).f3)) := (blk_cell BK119.out 3).trans rfl
                have hcz49_4 : wr.cell? ⟨gb119, 4, none⟩ = some (.int .i64 ((rd_T140 l0 x3_1).f4)) := (blk_cell BK119.out 4).trans rfl
                have hcz49_5 : wr.cell? ⟨gb119, 5, none⟩ = some (.slice A118_5 ((rd_T140 l0 x3_1).f5).length c118_5) := (blk_cell BK119.out 5).trans rfl
                have hfz49_0 := blk_frozen BK119.out 0
                have hfz49_1 := blk_frozen BK119.out 1
                have hfz49_2 := blk_frozen BK119.out 2
                have hfz49_3 := blk_frozen BK119.out 3
                have hfz49_4 := blk_frozen BK119.out 4
                have hfz49_5 := blk_frozen BK119.out 5
                have p128 : 0 ≤ (x6_3 : Int) := of_decide_eq_true (by first | (with_reducible assumption) | assumption)
                have q128 : x6_3 < (((rd_T140 l0 x3_1).f5).length : Int) := of_decide_eq_true (by first | (with_reducible assumption) | assumption)
                obtain ⟨ad128, A128_2, c128_2, e128, hx128_0, hx128_1, hx128_2, hl128_2, hi128_2⟩ := at_T143 HR118_5.out x6_3 p128 q128
                cases e128
                replace hx128_0 := (HB.out.cell (World.block_lt_of_cell? w _ hx128_0)).trans hx128_0
                replace hx128_1 := (HB.out.cell (World.block_lt_of_cell? w _ hx128_1)).trans hx128_1
                replace hx128_2 := (HB.out.cell (World.block_lt_of_cell? w _ hx128_2)).trans hx128_2
                have HR128_2 := Aside0.mk hi128_2
                have HC128_2 := Aside0.mk hl128_2
                clear hi128_2 hl128_2
                replace p128 := eq_true p128
                replace q128 := eq_true q128
                go_wp2_with (first | ((with_reducible refine gate_dst (N := 7) rfl ?_); refine box_event ?hg (N := 7) ?hd (cs := #[.int .i64 0, .bool false, .slice none 0 0]) (t := 143) ?hr ?_; (case hd => rfl); (case hg => rfl); (case hr => first | (go_simp; done) | (go_simp; rfl)); intro gb129 hg w50 hbox hb; have n0_ := Aside0.mk (blk_below (g := gb119) (o := .cells #[.string ((rd_T140 l0 x3_1).f0), .string ((rd_T140 l0 x3_1).f1), .int .i64 ((rd_T140 l0 x3_1).f2), .int .i64 ((rd_T140 l0 x3_1).f3), .int .i64 ((rd_T140 l0 x3_1).f4), .slice (some ad128) ((rd_T140 l0 x3_1).f5).length c118_5] 140 (0, 0)) (by (with_reducible repeat (first | refine blk_drewN ?_ _ | refine blk_drew ?_ | refine blk_alloc ?_ _)); exact BK119.out) hb); have n1_ := Aside0.mk (below_step (by repeat (first | (with_reducible first | exact HB.out | apply below_alloc | apply pw_below_drewN | apply below_drew1 | refine below_set ?_ GE119.out) | exact HB.out)) hb); have n2_ := Aside0.mk (hbox); have n3_ := Aside0.mk ((by rw [hg]; exact (below_size (by repeat (first | (with_reducible first | exact HB.out | apply below_alloc | apply pw_below_drewN | apply below_drew1 | refine below_set ?_ GE119.out) | exact HB.out))) : w.heap.size ≤ gb129)); have n4_ := Aside0.mk ((by rw [hg]; exact (below_size (by repeat (first | (with_reducible first | exact HB.out | apply below_alloc | apply pw_below_drewN | apply below_drew1 | refine below_set ?_ GE119.out) | exact HB.out))) : w.heap.size ≤ gb129)); have n5_ := Aside0.mk ((by rw [hg]; exact Nat.ne_of_lt (blk_lt (g := gb119) (o := .cells #[.string ((rd_T140 l0 x3_1).f0), .string ((rd_T140 l0 x3_1).f1), .int .i64 ((rd_T140 l0 x3_1).f2), .int .i64 ((rd_T140 l0 x3_1).f3), .int .i64 ((rd_T140 l0 x3_1).f4), .slice (some ad128) ((rd_T140 l0 x3_1).f5).length c118_5] 140 (0, 0)) (by (with_reducible repeat (first | refine blk_drewN ?_ _ | refine blk_drew ?_ | refine blk_alloc ?_ _)); exact BK119.out)) : gb119 ≠ gb129)); have n6_ := Aside0.mk ((by rw [hg]; exact Nat.ne_of_gt (blk_lt (g := gb119) (o := .cells #[.string ((rd_T140 l0 x3_1).f0), .string ((rd_T140 l0 x3_1).f1), .int .i64 ((rd_T140 l0 x3_1).f2), .int .i64 ((rd_T140 l0 x3_1).f3), .int .i64 ((rd_T140 l0 x3_1).f4), .slice (some ad128) ((rd_T140 l0 x3_1).f5).length c118_5] 140 (0, 0)) (by (with_reducible repeat (first | refine blk_drewN ?_ _ | refine blk_drew ?_ | refine blk_alloc ?_ _)); exact BK119.out)) : gb129 ≠ gb119)); clear BK119; clear HB; have BK119 := n0_; have HB := n1_; have BK129 := n2_; have GW129 := n3_; have GE129 := n4_; have NB119_129 := n5_; have NB129_119 := n6_; clear n0_ n1_ n2_ n3_ n4_ n5_ n6_; clear hb hbox hg; have hnb51 := NB129_119.out; have hnc51 := NB119_129.out; have hcz52_0 : w50.cell? ⟨gb129, 0, none⟩ = some (.int .i64 0) := (blk_cell BK129.out 0).trans rfl; have hcz52_1 : w50.cell? ⟨gb129, 1, none⟩ = some (.bool false) := (blk_cell BK129.out 1).trans rfl; have hcz52_2 : w50.cell? ⟨gb129, 2, none⟩ = some (.slice none 0 0) := (blk_cell BK129.out 2).trans rfl; have hfz52_0 := blk_frozen BK129.out 0; have hfz52_1 := blk_frozen BK129.out 1; have hfz52_2 := blk_frozen BK129.out 2))
                go_ret
                exact ⟨by first | rfl | (simp [errW_none, errW_some] <;> rfl) | (simp [*, errW_none, errW_some] <;> rfl), by repeat (first | (with_reducible first | exact HB.out | apply below_alloc | apply pw_below_drewN | apply below_drew1 | refine below_set ?_ GE119.out | refine below_set ?_ GE129.out) | exact HB.out)⟩
              rw [if_neg c48] at H
              have c48b0 : decide (1500 < (((rd_T143 ((rd_T140 l0 x3_1).f5) x6_3).f2).length : Int)) = false := decide_eq_false c48
              have c48b1 : decide (1500 < ((rd_T143 ((rd_T140 l0 x3_1).f5) x6_3).f2).length) = false := decide_eq_false (by omega)
              clear c48
              by_cases c53 : ((rd_T143 ((rd_T140 l0 x3_1).f5) x6_3).f0) > (wrap64 (65515 - (((rd_T143 ((rd_T140 l0 x3_1).f5) x6_3).f2).length : Int)))
              · rw [if_pos c53] at H
                have c53b0 : decide ((wrap64 (65515 - (((rd_T143 ((rd_T140 l0 x3_1).f5) x6_3).f2).length : Int))) < ((rd_T143 ((rd_T140 l0 x3_1).f5) x6_3).f0)) = true := decide_eq_true c53
                clear c53
                obtain rfl := Option.some.inj H
                have hcz54_0 : wr.cell? ⟨gb119, 0, none⟩ = some (.string ((rd_T140 l0 x3_1).f0)) := (blk_cell BK119.out 0).trans rfl
                have hcz54_1 : wr.cell? ⟨gb119, 1, none⟩ = some (.string ((rd_T140 l0 x3_1).f1)) := (blk_cell BK119.out 1).trans rfl
                have hcz54_2 : wr.cell? ⟨gb119, 2, none⟩ = some (.int .i64 ((rd_T140 l0 x3_1).f2)) := (blk_cell BK119.out 2).trans rfl
                have hcz54_3 : wr.cell? ⟨gb119, 3, none⟩ = some (.int .i64 ((rd_T140 l0 x3_1).f3)) := (blk_cell BK119.out 3).trans rfl
                have hcz54_4 : wr.cell? ⟨gb119, 4, none⟩ = some (.int .i64 ((rd_T140 l0 x3_1).f4)) := (blk_cell BK119.out 4).trans rfl
                have hcz54_5 : wr.cell? ⟨gb119, 5, none⟩ = some (.slice A118_5 ((rd_T140 l0 x3_1).f5).length c118_5) := (blk_cell BK119.out 5).trans rfl
                have hfz54_0 := blk_frozen BK119.out 0
                have hfz54_1 := blk_frozen BK119.out 1
                have hfz54_2 := blk_frozen BK119.out 2
                have hfz54_3 := blk_frozen BK119.out 3
                have hfz54_4 := blk_frozen BK119.out 4
                have hfz54_5 := blk_frozen BK119.out 5
                have p128 : 0 ≤ (x6_3 : Int) := of_decide_eq_true (by first | (with_reducible assumption) | assumption)
                have q128 : x6_3 < (((rd_T140 l0 x3_1).f5).length : Int) := of_decide_eq_true (by first | (with_reducible assumption) | assumption)
                obtain ⟨ad128, A128_2, c128_2, e128, hx128_0, hx128_1, hx128_2, hl128_2, hi128_2⟩ := at_T143 HR118_5.out x6_3 p128 q128
                cases e128
                replace hx128_0 := (HB.out.cell (World.block_lt_of_cell? w _ hx128_0)).trans hx128_0
                replace hx128_1 := (HB.out.cell (World.block_lt_of_cell? w _ hx128_1)).trans hx128_1
                replace hx128_2 := (HB.out.cell (World.block_lt_of_cell? w _ hx128_2)).trans hx128_2
                have HR128_2 := Aside0.mk hi128_2
                have HC128_2 := Aside0.mk hl128_2
                clear hi128_2 hl128_2
                replace p128 := eq_true p128
                replace q128 := eq_true q128
                go_wp2_with (first | ((with_reducible refine gate_dst (N := 7) rfl ?_); refine box_event ?hg (N := 7) ?hd (cs := #[.int .i64 0, .bool false, .slice none 0 0]) (t := 143) ?hr ?_; (case hd => rfl); (case hg => rfl); (case hr => first | (go_simp; done) | (go_simp; rfl)); intro gb129 hg w55 hbox hb; have n0_ := Aside0.mk (blk_below (g := gb119) (o := .cells #[.string ((rd_T140 l0 x3_1).f0), .string ((rd_T140 l0 x3_1).f1), .int .i64 ((rd_T140 l0 x3_1).f2), .int .i64 ((rd_T140 l0 x3_1).f3), .int .i64 ((rd_T140 l0 x3_1).f4), .slice (some ad128) ((rd_T140 l0 x3_1).f5).length c118_5] 140 (0, 0)) (by (with_reducible repeat (first | refine blk_drewN ?_ _ | refine blk_drew ?_ | refine blk_alloc ?_ _)); exact BK119.out) hb); have n1_ := Aside0.mk (below_step (by repeat (first | (with_reducible first | exact HB.out | apply below_alloc | apply pw_below_drewN | apply below_drew1 | refine below_set ?_ GE119.out) | exact HB.out)) hb); have n2_ := Aside0.mk (hbox); have n3_ := Aside0.mk ((by rw [hg]; exact (below_size (by repeat (first | (with_reducible first | exact HB.out | apply below_alloc | apply pw_below_drewN | apply below_drew1 | refine below_set ?_ GE119.out) | exact HB.out))) : w.heap.size ≤ gb129)); have n4_ := Aside0.mk ((by rw [hg]; exact (below_size (by repeat (first | (with_reducible first | exact HB.out | apply below_alloc | apply pw_below_drewN | apply below_drew1 | refine below_set ?_ GE119.out) | exact HB.out))) : w.heap.size ≤ gb129)); have n5_ := Aside0.mk ((by rw [hg]; exact Nat.ne_of_lt (blk_lt (g := gb119) (o := .cells #[.string ((rd_T140 l0 x3_1).f0), .string ((rd_T140 l0 x3_1).f1), .int .i64 ((rd_T140 l0 x3_1).f2), .int .i64 ((rd_T140 l0 x3_1).f3), .int .i64 ((rd_T140 l0 x3_1).f4), .slice (some ad128) ((rd_T140 l0 x3_1).f5).length c118_5] 140 (0, 0)) (by (with_reducible repeat (first | refine blk_drewN ?_ _ | refine blk_drew ?_ | refine blk_alloc ?_ _)); exact BK119.out)) : gb119 ≠ gb129)); have n6_ := Aside0.mk ((by rw [hg]; exact Nat.ne_of_gt (blk_lt (g := gb119) (o := .cells #[.string ((rd_T140 l0 x3_1).f0), .string ((rd_T140 l0 x3_1).f1), .int .i64 ((rd_T140 l0 x3_1).f2), .int .i64 ((rd_T140 l0 x3_1).f3), .int .i64 ((rd_T140 l0 x3_1).f4), .slice (some ad128) ((rd_T140 l0 x3_1).f5).length c118_5] 140 (0, 0)) (by (with_reducible repeat (first | refine blk_drewN ?_ _ | refine blk_drew ?_ | refine blk_alloc ?_ _)); exact BK119.out)) : gb129 ≠ gb119)); clear BK119; clear HB; have BK119 := n0_; have HB := n1_; have BK129 := n2_; have GW129 := n3_; have GE129 := n4_; have NB119_129 := n5_; have NB129_119 := n6_; clear n0_ n1_ n2_ n3_ n4_ n5_ n6_; clear hb hbox hg; have hnb56 := NB129_119.out; have hnc56 := NB119_129.out; have hcz57_0 : w55.cell? ⟨gb129, 0, none⟩ = some (.int .i64 0) := (blk_cell BK129.out 0).trans rfl; have hcz57_1 : w55.cell? ⟨gb129, 1, none⟩ = some (.bool false) := (blk_cell BK129.out 1).trans rfl; have hcz57_2 : w55.cell? ⟨gb129, 2, none⟩ = some (.slice none 0 0) := (blk_cell BK129.out 2).trans rfl; have hfz57_0 := blk_frozen BK129.out 0; have hfz57_1 := blk_frozen BK129.out 1; have hfz57_2 := blk_frozen BK129.out 2))
                go_ret
                exact ⟨by first | rfl | (simp [errW_none, errW_some] <;> rfl) | (simp [*, errW_none, errW_some] <;> rfl), by repeat (first | (with_reducible first | exact HB.out | apply below_alloc | apply pw_below_drewN | apply below_drew1 | refine below_set ?_ GE119.out | refine below_set ?_ GE129.out) | exact HB.out)⟩
              rw [if_neg c53] at H
              have c53b0 : decide ((wrap64 (65515 - (((rd_T143 ((rd_T140 l0 x3_1).f5) x6_3).f2).length : Int))) < ((rd_T143 ((rd_T140 l0 x3_1).f5) x6_3).f0)) = false := decide_eq_false c53
              clear c53
              obtain ⟨bq58, hbq58⟩ : ∃ b_ : Bool, b_ = ((rd_T143 ((rd_T140 l0 x3_1).f5) x6_3).f1) := ⟨_, rfl⟩
              replace H : (if bq58 = true then (if x6_3 < (wrap64 ((((rd_T140 l0 x3_1).f5).length : Int) - 1)) then (some false) else (if (bq58 = true) then (spec_BoxesOK.l1 k3 l0 x3_1 (wrap64 (((rd_T143 ((rd_T140 l0 x3_1).f5) x6_3).f0) + (((rd_T143 ((rd_T140 l0 x3_1).f5) x6_3).f2).length : Int))) (wrap64 (x6_3 + 1)) ((rd_T140 l0 x3_1).f0) ((rd_T140 l0 x3_1).f1) ((rd_T140 l0 x3_1).f2) ((rd_T140 l0 x3_1).f3) ((rd_T140 l0 x3_1).f4) ((rd_T140 l0 x3_1).f5)) else (if ((((rd_T143 ((rd_T140 l0 x3_1).f5) x6_3).f2).length : Int) % 8) = 0 then (if (((rd_T143 ((rd_T140 l0 x3_1).f5) x6_3).f2).length : Int) = 0 then (some false) else (spec_BoxesOK.l1 k3 l0 x3_1 (wrap64 (((rd_T143 ((rd_T140 l0 x3_1).f5) x6_3).f0) + (((rd_T143 ((rd_T140 l0 x3_1).f5) x6_3).f2).length : Int))) (wrap64 (x6_3 + 1)) ((rd_T140 l0 x3_1).f0) ((rd_T140 l0 x3_1).f1) ((rd_T140 l0 x3_1).f2) ((rd_T140 l0 x3_1).f3) ((rd_T140 l0 x3_1).f4) ((rd_T140 l0 x3_1).f5))) else (some false)))) else (if (bq58 = true) then (spec_BoxesOK.l1 k3 l0 x3_1 (wrap64 (((rd_T143 ((rd_T140 l0 x3_1).f5) x6_3).f0) + (((rd_T143 ((rd_T140 l0 x3_1).f5) x6_3).f2).length : Int))) (wrap64 (x6_3 + 1)) ((rd_T140 l0 x3_1).f0) ((rd_T140 l0 x3_1).f1) ((rd_T140 l0 x3_1).f2) ((rd_T140 l0 x3_1).f3) ((rd_T140 l0 x3_1).f4) ((rd_T140 l0 x3_1).f5)) else (if ((((rd_T143 ((rd_T140 l0 x3_1).f5) x6_3).f2).length : Int) % 8) = 0 then (if (((rd_T143 ((rd_T140 l0 x3_1).f5) x6_3).f2).length : Int) = 0 then (some false) else (spec_BoxesOK.l1 k3 l0 x3_1 (wrap64 (((rd_T143 ((rd_T140 l0 x3_1).f5) x6_3).f0) + (((rd_T143 ((rd_T140 l0 x3_1).f5) x6_3).f2).length : Int))) (wrap64 (x6_3 + 1)) ((rd_T140 l0 x3_1).f0) ((rd_T140 l0 x3_1).f1) ((rd_T140 l0 x3_1).f2) ((rd_T140 l0 x3_1).f3) ((rd_T140 l0 x3_1).f4) ((rd_T140 l0 x3_1).f5))) else (some false)))) = some r := by rw [← hbq58] at H; exact H
              have Nbq58 := Aside0.mk hbq58
              clear hbq58
              by_cases c59 : bq58 = true
              · subst c59
                have H1 : (if x6_3 < (wrap64 ((((rd_T140 l0 x3_1).f5).length : Int) - 1)) then (some false) else (if (true = true) then (spec_BoxesOK.l1 k3 l0 x3_1 (wrap64 (((rd_T143 ((rd_T140 l0 x3_1).f5) x6_3).f0) + (((rd_T143 ((rd_T140 l0 x3_1).f5) x6_3).f2).length : Int))) (wrap64 (x6_3 + 1)) ((rd_T140 l0 x3_1).f0) ((rd_T140 l0 x3_1).f1) ((rd_T140 l0 x3_1).f2) ((rd_T140 l0 x3_1).f3) ((rd_T140 l0 x3_1).f4) ((rd_T140 l0 x3_1).f5)) else (if ((((rd_T143 ((rd_T140 l0 x3_1).f5) x6_3).f2).length : Int) % 8) = 0 then (if (((rd_T143 ((rd_T140 l0 x3_1).f5) x6_3).f2).length : Int) = 0 then (some false) else (spec_BoxesOK.l1 k3 l0 x3_1 (wrap64 (((rd_T143 ((rd_T140 l0 x3_1).f5) x6_3).f0) + (((rd_T143 ((rd_T140 l0 x3_1).f5) x6_3).f2).length : Int))) (wrap64 (x6_3 + 1)) ((rd_T140 l0 x3_1).f0) ((rd_T140 l0 x3_1).f1) ((rd_T140 l0 x3_1).f2) ((rd_T140 l0 x3_1).f3) ((rd_T140 l0 x3_1).f4) ((rd_T140 l0 x3_1).f5))) else (some false)))) = some r := by rw [if_pos rfl] at H; exact H
                clear H
                have H := H1
                clear H1
                by_cases c60 : x6_3 < (wrap64 ((((rd_T140 l0 x3_1).f5).length : Int) - 1))
                · rw [if_pos c60] at H
                  have c60b0 : decide (x6_3 < (wrap64 ((((rd_T140 l0 x3_1).f5).length : Int) - 1))) = true := decide_eq_true c60
                  clear c60
                  obtain rfl := Option.some.inj H
                  have hcz61_0 : wr.cell? ⟨gb119, 0, none⟩ = some (.string ((rd_T140 l0 x3_1).f0)) := (blk_cell BK119.out 0).trans rfl
                  have hcz61_1 : wr.cell? ⟨gb119, 1, none⟩ = some (.string ((rd_T140 l0 x3_1).f1)) := (blk_cell BK119.out 1).trans rfl
                  have hcz61_2 : wr.cell? ⟨gb119, 2, none⟩ = some (.int .i64 ((rd_T140 l0 x3_1).f2)) := (blk_cell BK119.out 2).trans rfl
                  have hcz61_3 : wr.cell? ⟨gb119, 3, none⟩ = some (.int .i64 ((rd_T140 l0 x3_1).f3)) := (blk_cell BK119.out 3).trans rfl
                  have hcz61_4 : wr.cell? ⟨gb119, 4, none⟩ = some (.int .i64 ((rd_T140 l0 x3_1).f4)) := (blk_cell BK119.out 4).trans rfl
                  have hcz61_5 : wr.cell? ⟨gb119, 5, none⟩ = some (.slice A118_5 ((rd_T140 l0 x3_1).f5).length c118_5) := (blk_cell BK119.out 5).trans rfl
                  have hfz61_0 := blk_frozen BK119.out 0
                  have hfz61_1 := blk_frozen BK119.out 1
                  have hfz61_2 := blk_frozen BK119.out 2
                  have hfz61_3 := blk_frozen BK119.out 3
                  have hfz61_4 := blk_frozen BK119.out 4
                  have hfz61_5 := blk_frozen BK119.out 5
                  have p128 : 0 ≤ (x6_3 : Int) := of_decide_eq_true (by first | (with_reducible assumption) | assumption)
                  have q128 : x6_3 < (((rd_T140 l0 x3_1).f5).length : Int) := of_decide_eq_true (by first | (with_reducible assumption) | assumption)
                  obtain ⟨ad128, A128_2, c128_2, e128, hx128_0, hx128_1, hx128_2, hl128_2, hi128_2⟩ := at_T143 HR118_5.out x6_3 p128 q128
                  (try rw [← Nbq58.out] at hx128_1)
                  cases e128
                  replace hx128_0 := (HB.out.cell (World.block_lt_of_cell? w _ hx128_0)).trans hx128_0
                  replace hx128_1 := (HB.out.cell (World.block_lt_of_cell? w _ hx128_1)).trans hx128_1
                  replace hx128_2 := (HB.out.cell (World.block_lt_of_cell? w _ hx128_2)).trans hx128_2
                  have HR128_2 := Aside0.mk hi128_2
                  have HC128_2 := Aside0.mk hl128_2
                  clear hi128_2 hl128_2
                  replace p128 := eq_true p128
                  replace q128 := eq_true q128
                  go_wp2_with (first | ((with_reducible refine gate_dst (N := 7) rfl ?_); refine box_event ?hg (N := 7) ?hd (cs := #[.int .i64 0, .bool false, .slice none 0 0]) (t := 143) ?hr ?_; (case hd => rfl); (case hg => rfl); (case hr => first | (go_simp; done) | (go_simp; rfl)); intro gb129 hg w62 hbox hb; have n0_ := Aside0.mk (blk_below (g := gb119) (o := .cells #[.string ((rd_T140 l0 x3_1).f0), .string ((rd_T140 l0 x3_1).f1), .int .i64 ((rd_T140 l0 x3_1).f2), .int .i64 ((rd_T140 l0 x3_1).f3), .int .i64 ((rd_T140 l0 x3_1).f4), .slice (some ad128) ((rd_T140 l0 x3_1).f5).length c118_5] 140 (0, 0)) (by (with_reducible repeat (first | refine blk_drewN ?_ _ | refine blk_drew ?_ | refine blk_alloc ?_ _)); exact BK119.out) hb); have n1_ := Aside0.mk (below_step (by repeat (first | (with_reducible first | exact HB.out | apply below_alloc | apply pw_below_drewN | apply below_drew1 | refine below_set ?_ GE119.out) | exact HB.out)) hb); have n2_ := Aside0.mk (hbox); have n3_ := Aside0.mk ((by rw [hg]; exact (below_size (by repeat (first | (with_reducible first | exact HB.out | apply below_alloc | apply pw_below_drewN | apply below_drew1 | refine below_set ?_ GE119.out) | exact HB.out))) : w.heap.size ≤ gb129)); have n4_ := Aside0.mk ((by rw [hg]; exact (below_size (by repeat (first | (with_reducible first | exact HB.out | apply below_alloc | apply pw_below_drewN | apply below_drew1 | refine below_set ?_ GE119.out) | exact HB.out))) : w.heap.size ≤ gb129)); have n5_ := Aside0.mk ((by rw [hg]; exact Nat.ne_of_lt (blk_lt (g := gb119) (o := .cells #[.string ((rd_T140 l0 x3_1).f0), .string ((rd_T140 l0 x3_1).f1), .int .i64 ((rd_T140 l0 x3_1).f2), .int .i64 ((rd_T140 l0 x3_1).f3), .int .i64 ((rd_T140 l0 x3_1).f4), .slice (some ad128) ((rd_T140 l0 x3_1).f5).length c118_5] 140 (0, 0)) (by (with_reducible repeat (first | refine blk_drewN ?_ _ | refine blk_drew ?_ | refine blk_alloc ?_ _)); exact BK119.out)) : gb119 ≠ gb129)); have n6_ := Aside0.mk ((by rw [hg]; exact Nat.ne_of_gt (blk_lt (g := gb119) (o := .cells #[.string ((rd_T140 l0 x3_1).f0), .string ((rd_T140 l0 x3_1).f1), .int .i64 ((rd_T140 l0 x3_1).f2), .int .i64 ((rd_T140 l0 x3_1).f3), .int .i64 ((rd_T140 l0 x3_1).f4), .slice (some ad128) ((rd_T140 l0 x3_1).f5).length c118_5] 140 (0, 0)) (by (with_reducible repeat (first | refine blk_drewN ?_ _ | refine blk_drew ?_ | refine blk_alloc ?_ _)); exact BK119.out)) : gb129 ≠ gb119)); clear BK119; clear HB; have BK119 := n0_; have HB := n1_; have BK129 := n2_; have GW129 := n3_; have GE129 := n4_; have NB119_129 := n5_; have NB129_119 := n6_; clear n0_ n1_ n2_ n3_ n4_ n5_ n6_; clear hb hbox hg; have hnb63 := NB129_119.out; have hnc63 := NB119_129.out; have hcz64_0 : w62.cell? ⟨gb129, 0, none⟩ = some (.int .i64 0) := (blk_cell BK129.out 0).trans rfl; have hcz64_1 : w62.cell? ⟨gb129, 1, none⟩ = some (.bool false) := (blk_cell BK129.out 1).trans rfl; have hcz64_2 : w62.cell? ⟨gb129, 2, none⟩ = some (.slice none 0 0) := (blk_cell BK129.out 2).trans rfl; have hfz64_0 := blk_frozen BK129.out 0; have hfz64_1 := blk_frozen BK129.out 1; have hfz64_2 := blk_frozen BK129.out 2; have hcz65_0 : w62.cell? ⟨gb119, 0, none⟩ = some (.string ((rd_T140 l0 x3_1).f0)) := (blk_cell BK119.out 0).trans rfl; have hcz65_1 : w62.cell? ⟨gb119, 1, none⟩ = some (.string ((rd_T140 l0 x3_1).f1)) := (blk_cell BK119.out 1).trans rfl; have hcz65_2 : w62.cell? ⟨gb119, 2, none⟩ = some (.int .i64 ((rd_T140 l0 x3_1).f2)) := (blk_cell BK119.out 2).trans rfl; have hcz65_3 : w62.cell? ⟨gb119, 3, none⟩ = some (.int .i64 ((rd_T140 l0 x3_1).f3)) := (blk_cell BK119.out 3).trans rfl; have hcz65_4 : w62.cell? ⟨gb119, 4, none⟩ = some (.int .i64 ((rd_T140 l0 x3_1).f4)) := (blk_cell BK119.out 4).trans rfl; have hcz65_5 : w62.cell? ⟨gb119, 5, none⟩ = some (.slice (some ad128) ((rd_T140 l0 x3_1).f5).length c118_5) := (blk_cell BK119.out 5).trans rfl; have hfz65_0 := blk_frozen BK119.out 0; have hfz65_1 := blk_frozen BK119.out 1; have hfz65_2 := blk_frozen BK119.out 2; have hfz65_3 := blk_frozen BK119.out 3; have hfz65_4 := blk_frozen BK119.out 4; have hfz65_5 := blk_frozen BK119.out 5))
                  go_ret
                  exact ⟨by first | rfl | (simp [errW_none, errW_some] <;> rfl) | (simp [*, errW_none, errW_some] <;> rfl), by repeat (first | (with_reducible first | exact HB.out | apply below_alloc | apply pw_below_drewN | apply below_drew1 | refine below_set ?_ GE119.out | refine below_set ?_ GE129.out) | exact HB.out)⟩
                rw [if_neg c60] at H
                have c60b0 : decide (x6_3 < (wrap64 ((((rd_T140 l0 x3_1).f5).length : Int) - 1))) = false := decide_eq_false c60
                clear c60
                have H1 : (spec_BoxesOK.l1 k3 l0 x3_1 (wrap64 (((rd_T143 ((rd_T140 l0 x3_1).f5) x6_3).f0) + (((rd_T143 ((rd_T140 l0 x3_1).f5) x6_3).f2).length : Int))) (wrap64 (x6_3 + 1)) ((rd_T140 l0 x3_1).f0) ((rd_T140 l0 x3_1).f1) ((rd_T140 l0 x3_1).f2) ((rd_T140 l0 x3_1).f3) ((rd_T140 l0 x3_1).f4) ((rd_T140 l0 x3_1).f5)) = some r := by rw [if_pos rfl] at H; exact H
                clear H
                have H := H1
                clear H1
                have H' := Aside0.mk H
                clear H
                have hcz67_0 : wr.cell? ⟨gb119, 0, none⟩ = some (.string ((rd_T140 l0 x3_1).f0)) := (blk_cell BK119.out 0).trans rfl
                have hcz67_1 : wr.cell? ⟨gb119, 1, none⟩ = some (.string ((rd_T140 l0 x3_1).f1)) := (blk_cell BK119.out 1).trans rfl
                have hcz67_2 : wr.cell? ⟨gb119, 2, none⟩ = some (.int .i64 ((rd_T140 l0 x3_1).f2)) := (blk_cell BK119.out 2).trans rfl
                have hcz67_3 : wr.cell? ⟨gb119, 3, none⟩ = some (.int .i64 ((rd_T140 l0 x3_1).f3)) := (blk_cell BK119.out 3).trans rfl
                have hcz67_4 : wr.cell? ⟨gb119, 4, none⟩ = some (.int .i64 ((rd_T140 l0 x3_1).f4)) := (blk_cell BK119.out 4).trans rfl
                have hcz67_5 : wr.cell? ⟨gb119, 5, none⟩ = some (.slice A118_5 ((rd_T140 l0 x3_1).f5).length c118_5) := (blk_cell BK119.out 5).trans rfl
                have hfz67_0 := blk_frozen BK119.out 0
                have hfz67_1 := blk_frozen BK119.out 1
                have hfz67_2 := blk_frozen BK119.out 2
                have hfz67_3 := blk_frozen BK119.out 3
                have hfz67_4 := blk_frozen BK119.out 4
                have hfz67_5 := blk_frozen BK119.out 5
                have p128 : 0 ≤ (x6_3 : Int) := of_decide_eq_true (by first | (with_reducible assumption) | assumption)
                have q128 : x6_3 < (((rd_T140 l0 x3_1).f5).length : Int) := of_decide_eq_true (by first | (with_reducible assumption) | assumption)
                obtain ⟨ad128, A128_2, c128_2, e128, hx128_0, hx128_1, hx128_2, hl128_2, hi128_2⟩ := at_T143 HR118_5.out x6_3 p128 q128
                (try rw [← Nbq58.out] at hx128_1)
                cases e128
                replace hx128_0 := (HB.out.cell (World.block_lt_of_cell? w _ hx128_0)).trans hx128_0
                replace hx128_1 := (HB.out.cell (World.block_lt_of_cell? w _ hx128_1)).trans hx128_1
                replace hx128_2 := (HB.out.cell (World.block_lt_of_cell? w _ hx128_2)).trans hx128_2
                have HR128_2 := Aside0.mk hi128_2
                have HC128_2 := Aside0.mk hl128_2
                clear hi128_2 hl128_2
                replace p128 := eq_true p128
                replace q128 := eq_true q128
                go_wp2_with (first | ((with_reducible refine gate_dst (N := 7) rfl ?_); refine box_event ?hg (N := 7) ?hd (cs := #[.int .i64 0, .bool false, .slice none 0 0]) (t := 143) ?hr ?_; (case hd => rfl); (case hg => rfl); (case hr => first | (go_simp; done) | (go_simp; rfl)); intro gb129 hg w68 hbox hb; have n0_ := Aside0.mk (blk_below (g := gb119) (o := .cells #[.string ((rd_T140 l0 x3_1).f0), .string ((rd_T140 l0 x3_1).f1), .int .i64 ((rd_T140 l0 x3_1).f2), .int .i64 ((rd_T140 l0 x3_1).f3), .int .i64 ((rd_T140 l0 x3_1).f4), .slice (some ad128) ((rd_T140 l0 x3_1).f5).length c118_5] 140 (0, 0)) (by (with_reducible repeat (first | refine blk_drewN ?_ _ | refine blk_drew ?_ | refine blk_alloc ?_ _)); exact BK119.out) hb); have n1_ := Aside0.mk (below_step (by repeat (first | (with_reducible first | exact HB.out | apply below_alloc | apply pw_below_drewN | apply below_drew1 | refine below_set ?_ GE119.out) | exact HB.out)) hb); have n2_ := Aside0.mk (hbox); have n3_ := Aside0.mk ((by rw [hg]; exact (below_size (by repeat (first | (with_reducible first | exact HB.out | apply below_alloc | apply pw_below_drewN | apply below_drew1 | refine below_set ?_ GE119.out) | exact HB.out))) : w.heap.size ≤ gb129)); have n4_ := Aside0.mk ((by rw [hg]; exact (below_size (by repeat (first | (with_reducible first | exact HB.out | apply below_alloc | apply pw_below_drewN | apply below_drew1 | refine below_set ?_ GE119.out) | exact HB.out))) : w.heap.size ≤ gb129)); have n5_ := Aside0.mk ((by rw [hg]; exact Nat.ne_of_lt (blk_lt (g := gb119) (o := .cells #[.string ((rd_T140 l0 x3_1).f0), .string ((rd_T140 l0 x3_1).f1), .int .i64 ((rd_T140 l0 x3_1).f2), .int .i64 ((rd_T140 l0 x3_1).f3), .int .i64 ((rd_T140 l0 x3_1).f4), .slice (some ad128) ((rd_T140 l0 x3_1).f5).length c118_5] 140 (0, 0)) (by (with_reducible repeat (first | refine blk_drewN ?_ _ | refine blk_drew ?_ | refine blk_alloc ?_ _)); exact BK119.out)) : gb119 ≠ gb129)); have n6_ := Aside0.mk ((by rw [hg]; exact Nat.ne_of_gt (blk_lt (g := gb119) (o := .cells #[.string ((rd_T140 l0 x3_1).f0), .string ((rd_T140 l0 x3_1).f1), .int .i64 ((rd_T140 l0 x3_1).f2), .int .i64 ((rd_T140 l0 x3_1).f3), .int .i64 ((rd_T140 l0 x3_1).f4), .slice (some ad128) ((rd_T140 l0 x3_1).f5).length c118_5] 140 (0, 0)) (by (with_reducible repeat (first | refine blk_drewN ?_ _ | refine blk_drew ?_ | refine blk_alloc ?_ _)); exact BK119.out)) : gb129 ≠ gb119)); clear BK119; clear HB; have BK119 := n0_; have HB := n1_; have BK129 := n2_; have GW129 := n3_; have GE129 := n4_; have NB119_129 := n5_; have NB129_119 := n6_; clear n0_ n1_ n2_ n3_ n4_ n5_ n6_; clear hb hbox hg; have hnb69 := NB129_119.out; have hnc69 := NB119_129.out; have hcz70_0 : w68.cell? ⟨gb129, 0, none⟩ = some (.int .i64 0) := (blk_cell BK129.out 0).trans rfl; have hcz70_1 : w68.cell? ⟨gb129, 1, none⟩ = some (.bool false) := (blk_cell BK129.out 1).trans rfl; have hcz70_2 : w68.cell? ⟨gb129, 2, none⟩ = some (.slice none 0 0) := (blk_cell BK129.out 2).trans rfl; have hfz70_0 := blk_frozen BK129.out 0; have hfz70_1 := blk_frozen BK129.out 1; have hfz70_2 := blk_frozen BK129.out 2; have hcz71_0 : w68.cell? ⟨gb119, 0, none⟩ = some (.string ((rd_T140 l0 x3_1).f0)) := (blk_cell BK119.out 0).trans rfl; have hcz71_1 : w68.cell? ⟨gb119, 1, none⟩ = some (.string ((rd_T140 l0 x3_1).f1)) := (blk_cell BK119.out 1).trans rfl; have hcz71_2 : w68.cell? ⟨gb119, 2, none⟩ = some (.int .i64 ((rd_T140 l0 x3_1).f2)) := (blk_cell BK119.out 2).trans rfl; have hcz71_3 : w68.cell? ⟨gb119, 3, none⟩ = some (.int .i64 ((rd_T140 l0 x3_1).f3)) := (blk_cell BK119.out 3).trans rfl; have hcz71_4 : w68.cell? ⟨gb119, 4, none⟩ = some (.int .i64 ((rd_T140 l0 x3_1).f4)) := (blk_cell BK119.out 4).trans rfl; have hcz71_5 : w68.cell? ⟨gb119, 5, none⟩ = some (.slice (some ad128) ((rd_T140 l0 x3_1).f5).length c118_5) := (blk_cell BK119.out 5).trans rfl; have hfz71_0 := blk_frozen BK119.out 0; have hfz71_1 := blk_frozen BK119.out 1; have hfz71_2 := blk_frozen BK119.out 2; have hfz71_3 := blk_frozen BK119.out 3; have hfz71_4 := blk_frozen BK119.out 4; have hfz71_5 := blk_frozen BK119.out 5))
                go_roundg k3
                case measure => have := HK1.out; have := HJ4.out; have := HK3.out; omega
                case rel => exact ⟨(wrap64 (((rd_T143 ((rd_T140 l0 x3_1).f5) x6_3).f0) + (((rd_T143 ((rd_T140 l0 x3_1).f5) x6_3).f2).length : Int))), (wrap64 (x6_3 + 1)), (by first | rfl | (simp; done) | (simp [*]; done)), (by first | rfl | (simp; done) | (simp [*]; done)), H', ⟨by have := HK1.out; have := HJ4.out; have := HK3.out; omega⟩, ⟨by (with_reducible repeat (first | refine blk_drewN ?_ _ | refine blk_drew ?_ | refine blk_alloc ?_ _)); refine blk_far ?_ NB119_129.out _; (with_reducible repeat (first | refine blk_drewN ?_ _ | refine blk_drew ?_ | refine blk_alloc ?_ _)); refine blk_far ?_ NB119_129.out _; (with_reducible repeat (first | refine blk_drewN ?_ _ | refine blk_drew ?_ | refine blk_alloc ?_ _)); refine blk_far ?_ NB119_129.out _; (with_reducible repeat (first | refine blk_drewN ?_ _ | refine blk_drew ?_ | refine blk_alloc ?_ _)); exact BK119.out⟩, ⟨by repeat (first | (with_reducible first | exact HB.out | apply below_alloc | apply pw_below_drewN | apply below_drew1 | refine below_set ?_ GE119.out | refine below_set ?_ GE129.out) | exact HB.out)⟩⟩
              replace c59 := Bool.eq_false_iff.mpr c59
              subst c59
              have H1 : (if (false = true) then (spec_BoxesOK.l1 k3 l0 x3_1 (wrap64 (((rd_T143 ((rd_T140 l0 x3_1).f5) x6_3).f0) + (((rd_T143 ((rd_T140 l0 x3_1).f5) x6_3).f2).length : Int))) (wrap64 (x6_3 + 1)) ((rd_T140 l0 x3_1).f0) ((rd_T140 l0 x3_1).f1) ((rd_T140 l0 x3_1).f2) ((rd_T140 l0 x3_1).f3) ((rd_T140 l0 x3_1).f4) ((rd_T140 l0 x3_1).f5)) else (if ((((rd_T143 ((rd_T140 l0 x3_1).f5) x6_3).f2).length : Int) % 8) = 0 then (if (((rd_T143 ((rd_T140 l0 x3_1).f5) x6_3).f2).length : Int) = 0 then (some false) else (spec_BoxesOK.l1 k3 l0 x3_1 (wrap64 (((rd_T143 ((rd_T140 l0 x3_1).f5) x6_3).f0) + (((rd_T143 ((rd_T140 l0 x3_1).f5) x6_3).f2).length : Int))) (wrap64 (x6_3 + 1)) ((rd_T140 l0 x3_1).f0) ((rd_T140 l0 x3_1).f1) ((rd_T140 l0 x3_1).f2) ((rd_T140 l0 x3_1).f3) ((rd_T140 l0 x3_1).f4) ((rd_T140 l0 x3_1).f5))) else (some false))) = some r := by rw [if_neg (show ¬ (false = true) by decide)] at H; exact H
              clear H
              have H := H1
              clear H1
              have H1 : (if ((((rd_T143 ((rd_T140 l0 x3_1).f5) x6_3).f2).length : Int) % 8) = 0 then (if (((rd_T143 ((rd_T140 l0 x3_1).f5) x6_3).f2).length : Int) = 0 then (some false) else (spec_BoxesOK.l1 k3 l0 x3_1 (wrap64 (((rd_T143 ((rd_T140 l0 x3_1).f5) x6_3).f0) + (((rd_T143 ((rd_T140 l0 x3_1).f5) x6_3).f2).length : Int))) (wrap64 (x6_3 + 1)) ((rd_T140 l0 x3_1).f0) ((rd_T140 l0 x3_1).f1) ((rd_T140 l0 x3_1).f2) ((rd_T140 l0 x3_1).f3) ((rd_T140 l0 x3_1).f4) ((rd_T140 l0 x3_1).f5))) else (some false)) = some r := by rw [if_neg (show ¬ (false = true) by decide)] at H; exact H
              clear H
              have H := H1
              clear H1
              by_cases c94 : ((((rd_T143 ((rd_T140 l0 x3_1).f5) x6_3).f2).length : Int) % 8) = 0
              rotate_left
              · rw [if_neg c94] at H
                have c94b0 : (((((rd_T143 ((rd_T140 l0 x3_1).f5) x6_3).f2).length : Int) % 8) == 0) = false := beq_eq_false_iff_ne.mpr c94
                have c94b1 : (((((rd_T143 ((rd_T140 l0 x3_1).f5) x6_3).f2).length : Int) % 8) != 0) = true := bne_iff_ne.mpr c94
                obtain rfl := Option.some.inj H
                have hcz104_0 : wr.cell? ⟨gb119, 0, none⟩ = some (.string ((rd_T140 l0 x3_1).f0)) := (blk_cell BK119.out 0).trans rfl
                have hcz104_1 : wr.cell? ⟨gb119, 1, none⟩ = some (.string ((rd_T140 l0 x3_1).f1)) := (blk_cell BK119.out 1).trans rfl
                have hcz104_2 : wr.cell? ⟨gb119, 2, none⟩ = some (.int .i64 ((rd_T140 l0 x3_1).f2)) := (blk_cell BK119.out 2).trans rfl
                have hcz104_3 : wr.cell? ⟨gb119, 3, none⟩ = some (.int .i64 ((rd_T140 l0 x3_1).f3)) := (blk_cell BK119.out 3).trans rfl
                have hcz104_4 : wr.cell? ⟨gb119, 4, none⟩ = some (.int .i64 ((rd_T140 l0 x3_1).f4)) := (blk_cell BK119.out 4).trans rfl
                have hcz104_5 : wr.cell? ⟨gb119, 5, none⟩ = some (.slice A118_5 ((rd_T140 l0 x3_1).f5).length c118_5) := (blk_cell BK119.out 5).trans rfl
                have hfz104_0 := blk_frozen BK119.out 0
                have hfz104_1 := blk_frozen BK119.out 1
                have hfz104_2 := blk_frozen BK119.out 2
                have hfz104_3 := blk_frozen BK119.out 3
                have hfz104_4 := blk_frozen BK119.out 4
                have hfz104_5 := blk_frozen BK119.out 5
                have p128 : 0 ≤ (x6_3 : Int) := of_decide_eq_true (by first | (with_reducible assumption) | assumption)
                have q128 : x6_3 < (((rd_T140 l0 x3_1).f5).length : Int) := of_decide_eq_true (by first | (with_reducible assumption) | assumption)
                obtain ⟨ad128, A128_2, c128_2, e128, hx128_0, hx128_1, hx128_2, hl128_2, hi128_2⟩ := at_T143 HR118_5.out x6_3 p128 q128
                (try rw [← Nbq58.out] at hx128_1)
                cases e128
                replace hx128_0 := (HB.out.cell (World.block_lt_of_cell? w _ hx128_0)).trans hx128_0
                replace hx128_1 := (HB.out.cell (World.block_lt_of_cell? w _ hx128_1)).trans hx128_1
                replace hx128_2 := (HB.out.cell (World.block_lt_of_cell? w _ hx128_2)).trans hx128_2
                have HR128_2 := Aside0.mk hi128_2
                have HC128_2 := Aside0.mk hl128_2
                clear hi128_2 hl128_2
                replace p128 := eq_true p128
                replace q128 := eq_true q128
                go_wp2_with (first | ((with_reducible refine gate_dst (N := 7) rfl ?_); refine box_event ?hg (N := 7) ?hd (cs := #[.int .i64 0, .bool false, .slice none 0 0]) (t := 143) ?hr ?_; (case hd => rfl); (case hg => rfl); (case hr => first | (go_simp; done) | (go_simp; rfl)); intro gb129 hg w105 hbox hb; have n0_ := Aside0.mk (blk_below (g := gb119) (o := .cells #[.string ((rd_T140 l0 x3_1).f0), .string ((rd_T140 l0 x3_1).f1), .int .i64 ((rd_T140 l0 x3_1).f2), .int .i64 ((rd_T140 l0 x3_1).f3), .int .i64 ((rd_T140 l0 x3_1).f4), .slice (some ad128) ((rd_T140 l0 x3_1).f5).length c118_5] 140 (0, 0)) (by (with_reducible repeat (first | refine blk_drewN ?_ _ | refine blk_drew ?_ | refine blk_alloc ?_ _)); exact BK119.out) hb); have n1_ := Aside0.mk (below_step (by repeat (first | (with_reducible first | exact HB.out | apply below_alloc | apply pw_below_drewN | apply below_drew1 | refine below_set ?_ GE119.out) | exact HB.out)) hb); have n2_ := Aside0.mk (hbox); have n3_ := Aside0.mk ((by rw [hg]; exact (below_size (by repeat (first | (with_reducible first | exact HB.out | apply below_alloc | apply pw_below_drewN | apply below_drew1 | refine below_set ?_ GE119.out) | exact HB.out))) : w.heap.size ≤ gb129)); have n4_ := Aside0.mk ((by rw [hg]; exact (below_size (by repeat (first | (with_reducible first | exact HB.out | apply below_alloc | apply pw_below_drewN | apply below_drew1 | refine below_set ?_ GE119.out) | exact HB.out))) : w.heap.size ≤ gb129)); have n5_ := Aside0.mk ((by rw [hg]; exact Nat.ne_of_lt (blk_lt (g := gb119) (o := .cells #[.string ((rd_T140 l0 x3_1).f0), .string ((rd_T140 l0 x3_1).f1), .int .i64 ((rd_T140 l0 x3_1).f2), .int .i64 ((rd_T140 l0 x3_1).f3), .int .i64 ((rd_T140 l0 x3_1).f4), .slice (some ad128) ((rd_T140 l0 x3_1).f5).length c118_5] 140 (0, 0)) (by (with_reducible repeat (first | refine blk_drewN ?_ _ | refine blk_drew ?_ | refine blk_alloc ?_ _)); exact BK119.out)) : gb119 ≠ gb129)); have n6_ := Aside0.mk ((by rw [hg]; exact Nat.ne_of_gt (blk_lt (g := gb119) (o := .cells #[.string ((rd_T140 l0 x3_1).f0), .string ((rd_T140 l0 x3_1).f1), .int .i64 ((rd_T140 l0 x3_1).f2), .int .i64 ((rd_T140 l0 x3_1).f3), .int .i64 ((rd_T140 l0 x3_1).f4), .slice (some ad128) ((rd_T140 l0 x3_1).f5).length c118_5] 140 (0, 0)) (by (with_reducible repeat (first | refine blk_drewN ?_ _ | refine blk_drew ?_ | refine blk_alloc ?_ _)); exact BK119.out)) : gb129 ≠ gb119)); clear BK119; clear HB; have BK119 := n0_; have HB := n1_; have BK129 := n2_; have GW129 := n3_; have GE129 := n4_; have NB119_129 := n5_; have NB129_119 := n6_; clear n0_ n1_ n2_ n3_ n4_ n5_ n6_; clear hb hbox hg; have hnb106 := NB129_119.out; have hnc106 := NB119_129.out; have hcz107_0 : w105.cell? ⟨gb129, 0, none⟩ = some (.int .i64 0) := (blk_cell BK129.out 0).trans rfl; have hcz107_1 : w105.cell? ⟨gb129, 1, none⟩ = some (.bool false) := (blk_cell BK129.out 1).trans rfl; have hcz107_2 : w105.cell? ⟨gb129, 2, none⟩ = some (.slice none 0 0) := (blk_cell BK129.out 2).trans rfl; have hfz107_0 := blk_frozen BK129.out 0; have hfz107_1 := blk_frozen BK129.out 1; have hfz107_2 := blk_frozen BK129.out 2))
                go_ret
                exact ⟨by first | rfl | (simp [errW_none, errW_some] <;> rfl) | (simp [*, errW_none, errW_some] <;> rfl), by repeat (first | (with_reducible first | exact HB.out | apply below_alloc | apply pw_below_drewN | apply below_drew1 | refine below_set ?_ GE119.out | refine below_set ?_ GE129.out) | exact HB.out)⟩
              rw [if_pos c94] at H
              have c94b0 : (((((rd_T143 ((rd_T140 l0 x3_1).f5) x6_3).f2).length : Int) % 8) == 0) = true := beq_iff_eq.mpr c94
              have c94b1 : (((((rd_T143 ((rd_T140 l0 x3_1).f5) x6_3).f2).length : Int) % 8) != 0) = false := bne_eq_false_iff_eq.mpr c94
              clear c94
              by_cases c95 : (((rd_T143 ((rd_T140 l0 x3_1).f5) x6_3).f2).length : Int) = 0
              · rw [if_pos c95] at H
                have c95b0 : ((((rd_T143 ((rd_T140 l0 x3_1).f5) x6_3).f2).length : Int) == 0) = true := beq_iff_eq.mpr c95
                have c95b1 : ((((rd_T143 ((rd_T140 l0 x3_1).f5) x6_3).f2).length : Int) != 0) = false := bne_eq_false_iff_eq.mpr c95
                clear c95
                obtain rfl := Option.some.inj H
                have hcz96_0 : wr.cell? ⟨gb119, 0, none⟩ = some (.string ((rd_T140 l0 x3_1).f0)) := (blk_cell BK119.out 0).trans rfl
                have hcz96_1 : wr.cell? ⟨gb119, 1, none⟩ = some (.string ((rd_T140 l0 x3_1).f1)) := (blk_cell BK119.out 1).trans rfl
                have hcz96_2 : wr.cell? ⟨gb119, 2, none⟩ = some (.int .i64 ((rd_T140 l0 x3_1).f2)) := (blk_cell BK119.out 2).trans rfl
                have hcz96_3 : wr.cell? ⟨gb119, 3, none⟩ = some (.int .i64 ((rd_T140 l0 x3_1).f3)) := (blk_cell BK119.out 3).trans rfl
                have hcz96_4 : wr.cell? ⟨gb119, 4, none⟩ = some (.int .i64 ((rd_T140 l0 x3_1).f4)) := (blk_cell BK119.out 4).trans rfl
                have hcz96_5 : wr.cell? ⟨gb119, 5, none⟩ = some (.slice A118_5 ((rd_T140 l0 x3_1).f5).length c118_5) := (blk_cell BK119.out 5).trans rfl
                have hfz96_0 := blk_frozen BK119.out 0
                have hfz96_1 := blk_frozen BK119.out 1
                have hfz96_2 := blk_frozen BK119.out 2
                have hfz96_3 := blk_frozen BK119.out 3
                have hfz96_4 := blk_frozen BK119.out 4
                have hfz96_5 := blk_frozen BK119.out 5
                have p128 : 0 ≤ (x6_3 : Int) := of_decide_eq_true (by first | (with_reducible assumption) | assumption)
                have q128 : x6_3 < (((rd_T140 l0 x3_1).f5).length : Int) := of_decide_eq_true (by first | (with_reducible assumption) | assumption)
                obtain ⟨ad128, A128_2, c128_2, e128, hx128_0, hx128_1, hx128_2, hl128_2, hi128_2⟩ := at_T143 HR118_5.out x6_3 p128 q128
                (try rw [← Nbq58.out] at hx128_1)
                cases e128
                replace hx128_0 := (HB.out.cell (World.block_lt_of_cell? w _ hx128_0)).trans hx128_0
                replace hx128_1 := (HB.out.cell (World.block_lt_of_cell? w _ hx128_1)).trans hx128_1
                replace hx128_2 := (HB.out.cell (World.block_lt_of_cell? w _ hx128_2)).trans hx128_2
                have HR128_2 := Aside0.mk hi128_2
                have HC128_2 := Aside0.mk hl128_2
                clear hi128_2 hl128_2
                replace p128 := eq_true p128
                replace q128 := eq_true q128
                go_wp2_with (first | ((with_reducible refine gate_dst (N := 7) rfl ?_); refine box_event ?hg (N := 7) ?hd (cs := #[.int .i64 0, .bool false, .slice none 0 0]) (t := 143) ?hr ?_; (case hd => rfl); (case hg => rfl); (case hr => first | (go_simp; done) | (go_simp; rfl)); intro gb129 hg w97 hbox hb; have n0_ := Aside0.mk (blk_below (g := gb119) (o := .cells #[.string ((rd_T140 l0 x3_1).f0), .string ((rd_T140 l0 x3_1).f1), .int .i64 ((rd_T140 l0 x3_1).f2), .int .i64 ((rd_T140 l0 x3_1).f3), .int .i64 ((rd_T140 l0 x3_1).f4), .slice (some ad128) ((rd_T140 l0 x3_1).f5).length c118_5] 140 (0, 0)) (by (with_reducible repeat (first | refine blk_drewN ?_ _ | refine blk_drew ?_ | refine blk_alloc ?_ _)); exact BK119.out) hb); have n1_ := Aside0.mk (below_step (by repeat (first | (with_reducible first | exact HB.out | apply below_alloc | apply pw_below_drewN | apply below_drew1 | refine below_set ?_ GE119.out) | exact HB.out)) hb); have n2_ := Aside0.mk (hbox); have n3_ := Aside0.mk ((by rw [hg]; exact (below_size (by repeat (first | (with_reducible first | exact HB.out | apply below_alloc | apply pw_below_drewN | apply below_drew1 | refine below_set ?_ GE119.out) | exact HB.out))) : w.heap.size ≤ gb129)); have n4_ := Aside0.mk ((by rw [hg]; exact (below_size (by repeat (first | (with_reducible first | exact HB.out | apply below_alloc | apply pw_below_drewN | apply below_drew1 | refine below_set ?_ GE119.out) | exact HB.out))) : w.heap.size ≤ gb129)); have n5_ := Aside0.mk ((by rw [hg]; exact Nat.ne_of_lt (blk_lt (g := gb119) (o := .cells #[.string ((rd_T140 l0 x3_1).f0), .string ((rd_T140 l0 x3_1).f1), .int .i64 ((rd_T140 l0 x3_1).f2), .int .i64 ((rd_T140 l0 x3_1).f3), .int .i64 ((rd_T140 l0 x3_1).f4), .slice (some ad128) ((rd_T140 l0 x3_1).f5).length c118_5] 140 (0, 0)) (by (with_reducible repeat (first | refine blk_drewN ?_ _ | refine blk_drew ?_ | refine blk_alloc ?_ _)); exact BK119.out)) : gb119 ≠ gb129)); have n6_ := Aside0.mk ((by rw [hg]; exact Nat.ne_of_gt (blk_lt (g := gb119) (o := .cells #[.string ((rd_T140 l0 x3_1).f0), .string ((rd_T140 l0 x3_1).f1), .int .i64 ((rd_T140 l0 x3_1).f2), .int .i64 ((rd_T140 l0 x3_1).f3), .int .i64 ((rd_T140 l0 x3_1).f4), .slice (some ad128) ((rd_T140 l0 x3_1).f5).length c118_5] 140 (0, 0)) (by (with_reducible repeat (first | refine blk_drewN ?_ _ | refine blk_drew ?_ | refine blk_alloc ?_ _)); exact BK119.out)) : gb129 ≠ gb119)); clear BK119; clear HB; have BK119 := n0_; have HB := n1_; have BK129 := n2_; have GW129 := n3_; have GE129 := n4_; have NB119_129 := n5_; have NB129_119 := n6_; clear n0_ n1_ n2_ n3_ n4_ n5_ n6_; clear hb hbox hg; have hnb98 := NB129_119.out; have hnc98 := NB119_129.out; have hcz99_0 : w97.cell? ⟨gb129, 0, none⟩ = some (.int .i64 0) := (blk_cell BK129.out 0).trans rfl; have hcz99_1 : w97.cell? ⟨gb129, 1, none⟩ = some (.bool false) := (blk_cell BK129.out 1).trans rfl; have hcz99_2 : w97.cell? ⟨gb129, 2, none⟩ = some (.slice none 0 0) := (blk_cell BK129.out 2).trans rfl; have hfz99_0 := blk_frozen BK129.out 0; have hfz99_1 := blk_frozen BK129.out 1; have hfz99_2 := blk_frozen BK129.out 2))
                go_ret
                exact ⟨by first | rfl | (simp [errW_none, errW_some] <;> rfl) | (simp [*, errW_none, errW_some] <;> rfl), by repeat (first | (with_reducible first | exact HB.out | apply below_alloc | apply pw_below_drewN | apply below_drew1 | refine below_set ?_ GE119.out | refine below_set ?_ GE129.out) | exact HB.out)⟩
              rw [if_neg c95] at H
              have c95b0 : ((((rd_T143 ((rd_T140 l0 x3_1).f5) x6_3).f2).length : Int) == 0) = false := beq_eq_false_iff_ne.mpr c95
              have c95b1 : ((((rd_T143 ((rd_T140 l0 x3_1).f5) x6_3).f2).length : Int) != 0) = true := bne_iff_ne.mpr c95
              have c95b2 : ¬ (((rd_T143 ((rd_T140 l0 x3_1).f5) x6_3).f2) = []) := fun h_ => c95 (by rw [h_]; rfl)
              have H' := Aside0.mk H
              clear H
              have hcz100_0 : wr.cell? ⟨gb119, 0, none⟩ = some (.string ((rd_T140 l0 x3_1).f0)) := (blk_cell BK119.out 0).trans rfl
              have hcz100_1 : wr.cell? ⟨gb119, 1, none⟩ = some (.string ((rd_T140 l0 x3_1).f1)) := (blk_cell BK119.out 1).trans rfl
              have hcz100_2 : wr.cell? ⟨gb119, 2, none⟩ = some (.int .i64 ((rd_T140 l0 x3_1).f2)) := (blk_cell BK119.out 2).trans rfl
              have hcz100_3 : wr.cell? ⟨gb119, 3, none⟩ = some (.int .i64 ((rd_T140 l0 x3_1).f3)) := (blk_cell BK119.out 3).trans rfl
              have hcz100_4 : wr.cell? ⟨gb119, 4, none⟩ = some (.int .i64 ((rd_T140 l0 x3_1).f4)) := (blk_cell BK119.out 4).trans rfl
              have hcz100_5 : wr.cell? ⟨gb119, 5, none⟩ = some (.slice A118_5 ((rd_T140 l0 x3_1).f5).length c118_5) := (blk_cell BK119.out 5).trans rfl
              have hfz100_0 := blk_frozen BK119.out 0
              have hfz100_1 := blk_frozen BK119.out 1
              have hfz100_2 := blk_frozen BK119.out 2
              have hfz100_3 := blk_frozen BK119.out 3
              have hfz100_4 := blk_frozen BK119.out 4
              have hfz100_5 := blk_frozen BK119.out 5
              have p128 : 0 ≤ (x6_3 : Int) := of_decide_eq_true (by first | (with_reducible assumption) | assumption)
              have q128 : x6_3 < (((rd_T140 l0 x3_1).f5).length : Int) := of_decide_eq_true (by first | (with_reducible assumption) | assumption)
              obtain ⟨ad128, A128_2, c128_2, e128, hx128_0, hx128_1, hx128_2, hl128_2, hi128_2⟩ := at_T143 HR118_5.out x6_3 p128 q128
              (try rw [← Nbq58.out] at hx128_1)
              cases e128
              replace hx128_0 := (HB.out.cell (World.block_lt_of_cell? w _ hx128_0)).trans hx128_0
              replace hx128_1 := (HB.out.cell (World.block_lt_of_cell? w _ hx128_1)).trans hx128_1
              replace hx128_2 := (HB.out.cell (World.block_lt_of_cell? w _ hx128_2)).trans hx128_2
              have HR128_2 := Aside0.mk hi128_2
              have HC128_2 := Aside0.mk hl128_2
              clear hi128_2 hl128_2
              replace p128 := eq_true p128
              replace q128 := eq_true q128
              go_wp2_with (first | ((with_reducible refine gate_dst (N := 7) rfl ?_); refine box_event ?hg (N := 7) ?hd (cs := #[.int .i64 0, .bool false, .slice none 0 0]) (t := 143) ?hr ?_; (case hd => rfl); (case hg => rfl); (case hr => first | (go_simp; done) | (go_simp; rfl)); intro gb129 hg w101 hbox hb; have n0_ := Aside0.mk (blk_below (g := gb119) (o := .cells #[.string ((rd_T140 l0 x3_1).f0), .string ((rd_T140 l0 x3_1).f1), .int .i64 ((rd_T140 l0 x3_1).f2), .int .i64 ((rd_T140 l0 x3_1).f3), .int .i64 ((rd_T140 l0 x3_1).f4), .slice (some ad128) ((rd_T140 l0 x3_1).f5).length c118_5] 140 (0, 0)) (by (with_reducible repeat (first | refine blk_drewN ?_ _ | refine blk_drew ?_ | refine blk_alloc ?_ _)); exact BK119.out) hb); have n1_ := Aside0.mk (below_step (by repeat (first | (with_reducible first | exact HB.out | apply below_alloc | apply pw_below_drewN | apply below_drew1 | refine below_set ?_ GE119.out) | exact HB.out)) hb); have n2_ := Aside0.mk (hbox); have n3_ := Aside0.mk ((by rw [hg]; exact (below_size (by repeat (first | (with_reducible first | exact HB.out | apply below_alloc | apply pw_below_drewN | apply below_drew1 | refine below_set ?_ GE119.out) | exact HB.out))) : w.heap.size ≤ gb129)); have n4_ := Aside0.mk ((by rw [hg]; exact (below_size (by repeat (first | (with_reducible first | exact HB.out | apply below_alloc | apply pw_below_drewN | apply below_drew1 | refine below_set ?_ GE119.out) | exact HB.out))) : w.heap.size ≤ gb129)); have n5_ := Aside0.mk ((by rw [hg]; exact Nat.ne_of_lt (blk_lt (g := gb119) (o := .cells #[.string ((rd_T140 l0 x3_1).f0), .string ((rd_T140 l0 x3_1).f1), .int .i64 ((rd_T140 l0 x3_1).f2), .int .i64 ((rd_T140 l0 x3_1).f3), .int .i64 ((rd_T140 l0 x3_1).f4), .slice (some ad128) ((rd_T140 l0 x3_1).f5).length c118_5] 140 (0, 0)) (by (with_reducible repeat (first | refine blk_drewN ?_ _ | refine blk_drew ?_ | refine blk_alloc ?_ _)); exact BK119.out)) : gb119 ≠ gb129)); have n6_ := Aside0.mk ((by rw [hg]; exact Nat.ne_of_gt (blk_lt (g := gb119) (o := .cells #[.string ((rd_T140 l0 x3_1).f0), .string ((rd_T140 l0 x3_1).f1), .int .i64 ((rd_T140 l0 x3_1).f2), .int .i64 ((rd_T140 l0 x3_1).f3), .int .i64 ((rd_T140 l0 x3_1).f4), .slice (some ad128) ((rd_T140 l0 x3_1).f5).length c118_5] 140 (0, 0)) (by (with_reducible repeat (first | refine blk_drewN ?_ _ | refine blk_drew ?_ | refine blk_alloc ?_ _)); exact BK119.out)) : gb129 ≠ gb119)); clear BK119; clear HB; have BK119 := n0_; have HB := n1_; have BK129 := n2_; have GW129 := n3_; have GE129 := n4_; have NB119_129 := n5_; have NB129_119 := n6_; clear n0_ n1_ n2_ n3_ n4_ n5_ n6_; clear hb hbox hg; have hnb102 := NB129_119.out; have hnc102 := NB119_129.out; have hcz103_0 : w101.cell? ⟨gb129, 0, none⟩ = some (.int .i64 0) := (blk_cell BK129.out 0).trans rfl; have hcz103_1 : w101.cell? ⟨gb129, 1, none⟩ = some (.bool false) := (blk_cell BK129.out 1).trans rfl; have hcz103_2 : w101.cell? ⟨gb129, 2, none⟩ = some (.slice none 0 0) := (blk_cell BK129.out 2).trans rfl; have hfz103_0 := blk_frozen BK129.out 0; have hfz103_1 := blk_frozen BK129.out 1; have hfz103_2 := blk_frozen BK129.out 2))
              go_roundg k3
              case measure => have := HK1.out; have := HJ4.out; have := HK3.out; omega
              case rel => exact ⟨(wrap64 (((rd_T143 ((rd_T140 l0 x3_1).f5) x6_3).f0) + (((rd_T143 ((rd_T140 l0 x3_1).f5) x6_3).f2).length : Int))), (wrap64 (x6_3 + 1)), (by first | rfl | (simp; done) | (simp [*]; done)), (by first | rfl | (simp; done) | (simp [*]; done)), H', ⟨by have := HK1.out; have := HJ4.out; have := HK3.out; omega⟩, ⟨by (with_reducible repeat (first | refine blk_drewN ?_ _ | refine blk_drew ?_ | refine blk_alloc ?_ _)); refine blk_far ?_ NB119_129.out _; (with_reducible repeat (first | refine blk_drewN ?_ _ | refine blk_drew ?_ | refine blk_alloc ?_ _)); refine blk_far ?_ NB119_129.out _; (with_reducible repeat (first | refine blk_drewN ?_ _ | refine blk_drew ?_ | refine blk_alloc ?_ _)); refine blk_far ?_ NB119_129.out _; (with_reducible repeat (first | refine blk_drewN ?_ _ | refine blk_drew ?_ | refine blk_alloc ?_ _)); exact BK119.out⟩, ⟨by repeat (first | (with_reducible first | exact HB.out | apply below_alloc | apply pw_below_drewN | apply below_drew1 | refine below_set ?_ GE119.out | refine below_set ?_ GE129.out) | exact HB.out)⟩⟩
end Go.Proofs.Ytjfpkfophfelmaa.QFnExactBoxesOK

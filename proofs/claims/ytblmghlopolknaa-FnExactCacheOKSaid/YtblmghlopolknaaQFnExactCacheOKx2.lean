-- written by a program of this session
import Derived.Test.YtblmghlopolknaaQFnExactCacheOKx0
import Derived.Test.YtblmghlopolknaaQFnExactCacheOKx1
namespace Go.Proofs.Ytblmghlopolknaa.QFnExactCacheOK
open Go.RowKit Go.Proofs.YtblmghlopolknaaW.PrintWords Go.Proofs.YtblmghlopolknaaW.PrintLast Go.Proofs.YtblmghlopolknaaW.PrintMore
attribute [local go_sem] max2_int min2_int max_two min_two max_three min_three max_four min_four   -- for this text's walks alone
set_option linter.unusedVariables false
set_option linter.unusedSimpArgs false

/-! ### spec_CacheOK: function 46 -/
mutual
def spec_CacheOK.j0 : Nat → Bool → Int → List (S127) → Option (Bool)
  | 0, _, _, _ => none
  | k + 1, x15, x110000, x110001 => if x15 = true then (some false) else (spec_CacheOK.l0 k 0 x110000 x110001)
def spec_CacheOK.l0 : Nat → Int → Int → List (S127) → Option (Bool)
  | 0, _, _, _ => none
  | k + 1, x3, x110000, x110001 => if x3 < (x110001.length : Int) then (if 0 ≤ x3 then (if (((rd_T127 x110001 x3).f0).size : Int) = 4 then ((spec_l05Find.f k x110000 x110001 ((rd_T127 x110001 x3).f0)).bind fun t113 => (if t113 = x3 then ((spec_l01In.f ((rd_T127 x110001 x3).f2) 1 4).bind fun t114 => (if t114 = true then (if (((rd_T127 x110001 x3).f5).length : Int) > 3 then (spec_CacheOK.j2 k x3 true x110000 x110001 ((rd_T127 x110001 x3).f0) ((rd_T127 x110001 x3).f1) ((rd_T127 x110001 x3).f2) ((rd_T127 x110001 x3).f3) ((rd_T127 x110001 x3).f4) ((rd_T127 x110001 x3).f5)) else ((spec_l01In.f ((rd_T127 x110001 x3).f4) 0 3).bind fun t115 => (spec_CacheOK.j2 k x3 (!t115) x110000 x110001 ((rd_T127 x110001 x3).f0) ((rd_T127 x110001 x3).f1) ((rd_T127 x110001 x3).f2) ((rd_T127 x110001 x3).f3) ((rd_T127 x110001 x3).f4) ((rd_T127 x110001 x3).f5)))) else (spec_CacheOK.j2 k x3 true x110000 x110001 ((rd_T127 x110001 x3).f0) ((rd_T127 x110001 x3).f1) ((rd_T127 x110001 x3).f2) ((rd_T127 x110001 x3).f3) ((rd_T127 x110001 x3).f4) ((rd_T127 x110001 x3).f5)))) else (spec_CacheOK.j2 k x3 true x110000 x110001 ((rd_T127 x110001 x3).f0) ((rd_T127 x110001 x3).f1) ((rd_T127 x110001 x3).f2) ((rd_T127 x110001 x3).f3) ((rd_T127 x110001 x3).f4) ((rd_T127 x110001 x3).f5)))) else (if (((rd_T127 x110001 x3).f0).size : Int) = 16 then ((spec_l05Find.f k x110000 x110001 ((rd_T127 x110001 x3).f0)).bind fun t116 => (if t116 = x3 then ((spec_l01In.f ((rd_T127 x110001 x3).f2) 1 4).bind fun t117 => (if t117 = true then (if (((rd_T127 x110001 x3).f5).length : Int) > 3 then (spec_CacheOK.j2 k x3 true x110000 x110001 ((rd_T127 x110001 x3).f0) ((rd_T127 x110001 x3).f1) ((rd_T127 x110001 x3).f2) ((rd_T127 x110001 x3).f3) ((rd_T127 x110001 x3).f4) ((rd_T127 x110001 x3).f5)) else ((spec_l01In.f ((rd_T127 x110001 x3).f4) 0 3).bind fun t118 => (spec_CacheOK.j2 k x3 (!t118) x110000 x110001 ((rd_T127 x110001 x3).f0) ((rd_T127 x110001 x3).f1) ((rd_T127 x110001 x3).f2) ((rd_T127 x110001 x3).f3) ((rd_T127 x110001 x3).f4) ((rd_T127 x110001 x3).f5)))) else (spec_CacheOK.j2 k x3 true x110000 x110001 ((rd_T127 x110001 x3).f0) ((rd_T127 x110001 x3).f1) ((rd_T127 x110001 x3).f2) ((rd_T127 x110001 x3).f3) ((rd_T127 x110001 x3).f4) ((rd_T127 x110001 x3).f5)))) else (spec_CacheOK.j2 k x3 true x110000 x110001 ((rd_T127 x110001 x3).f0) ((rd_T127 x110001 x3).f1) ((rd_T127 x110001 x3).f2) ((rd_T127 x110001 x3).f3) ((rd_T127 x110001 x3).f4) ((rd_T127 x110001 x3).f5)))) else (spec_CacheOK.j2 k x3 true x110000 x110001 ((rd_T127 x110001 x3).f0) ((rd_T127 x110001 x3).f1) ((rd_T127 x110001 x3).f2) ((rd_T127 x110001 x3).f3) ((rd_T127 x110001 x3).f4) ((rd_T127 x110001 x3).f5)))) else (none)) else (some true)
def spec_CacheOK.j2 : Nat → Int → Bool → Int → List (S127) → ByteArray → ByteArray → Int → Int → Int → List Int → Option (Bool)
  | 0, _, _, _, _, _, _, _, _, _, _ => none
  | k + 1, x3, x63, x110000, x110001, x113000, x113001, x113002, x113003, x113004, x113005 => if x63 = true then (some false) else (if ((x113002 == 1) != (x113001.toList == ([] : List UInt8))) = true then (spec_CacheOK.j3 k x3 true x110000 x110001 x113000 x113001 x113002 x113003 x113004 x113005) else (if x113001.toList = ([] : List UInt8) then (if x113002 = 1 then (spec_CacheOK.j3 k x3 ((x113005.length : Int) == 0) x110000 x110001 x113000 x113001 x113002 x113003 x113004 x113005) else (if (x113005.length : Int) > 0 then (spec_CacheOK.j3 k x3 true x110000 x110001 x113000 x113001 x113002 x113003 x113004 x113005) else (spec_CacheOK.j3 k x3 false x110000 x110001 x113000 x113001 x113002 x113003 x113004 x113005))) else (if (x113001.size : Int) = 6 then (if x113002 = 1 then (spec_CacheOK.j3 k x3 ((x113005.length : Int) == 0) x110000 x110001 x113000 x113001 x113002 x113003 x113004 x113005) else (if (x113005.length : Int) > 0 then (spec_CacheOK.j3 k x3 true x110000 x110001 x113000 x113001 x113002 x113003 x113004 x113005) else (spec_CacheOK.j3 k x3 false x110000 x110001 x113000 x113001 x113002 x113003 x113004 x113005))) else (spec_CacheOK.j3 k x3 true x110000 x110001 x113000 x113001 x113002 x113003 x113004 x113005))))
def spec_CacheOK.j3 : Nat → Int → Bool → Int → List (S127) → ByteArray → ByteArray → Int → Int → Int → List Int → Option (Bool)
  | 0, _, _, _, _, _, _, _, _, _, _ => none
  | k + 1, x3, x103, x110000, x110001, x113000, x113001, x113002, x113003, x113004, x113005 => if x103 = true then (some false) else (if x113002 = 3 then (if x113003 = 0 then (if x113002 = 1 then (if (true != (decide (x113004 > 0))) = true then (some false) else (spec_CacheOK.l0 k (wrap64 (x3 + 1)) x110000 x110001)) else (if ((x113002 == 4) != (decide (x113004 > 0))) = true then (some false) else (spec_CacheOK.l0 k (wrap64 (x3 + 1)) x110000 x110001))) else (some false)) else ((spec_l01In.f x113003 (wrap64 (x110000 + 1)) (wrap64 (x110000 + 30))).bind fun t119 => (if t119 = true then (if x113002 = 1 then (if (true != (decide (x113004 > 0))) = true then (some false) else (spec_CacheOK.l0 k (wrap64 (x3 + 1)) x110000 x110001)) else (if ((x113002 == 4) != (decide (x113004 > 0))) = true then (some false) else (spec_CacheOK.l0 k (wrap64 (x3 + 1)) x110000 x110001))) else (some false))))
end
def spec_CacheOK.f (k : Nat) (a0_0 : Int) (l0_1 : List (S127)) : Option (Bool) := (spec_l01In.f a0_0 0 1000000).bind fun t110 => (if t110 = true then (spec_CacheOK.j0 k (decide ((l0_1.length : Int) > 8)) a0_0 l0_1) else (spec_CacheOK.j0 k true a0_0 l0_1))
theorem spec_CacheOK.mono_l : ∀ k, (∀ y0 y1 y2, LeO (spec_CacheOK.j0 k y0 y1 y2) (spec_CacheOK.j0 (k + 1) y0 y1 y2)) ∧ (∀ y0 y1 y2, LeO (spec_CacheOK.l0 k y0 y1 y2) (spec_CacheOK.l0 (k + 1) y0 y1 y2)) ∧ (∀ y0 y1 y2 y3 y4 y5 y6 y7 y8 y9, LeO (spec_CacheOK.j2 k y0 y1 y2 y3 y4 y5 y6 y7 y8 y9) (spec_CacheOK.j2 (k + 1) y0 y1 y2 y3 y4 y5 y6 y7 y8 y9)) ∧ (∀ y0 y1 y2 y3 y4 y5 y6 y7 y8 y9, LeO (spec_CacheOK.j3 k y0 y1 y2 y3 y4 y5 y6 y7 y8 y9) (spec_CacheOK.j3 (k + 1) y0 y1 y2 y3 y4 y5 y6 y7 y8 y9))
  | 0 => ⟨fun _ _ _ r h => by simp [spec_CacheOK.j0] at h, fun _ _ _ r h => by simp [spec_CacheOK.l0] at h, fun _ _ _ _ _ _ _ _ _ _ r h => by simp [spec_CacheOK.j2] at h, fun _ _ _ _ _ _ _ _ _ _ r h => by simp [spec_CacheOK.j3] at h⟩
  | k + 1 => by
    obtain ⟨ih0, ih1, ih2, ih3⟩ := spec_CacheOK.mono_l k
    refine ⟨?_, ?_, ?_, ?_⟩
    · intro y0 y1 y2
      unfold spec_CacheOK.j0
      repeat' first
      | (with_reducible exact ih0 _ _ _)
      | (with_reducible exact ih1 _ _ _)
      | (with_reducible exact ih2 _ _ _ _ _ _ _ _ _ _)
      | (with_reducible exact ih3 _ _ _ _ _ _ _ _ _ _)
      | (with_reducible exact spec_l05Find.mono _ _ _ _)
      | (with_reducible exact LeO.refl _)
      | (with_reducible exact LeO.none _)
      | (with_reducible refine LeO.ite ?_ ?_)
      | (with_reducible refine LeO.bind ?_ (fun _ => ?_))
      | exact ih0 _ _ _
      | exact ih1 _ _ _
      | exact ih2 _ _ _ _ _ _ _ _ _ _
      | exact ih3 _ _ _ _ _ _ _ _ _ _
      | exact spec_l05Find.mono _ _ _ _
      | exact LeO.none _
      | refine LeO.ite ?_ ?_
      | refine LeO.bind ?_ (fun _ => ?_)
    · intro y0 y1 y2
      unfold spec_CacheOK.l0
      repeat' first
      | (with_reducible exact ih0 _ _ _)
      | (with_reducible exact ih1 _ _ _)
      | (with_reducible exact ih2 _ _ _ _ _ _ _ _ _ _)
      | (with_reducible exact ih3 _ _ _ _ _ _ _ _ _ _)
      | (with_reducible exact spec_l05Find.mono _ _ _ _)
      | (with_reducible exact LeO.refl _)
      | (with_reducible exact LeO.none _)
      | (with_reducible refine LeO.ite ?_ ?_)
      | (with_reducible refine LeO.bind ?_ (fun _ => ?_))
      | exact ih0 _ _ _
      | exact ih1 _ _ _
      | exact ih2 _ _ _ _ _ _ _ _ _ _
      | exact ih3 _ _ _ _ _ _ _ _ _ _
      | exact spec_l05Find.mono _ _ _ _
      | exact LeO.none _
      | refine LeO.ite ?_ ?_
      | refine LeO.bind ?_ (fun _ => ?_)
    · intro y0 y1 y2 y3 y4 y5 y6 y7 y8 y9
      unfold spec_CacheOK.j2
      repeat' first
      | (with_reducible exact ih0 _ _ _)
      | (with_reducible exact ih1 _ _ _)
      | (with_reducible exact ih2 _ _ _ _ _ _ _ _ _ _)
      | (with_reducible exact ih3 _ _ _ _ _ _ _ _ _ _)
      | (with_reducible exact spec_l05Find.mono _ _ _ _)
      | (with_reducible exact LeO.refl _)
      | (with_reducible exact LeO.none _)
      | (with_reducible refine LeO.ite ?_ ?_)
      | (with_reducible refine LeO.bind ?_ (fun _ => ?_))
      | exact ih0 _ _ _
      | exact ih1 _ _ _
      | exact ih2 _ _ _ _ _ _ _ _ _ _
      | exact ih3 _ _ _ _ _ _ _ _ _ _
      | exact spec_l05Find.mono _ _ _ _
      | exact LeO.none _
      | refine LeO.ite ?_ ?_
      | refine LeO.bind ?_ (fun _ => ?_)
    · intro y0 y1 y2 y3 y4 y5 y6 y7 y8 y9
      unfold spec_CacheOK.j3
      repeat' first
      | (with_reducible exact ih0 _ _ _)
      | (with_reducible exact ih1 _ _ _)
      | (with_reducible exact ih2 _ _ _ _ _ _ _ _ _ _)
      | (with_reducible exact ih3 _ _ _ _ _ _ _ _ _ _)
      | (with_reducible exact spec_l05Find.mono _ _ _ _)
      | (with_reducible exact LeO.refl _)
      | (with_reducible exact LeO.none _)
      | (with_reducible refine LeO.ite ?_ ?_)
      | (with_reducible refine LeO.bind ?_ (fun _ => ?_))
      | exact ih0 _ _ _
      | exact ih1 _ _ _
      | exact ih2 _ _ _ _ _ _ _ _ _ _
      | exact ih3 _ _ _ _ _ _ _ _ _ _
      | exact spec_l05Find.mono _ _ _ _
      | exact LeO.none _
      | refine LeO.ite ?_ ?_
      | refine LeO.bind ?_ (fun _ => ?_)
theorem spec_CacheOK.mono : ∀ a0 a1 k, LeO (spec_CacheOK.f k a0 a1) (spec_CacheOK.f (k + 1) a0 a1) := by
  intro a0 a1 k
  obtain ⟨ih0, ih1, ih2, ih3⟩ := spec_CacheOK.mono_l k
  unfold spec_CacheOK.f
  repeat' first
      | (with_reducible exact ih0 _ _ _)
      | (with_reducible exact ih1 _ _ _)
      | (with_reducible exact ih2 _ _ _ _ _ _ _ _ _ _)
      | (with_reducible exact ih3 _ _ _ _ _ _ _ _ _ _)
      | (with_reducible exact spec_l05Find.mono _ _ _ _)
      | (with_reducible exact LeO.refl _)
      | (with_reducible exact LeO.none _)
      | (with_reducible refine LeO.ite ?_ ?_)
      | (with_reducible refine LeO.bind ?_ (fun _ => ?_))
      | exact ih0 _ _ _
      | exact ih1 _ _ _
      | exact ih2 _ _ _ _ _ _ _ _ _ _
      | exact ih3 _ _ _ _ _ _ _ _ _ _
      | exact spec_l05Find.mono _ _ _ _
      | exact LeO.none _
      | refine LeO.ite ?_ ?_
      | refine LeO.bind ?_ (fun _ => ?_)
set_option maxHeartbeats 8000000 in
set_option maxRecDepth 100000 in
theorem spec_CacheOK.calls (k : Nat) (a0_0 : Int) (A0_1 : Option Addr) (c0_1 : Nat) (l0_1 : List (S127)) (r : Bool) (w : World) (hr0_1 : Kd.C k127 w A0_1 l0_1.length l0_1) (hc0_1 : l0_1.length ≤ c0_1) (h : spec_CacheOK.f k a0_0 l0_1 = some r) :
    Calls Try.prog 46 #[.agg #[.int .i64 a0_0, .slice A0_1 l0_1.length c0_1]] w fun e w' => e = .returned (.bool r) ∧ Below w.heap.size w w' := by
  have hu75 := Try.underlying75
  have hu127 := Try.underlying127
  have HR0_1 := Aside0.mk hr0_1
  have HC0_1 := Aside0.mk hc0_1
  clear hr0_1 hc0_1
  have HB := Aside0.mk (Below.refl w.heap.size w)
  have H : ((spec_l01In.f a0_0 0 1000000).bind fun t110 => (if t110 = true then (spec_CacheOK.j0 k (decide ((l0_1.length : Int) > 8)) a0_0 l0_1) else (spec_CacheOK.j0 k true a0_0 l0_1))) = some r := h
  clear h
  have HC2 := Aside0.mk H
  clear H
  go_enter Try.func46, Try.ntmps46
  go_upto_region 1 with (first | ((with_reducible refine gate_dst (N := 1) rfl ?_); (try (refine gate_guard (by rfl) ?_; dsimp only)); refine box_event ?hg (N := 1) ?hd (cs := #[.int .i64 a0_0, .slice A0_1 l0_1.length c0_1]) (t := 75) ?hr ?_; (case hd => rfl); (case hg => rfl); (case hr => first | (go_simp; done) | (go_simp; rfl)); intro gb109 hg w3 hbox hb; have n0_ := Aside0.mk (below_step (by repeat (first | (with_reducible first | exact HB.out | apply below_alloc | apply pw_below_drewN | apply below_drew1) | exact HB.out)) hb); have n1_ := Aside0.mk (hbox); have n2_ := Aside0.mk ((by rw [hg]; exact (below_size (by repeat (first | (with_reducible first | exact HB.out | apply below_alloc | apply pw_below_drewN | apply below_drew1) | exact HB.out))) : w.heap.size ≤ gb109)); have n3_ := Aside0.mk ((by rw [hg]; exact (below_size (by repeat (first | (with_reducible first | exact HB.out | apply below_alloc | apply pw_below_drewN | apply below_drew1) | exact HB.out))) : w.heap.size ≤ gb109)); clear HB; have HB := n0_; have BK109 := n1_; have GW109 := n2_; have GE109 := n3_; clear n0_ n1_ n2_ n3_; clear hb hbox hg))
  (try simp only [Act.put, List.setIfInBounds_toArray, List.set_cons_zero, List.set_cons_succ])
  go_cut [15] (fun v15 wc => ∃ (kq : Nat) (x15_1 : Bool), v15 = .bool x15_1 ∧ Aside0 (spec_CacheOK.j0 kq x15_1 a0_0 l0_1 = some r) ∧ Aside0 (kq ≤ k) ∧ Aside0 (wc.heap[gb109]? = some (.cells #[.int .i64 a0_0, (.slice A0_1 l0_1.length c0_1)] 75 (0, 0))) ∧ Aside0 (Below w.heap.size w wc))
  case first =>
    have H := HC2.out
    clear HC2
    replace H := Option.bind_eq_some_iff.mp H
    obtain ⟨t110, A40, H⟩ := H
    replace H : (if t110 = true then (spec_CacheOK.j0 k (decide ((l0_1.length : Int) > 8)) a0_0 l0_1) else (spec_CacheOK.j0 k true a0_0 l0_1)) = some r := H
    have A4 := Aside0.mk A40
    clear A40
    by_cases c5 : t110 = true
    · subst c5
      have H1 : (spec_CacheOK.j0 k (decide ((l0_1.length : Int) > 8)) a0_0 l0_1) = some r := by rw [if_pos rfl] at H; exact H
      clear H
      have H := H1
      clear H1
      have H' := Aside0.mk H
      clear H
      have hcz6_0 : w3.cell? ⟨gb109, 0, none⟩ = some (.int .i64 a0_0) := (blk_cell BK109.out 0).trans rfl
      have hcz6_1 : w3.cell? ⟨gb109, 1, none⟩ = some (.slice A0_1 l0_1.length c0_1) := (blk_cell BK109.out 1).trans rfl
      have hfz6_0 := blk_frozen BK109.out 0
      have hfz6_1 := blk_frozen BK109.out 1
      go_wp2_with (first | ((with_reducible refine gate_callee (f := 87) rfl ?_); refine goesL_ (some 8) rfl rfl Try.func87 (by kernel_rfl) rfl #[.int .i64 a0_0, .int .i64 0, .int .i64 1000000] rfl (by (try simp only [List.map_toArray, List.map_cons, List.map_nil]); first | done | rfl | (simp only [List.length_drop, List.length_take]; rfl)) ?_; (with_reducible refine (spec_l01In.calls a0_0 0 1000000 true _ A4.out).mono ?_); rintro e w' ⟨rfl, ⟨nd, rfl⟩⟩; refine ⟨_, rfl, ?_⟩))
      go_meet
      case rel => exact ⟨_, (decide ((l0_1.length : Int) > 8)), (by first | rfl | (simp; done) | (simp [*]; done)), H', ⟨by first | omega | exact Nat.le_refl _⟩, ⟨by (with_reducible repeat (first | refine blk_drewN ?_ _ | refine blk_drew ?_ | refine blk_alloc ?_ _)); exact BK109.out⟩, ⟨by repeat (first | (with_reducible first | exact HB.out | apply below_alloc | apply pw_below_drewN | apply below_drew1 | refine below_set ?_ GE109.out) | exact HB.out)⟩⟩
    · replace c5 := Bool.eq_false_iff.mpr c5
      subst c5
      have H1 : (spec_CacheOK.j0 k true a0_0 l0_1) = some r := by rw [if_neg (show ¬ (false = true) by decide)] at H; exact H
      clear H
      have H := H1
      clear H1
      have H' := Aside0.mk H
      clear H
      have hcz7_0 : w3.cell? ⟨gb109, 0, none⟩ = some (.int .i64 a0_0) := (blk_cell BK109.out 0).trans rfl
      have hcz7_1 : w3.cell? ⟨gb109, 1, none⟩ = some (.slice A0_1 l0_1.length c0_1) := (blk_cell BK109.out 1).trans rfl
      have hfz7_0 := blk_frozen BK109.out 0
      have hfz7_1 := blk_frozen BK109.out 1
      go_wp2_with (first | ((with_reducible refine gate_callee (f := 87) rfl ?_); refine goesL_ (some 8) rfl rfl Try.func87 (by kernel_rfl) rfl #[.int .i64 a0_0, .int .i64 0, .int .i64 1000000] rfl (by (try simp only [List.map_toArray, List.map_cons, List.map_nil]); first | done | rfl | (simp only [List.length_drop, List.length_take]; rfl)) ?_; (with_reducible refine (spec_l01In.calls a0_0 0 1000000 false _ A4.out).mono ?_); rintro e w' ⟨rfl, ⟨nd, rfl⟩⟩; refine ⟨_, rfl, ?_⟩))
      go_meet
      case rel => exact ⟨_, (true), (by first | rfl | (simp; done) | (simp [*]; done)), H', ⟨by first | omega | exact Nat.le_refl _⟩, ⟨by (with_reducible repeat (first | refine blk_drewN ?_ _ | refine blk_drew ?_ | refine blk_alloc ?_ _)); exact BK109.out⟩, ⟨by repeat (first | (with_reducible first | exact HB.out | apply below_alloc | apply pw_below_drewN | apply below_drew1 | refine below_set ?_ GE109.out) | exact HB.out)⟩⟩
  case rest =>
    clear HC2
    try clear p2
    try clear c4
    try clear c5
    try clear hcz6_0
    try clear hcz6_1
    try clear hcz7_0
    try clear hcz7_1
    try clear hfz6_0
    try clear hfz6_1
    try clear hfz7_0
    try clear hfz7_1
    obtain ⟨kq, x15_1, rfl, HA, HJ1, BK109, HB⟩ := hcut
    cases kq with
    | zero => exact absurd HA.out (by simp [spec_CacheOK.j0])
    | succ kj1 =>
      have H := HA.out
      clear HA
      simp only [spec_CacheOK.j0] at H
      by_cases c8 : x15_1 = true
      · subst c8
        have H1 : (some false) = some r := by rw [if_pos rfl] at H; exact H
        clear H
        have H := H1
        clear H1
        obtain rfl := Option.some.inj H
        go_wp2
        go_ret
        exact ⟨by first | rfl | (simp [errW_none, errW_some] <;> rfl) | (simp [*, errW_none, errW_some] <;> rfl), by repeat (first | (with_reducible first | exact HB.out | apply below_alloc | apply pw_below_drewN | apply below_drew1 | refine below_set ?_ GE109.out) | exact HB.out)⟩
      · replace c8 := Bool.eq_false_iff.mpr c8
        subst c8
        have H1 : (spec_CacheOK.l0 kj1 0 a0_0 l0_1) = some r := by rw [if_neg (show ¬ (false = true) by decide)] at H; exact H
        clear H
        have H := H1
        clear H1
        have H' := Aside0.mk H
        clear H
        go_wp2
        go_loopg [3] kj1 (fun kq v3 w' => ∃ (x3_2 : Int), v3 = .int .i64 x3_2 ∧ Aside0 (spec_CacheOK.l0 kq x3_2 a0_0 l0_1 = some r) ∧ Aside0 (kq ≤ kj1) ∧ Aside0 (w'.heap[gb109]? = some (.cells #[.int .i64 a0_0, (.slice A0_1 l0_1.length c0_1)] 75 (0, 0))) ∧ Aside0 (Below w.heap.size w w'))
        case atStart => exact ⟨(0), (by first | rfl | (simp; done) | (simp [*]; done)), H', ⟨Nat.le_refl _⟩, ⟨by (with_reducible repeat (first | refine blk_drewN ?_ _ | refine blk_drew ?_ | refine blk_alloc ?_ _)); exact BK109.out⟩, ⟨by repeat (first | (with_reducible first | exact HB.out | apply below_alloc | apply pw_below_drewN | apply below_drew1 | refine below_set ?_ GE109.out) | exact HB.out)⟩⟩
        case round =>
          clear H'
          try clear p2
          try clear c4
          try clear c5
          try clear c8
          try clear hcz6_0
          try clear hcz6_1
          try clear hcz7_0
          try clear hcz7_1
          try clear hfz6_0
          try clear hfz6_1
          try clear hfz7_0
          try clear hfz7_1
          try clear p2
          obtain ⟨x3_2, rfl, HA, HK2, BK109, HB⟩ := hrel
          cases gk with
          | zero => exact absurd HA.out (by simp [spec_CacheOK.l0])
          | succ k2 =>
            have H := HA.out
            clear HA
            simp only [spec_CacheOK.l0] at H
            by_cases c9 : x3_2 < (l0_1.length : Int)
            · rw [if_pos c9] at H
              have c9b0 : decide (x3_2 < (l0_1.length : Int)) = true := decide_eq_true c9
              clear c9
              by_cases c10 : 0 ≤ x3_2
              · rw [if_pos c10] at H
                have c10b0 : decide (0 ≤ x3_2) = true := decide_eq_true c10
                clear c10
                have HC11 := Aside0.mk H
                clear H
                have hcz12_0 : wr.cell? ⟨gb109, 0, none⟩ = some (.int .i64 a0_0) := (blk_cell BK109.out 0).trans rfl
                have hcz12_1 : wr.cell? ⟨gb109, 1, none⟩ = some (.slice A0_1 l0_1.length c0_1) := (blk_cell BK109.out 1).trans rfl
                have hfz12_0 := blk_frozen BK109.out 0
                have hfz12_1 := blk_frozen BK109.out 1
                have p111 : 0 ≤ (x3_2 : Int) := of_decide_eq_true (by first | (with_reducible assumption) | assumption)
                have q111 : x3_2 < (l0_1.length : Int) := of_decide_eq_true (by first | (with_reducible assumption) | assumption)
                obtain ⟨ad111, A111_5, c111_5, e111, hx111_0, hx111_1, hx111_2, hx111_3, hx111_4, hx111_5, hl111_5, hi111_5⟩ := at_T127 HR0_1.out x3_2 p111 q111
                cases e111
                replace hx111_0 := (HB.out.cell (World.block_lt_of_cell? w _ hx111_0)).trans hx111_0
                replace hx111_1 := (HB.out.cell (World.block_lt_of_cell? w _ hx111_1)).trans hx111_1
                replace hx111_2 := (HB.out.cell (World.block_lt_of_cell? w _ hx111_2)).trans hx111_2
                replace hx111_3 := (HB.out.cell (World.block_lt_of_cell? w _ hx111_3)).trans hx111_3
                replace hx111_4 := (HB.out.cell (World.block_lt_of_cell? w _ hx111_4)).trans hx111_4
                replace hx111_5 := (HB.out.cell (World.block_lt_of_cell? w _ hx111_5)).trans hx111_5
                have HR111_5 := Aside0.mk hi111_5
                have HC111_5 := Aside0.mk hl111_5
                clear hi111_5 hl111_5
                replace p111 := eq_true p111
                replace q111 := eq_true q111
                go_upto_region 7 with (first | ((with_reducible refine gate_dst (N := 4) rfl ?_); (try (refine gate_guard (by rfl) ?_; dsimp only)); refine box_event ?hg (N := 4) ?hd (cs := #[.string (⟨#[]⟩ : ByteArray), .string (⟨#[]⟩ : ByteArray), .int .i64 0, .int .i64 0, .int .i64 0, .slice none 0 0]) (t := 127) ?hr ?_; (case hd => rfl); (case hg => rfl); (case hr => first | (go_simp; done) | (go_simp; rfl)); intro gb112 hg w13 hbox hb; have n0_ := Aside0.mk (blk_below (g := gb109) (o := .cells #[.int .i64 a0_0, .slice (some ad111) l0_1.length c0_1] 75 (0, 0)) (by (with_reducible repeat (first | refine blk_drewN ?_ _ | refine blk_drew ?_ | refine blk_alloc ?_ _)); exact BK109.out) hb); have n1_ := Aside0.mk (below_step (by repeat (first | (with_reducible first | exact HB.out | apply below_alloc | apply pw_below_drewN | apply below_drew1 | refine below_set ?_ GE109.out) | exact HB.out)) hb); have n2_ := Aside0.mk (hbox); have n3_ := Aside0.mk ((by rw [hg]; exact (below_size (by repeat (first | (with_reducible first | exact HB.out | apply below_alloc | apply pw_below_drewN | apply below_drew1 | refine below_set ?_ GE109.out) | exact HB.out))) : w.heap.size ≤ gb112)); have n4_ := Aside0.mk ((by rw [hg]; exact (below_size (by repeat (first | (with_reducible first | exact HB.out | apply below_alloc | apply pw_below_drewN | apply below_drew1 | refine below_set ?_ GE109.out) | exact HB.out))) : w.heap.size ≤ gb112)); have n5_ := Aside0.mk ((by rw [hg]; exact Nat.ne_of_lt (blk_lt (g := gb109) (o := .cells #[.int .i64 a0_0, .slice (some ad111) l0_1.length c0_1] 75 (0, 0)) (by (with_reducible repeat (first | refine blk_drewN ?_ _ | refine blk_drew ?_ | refine blk_alloc ?_ _)); exact BK109.out)) : gb109 ≠ gb112)); have n6_ := Aside0.mk ((by rw [hg]; exact Nat.ne_of_gt (blk_lt (g := gb109) (o := .cells #[.int .i64 a0_0, .slice (some ad111) l0_1.length c0_1] 75 (0, 0)) (by (with_reducible repeat (first | refine blk_drewN ?_ _ | refine blk_drew ?_ | refine blk_alloc ?_ _)); exact BK109.out)) : gb112 ≠ gb109)); clear BK109; clear HB; have BK109 := n0_; have HB := n1_; have BK112 := n2_; have GW112 := n3_; have GE112 := n4_; have NB109_112 := n5_; have NB112_109 := n6_; clear n0_ n1_ n2_ n3_ n4_ n5_ n6_; clear hb hbox hg; have hnb14 := NB112_109.out; have hnc14 := NB109_112.out; have hcz15_0 : w13.cell? ⟨gb112, 0, none⟩ = some (.string (⟨#[]⟩ : ByteArray)) := (blk_cell BK112.out 0).trans rfl; have hcz15_1 : w13.cell? ⟨gb112, 1, none⟩ = some (.string (⟨#[]⟩ : ByteArray)) := (blk_cell BK112.out 1).trans rfl; have hcz15_2 : w13.cell? ⟨gb112, 2, none⟩ = some (.int .i64 0) := (blk_cell BK112.out 2).trans rfl; have hcz15_3 : w13.cell? ⟨gb112, 3, none⟩ = some (.int .i64 0) := (blk_cell BK112.out 3).trans rfl; have hcz15_4 : w13.cell? ⟨gb112, 4, none⟩ = some (.int .i64 0) := (blk_cell BK112.out 4).trans rfl; have hcz15_5 : w13.cell? ⟨gb112, 5, none⟩ = some (.slice none 0 0) := (blk_cell BK112.out 5).trans rfl; have hfz15_0 := blk_frozen BK112.out 0; have hfz15_1 := blk_frozen BK112.out 1; have hfz15_2 := blk_frozen BK112.out 2; have hfz15_3 := blk_frozen BK112.out 3; have hfz15_4 := blk_frozen BK112.out 4; have hfz15_5 := blk_frozen BK112.out 5))
                (try simp only [Act.put, List.setIfInBounds_toArray, List.set_cons_zero, List.set_cons_succ])
                go_cut [63] (fun v63 wc => ∃ (kq : Nat) (x63_10 : Bool), v63 = .bool x63_10 ∧ Aside0 (spec_CacheOK.j2 kq x3_2 x63_10 a0_0 l0_1 ((rd_T127 l0_1 x3_2).f0) ((rd_T127 l0_1 x3_2).f1) ((rd_T127 l0_1 x3_2).f2) ((rd_T127 l0_1 x3_2).f3) ((rd_T127 l0_1 x3_2).f4) ((rd_T127 l0_1 x3_2).f5) = some r) ∧ Aside0 (kq ≤ k2) ∧ Aside0 (wc.heap[gb109]? = some (.cells #[.int .i64 a0_0, (.slice (some ad111) l0_1.length c0_1)] 75 (0, 0))) ∧ Aside0 (wc.heap[gb112]? = some (.cells #[.string ((rd_T127 l0_1 x3_2).f0), .string ((rd_T127 l0_1 x3_2).f1), .int .i64 ((rd_T127 l0_1 x3_2).f2), .int .i64 ((rd_T127 l0_1 x3_2).f3), .int .i64 ((rd_T127 l0_1 x3_2).f4), (.slice A111_5 ((rd_T127 l0_1 x3_2).f5).length c111_5)] 127 (0, 0))) ∧ Aside0 (Below w.heap.size w wc))
                case first =>
                  have H := HC11.out
                  clear HC11
                  by_cases c16 : (((rd_T127 l0_1 x3_2).f0).size : Int) = 4
                  · rw [if_pos c16] at H
                    have c16b0 : ((((rd_T127 l0_1 x3_2).f0).size : Int) == 4) = true := beq_iff_eq.mpr c16
                    have c16b1 : ((((rd_T127 l0_1 x3_2).f0).size : Int) != 4) = false := bne_eq_false_iff_eq.mpr c16
                    clear c16
                    (first | rw [c16b0] | (simp only [i64_w, i32_w]; rw [c16b0]) | skip)
                    replace H := Option.bind_eq_some_iff.mp H
                    obtain ⟨t113, A170, H⟩ := H
                    replace H : (if t113 = x3_2 then ((spec_l01In.f ((rd_T127 l0_1 x3_2).f2) 1 4).bind fun t114 => (if t114 = true then (if (((rd_T127 l0_1 x3_2).f5).length : Int) > 3 then (spec_CacheOK.j2 k2 x3_2 true a0_0 l0_1 ((rd_T127 l0_1 x3_2).f0) ((rd_T127 l0_1 x3_2).f1) ((rd_T127 l0_1 x3_2).f2) ((rd_T127 l0_1 x3_2).f3) ((rd_T127 l0_1 x3_2).f4) ((rd_T127 l0_1 x3_2).f5)) else ((spec_l01In.f ((rd_T127 l0_1 x3_2).f4) 0 3).bind fun t115 => (spec_CacheOK.j2 k2 x3_2 (!t115) a0_0 l0_1 ((rd_T127 l0_1 x3_2).f0) ((rd_T127 l0_1 x3_2).f1) ((rd_T127 l0_1 x3_2).f2) ((rd_T127 l0_1 x3_2).f3) ((rd_T127 l0_1 x3_2).f4) ((rd_T127 l0_1 x3_2).f5)))) else (spec_CacheOK.j2 k2 x3_2 true a0_0 l0_1 ((rd_T127 l0_1 x3_2).f0) ((rd_T127 l0_1 x3_2).f1) ((rd_T127 l0_1 x3_2).f2) ((rd_T127 l0_1 x3_2).f3) ((rd_T127 l0_1 x3_2).f4) ((rd_T127 l0_1 x3_2).f5)))) else (spec_CacheOK.j2 k2 x3_2 true a0_0 l0_1 ((rd_T127 l0_1 x3_2).f0) ((rd_T127 l0_1 x3_2).f1) ((rd_T127 l0_1 x3_2).f2) ((rd_T127 l0_1 x3_2).f3) ((rd_T127 l0_1 x3_2).f4) ((rd_T127 l0_1 x3_2).f5))) = some r := H
                    have A17 := Aside0.mk A170
                    clear A170
                    by_cases c18 : t113 = x3_2
                    · rw [if_pos c18] at H
                      have c18b0 : (t113 == x3_2) = true := beq_iff_eq.mpr c18
                      have c18b1 : (t113 != x3_2) = false := bne_eq_false_iff_eq.mpr c18
                      clear c18
                      replace H := Option.bind_eq_some_iff.mp H
                      obtain ⟨t114, A190, H⟩ := H
                      replace H : (if t114 = true then (if (((rd_T127 l0_1 x3_2).f5).length : Int) > 3 then (spec_CacheOK.j2 k2 x3_2 true a0_0 l0_1 ((rd_T127 l0_1 x3_2).f0) ((rd_T127 l0_1 x3_2).f1) ((rd_T127 l0_1 x3_2).f2) ((rd_T127 l0_1 x3_2).f3) ((rd_T127 l0_1 x3_2).f4) ((rd_T127 l0_1 x3_2).f5)) else ((spec_l01In.f ((rd_T127 l0_1 x3_2).f4) 0 3).bind fun t115 => (spec_CacheOK.j2 k2 x3_2 (!t115) a0_0 l0_1 ((rd_T127 l0_1 x3_2).f0) ((rd_T127 l0_1 x3_2).f1) ((rd_T127 l0_1 x3_2).f2) ((rd_T127 l0_1 x3_2).f3) ((rd_T127 l0_1 x3_2).f4) ((rd_T127 l0_1 x3_2).f5)))) else (spec_CacheOK.j2 k2 x3_2 true a0_0 l0_1 ((rd_T127 l0_1 x3_2).f0) ((rd_T127 l0_1 x3_2).f1) ((rd_T127 l0_1 x3_2).f2) ((rd_T127 l0_1 x3_2).f3) ((rd_T127 l0_1 x3_2).f4) ((rd_T127 l0_1 x3_2).f5))) = some r := H
                      have A19 := Aside0.mk A190
                      clear A190
                      by_cases c20 : t114 = true
                      · subst c20
                        have H1 : (if (((rd_T127 l0_1 x3_2).f5).length : Int) > 3 then (spec_CacheOK.j2 k2 x3_2 true a0_0 l0_1 ((rd_T127 l0_1 x3_2).f0) ((rd_T127 l0_1 x3_2).f1) ((rd_T127 l0_1 x3_2).f2) ((rd_T127 l0_1 x3_2).f3) ((rd_T127 l0_1 x3_2).f4) ((rd_T127 l0_1 x3_2).f5)) else ((spec_l01In.f ((rd_T127 l0_1 x3_2).f4) 0 3).bind fun t115 => (spec_CacheOK.j2 k2 x3_2 (!t115) a0_0 l0_1 ((rd_T127 l0_1 x3_2).f0) ((rd_T127 l0_1 x3_2).f1) ((rd_T127 l0_1 x3_2).f2) ((rd_T127 l0_1 x3_2).f3) ((rd_T127 l0_1 x3_2).f4) ((rd_T127 l0_1 x3_2).f5)))) = some r := by rw [if_pos rfl] at H; exact H
                        clear H
                        have H := H1
                        clear H1
                        by_cases c21 : (((rd_T127 l0_1 x3_2).f5).length : Int) > 3
                        · rw [if_pos c21] at H
                          have c21b0 : decide (3 < (((rd_T127 l0_1 x3_2).f5).length : Int)) = true := decide_eq_true c21
                          have c21b1 : decide (3 < ((rd_T127 l0_1 x3_2).f5).length) = true := decide_eq_true (by omega)
                          clear c21
                          have H' := Aside0.mk H
                          clear H
                          have hnb22 := NB112_109.out
                          have hnc22 := NB109_112.out
                          have hcz23_0 : w13.cell? ⟨gb112, 0, none⟩ = some (.string (⟨#[]⟩ : ByteArray)) := (blk_cell BK112.out 0).trans rfl
                          have hcz23_1 : w13.cell? ⟨gb112, 1, none⟩ = some (.string (⟨#[]⟩ : ByteArray)) := (blk_cell BK112.out 1).trans rfl
                          have hcz23_2 : w13.cell? ⟨gb112, 2, none⟩ = some (.int .i64 0) := (blk_cell BK112.out 2).trans rfl
                          have hcz23_3 : w13.cell? ⟨gb112, 3, none⟩ = some (.int .i64 0) := (blk_cell BK112.out 3).trans rfl
                          have hcz23_4 : w13.cell? ⟨gb112, 4, none⟩ = some (.int .i64 0) := (blk_cell BK112.out 4).trans rfl
                          have hcz23_5 : w13.cell? ⟨gb112, 5, none⟩ = some (.slice none 0 0) := (blk_cell BK112.out 5).trans rfl
                          have hfz23_0 := blk_frozen BK112.out 0
                          have hfz23_1 := blk_frozen BK112.out 1
                          have hfz23_2 := blk_frozen BK112.out 2
                          have hfz23_3 := blk_frozen BK112.out 3
                          have hfz23_4 := blk_frozen BK112.out 4
                          have hfz23_5 := blk_frozen BK112.out 5
                          have hcz24_0 : w13.cell? ⟨gb109, 0, none⟩ = some (.int .i64 a0_0) := (blk_cell BK109.out 0).trans rfl
                          have hcz24_1 : w13.cell? ⟨gb109, 1, none⟩ = some (.slice (some ad111) l0_1.length c0_1) := (blk_cell BK109.out 1).trans rfl
                          have hfz24_0 := blk_frozen BK109.out 0
                          have hfz24_1 := blk_frozen BK109.out 1
                          go_wp2_with (first | (go_at_call 95; (with_reducible refine (spec_l05Find.calls k2 a0_0 _ _ l0_1 ((rd_T127 l0_1 x3_2).f0) t113 _ ?side1 ?side2 A17.out).mono ?_); (case side1 => exact Kd.C_below HR0_1.out (by repeat (first | (with_reducible first | exact HB.out | apply below_alloc | apply pw_below_drewN | apply below_drew1 | refine below_set ?_ GE109.out | refine below_set ?_ GE112.out) | exact HB.out))); (case side2 => exact HC0_1.out); rintro e w25 ⟨rfl, hb⟩; have n0_ := Aside0.mk (blk_below (g := gb109) (o := .cells #[.int .i64 a0_0, .slice (some ad111) l0_1.length c0_1] 75 (0, 0)) (by (with_reducible repeat (first | refine blk_drewN ?_ _ | refine blk_drew ?_ | refine blk_alloc ?_ _)); refine blk_far ?_ NB109_112.out _; (with_reducible repeat (first | refine blk_drewN ?_ _ | refine blk_drew ?_ | refine blk_alloc ?_ _)); refine blk_far ?_ NB109_112.out _; (with_reducible repeat (first | refine blk_drewN ?_ _ | refine blk_drew ?_ | refine blk_alloc ?_ _)); refine blk_far ?_ NB109_112.out _; (with_reducible repeat (first | refine blk_drewN ?_ _ | refine blk_drew ?_ | refine blk_alloc ?_ _)); refine blk_far ?_ NB109_112.out _; (with_reducible repeat (first | refine blk_drewN ?_ _ | refine blk_drew ?_ | refine blk_alloc ?_ _)); refine blk_far ?_ NB109_112.out _; (with_reducible repeat (first | refine blk_drewN ?_ _ | refine blk_drew ?_ | refine blk_alloc ?_ _)); refine blk_far ?_ NB109_112.out _; (with_reducible repeat (first | refine blk_drewN ?_ _ | refine blk_drew ?_ | refine blk_alloc ?_ _)); exact BK109.out) hb); have n1_ := Aside0.mk (blk_below (g := gb112) (o := .cells #[.string ((rd_T127 l0_1 x3_2).f0), .string ((rd_T127 l0_1 x3_2).f1), .int .i64 ((rd_T127 l0_1 x3_2).f2), .int .i64 ((rd_T127 l0_1 x3_2).f3), .int .i64 ((rd_T127 l0_1 x3_2).f4), .slice A111_5 ((rd_T127 l0_1 x3_2).f5).length c111_5] 127 (0, 0)) (by (with_reducible repeat (first | refine blk_drewN ?_ _ | refine blk_drew ?_ | refine blk_alloc ?_ _)); refine blk_put (cs := #[.string ((rd_T127 l0_1 x3_2).f0), .string ((rd_T127 l0_1 x3_2).f1), .int .i64 ((rd_T127 l0_1 x3_2).f2), .int .i64 ((rd_T127 l0_1 x3_2).f3), .int .i64 ((rd_T127 l0_1 x3_2).f4), .slice none 0 0]) ?_ 5 _ rfl; (with_reducible repeat (first | refine blk_drewN ?_ _ | refine blk_drew ?_ | refine blk_alloc ?_ _)); refine blk_put (cs := #[.string ((rd_T127 l0_1 x3_2).f0), .string ((rd_T127 l0_1 x3_2).f1), .int .i64 ((rd_T127 l0_1 x3_2).f2), .int .i64 ((rd_T127 l0_1 x3_2).f3), .int .i64 0, .slice none 0 0]) ?_ 4 _ rfl; (with_reducible repeat (first | refine blk_drewN ?_ _ | refine blk_drew ?_ | refine blk_alloc ?_ _)); refine blk_put (cs := #[.string ((rd_T127 l0_1 x3_2).f0), .string ((rd_T127 l0_1 x3_2).f1), .int .i64 ((rd_T127 l0_1 x3_2).f2), .int .i64 0, .int .i64 0, .slice none 0 0]) ?_ 3 _ rfl; (with_reducible repeat (first | refine blk_drewN ?_ _ | refine blk_drew ?_ | refine blk_alloc ?_ _)); refine blk_put (cs := #[.string ((rd_T127 l0_1 x3_2).f0), .string ((rd_T127 l0_1 x3_2).f1), .int .i64 0, .int .i64 0, .int .i64 0, .slice none 0 0]) ?_ 2 _ rfl; (with_reducible repeat (first | refine blk_drewN ?_ _ | refine blk_drew ?_ | refine blk_alloc ?_ _)); refine blk_put (cs := #[.string ((rd_T127 l0_1 x3_2).f0), .string (⟨#[]⟩ : ByteArray), .int .i64 0, .int .i64 0, .int .i64 0, .slice none 0 0]) ?_ 1 _ rfl; (with_reducible repeat (first | refine blk_drewN ?_ _ | refine blk_drew ?_ | refine blk_alloc ?_ _)); refine blk_put (cs := #[.string (⟨#[]⟩ : ByteArray), .string (⟨#[]⟩ : ByteArray), .int .i64 0, .int .i64 0, .int .i64 0, .slice none 0 0]) ?_ 0 _ rfl; (with_reducible repeat (first | refine blk_drewN ?_ _ | refine blk_drew ?_ | refine blk_alloc ?_ _)); exact BK112.out) hb); have n2_ := Aside0.mk (below_step (by repeat (first | (with_reducible first | exact HB.out | apply below_alloc | apply pw_below_drewN | apply below_drew1 | refine below_set ?_ GE109.out | refine below_set ?_ GE112.out) | exact HB.out)) hb); clear BK109; clear BK112; clear HB; have BK109 := n0_; have BK112 := n1_; have HB := n2_; clear n0_ n1_ n2_; (try clear hb); (try clear hb2); (try clear hk); (try clear hi); have hcz26_0 : w25.cell? ⟨gb112, 0, none⟩ = some (.string ((rd_T127 l0_1 x3_2).f0)) := (blk_cell BK112.out 0).trans rfl; have hcz26_1 : w25.cell? ⟨gb112, 1, none⟩ = some (.string ((rd_T127 l0_1 x3_2).f1)) := (blk_cell BK112.out 1).trans rfl; have hcz26_2 : w25.cell? ⟨gb112, 2, none⟩ = some (.int .i64 ((rd_T127 l0_1 x3_2).f2)) := (blk_cell BK112.out 2).trans rfl; have hcz26_3 : w25.cell? ⟨gb112, 3, none⟩ = some (.int .i64 ((rd_T127 l0_1 x3_2).f3)) := (blk_cell BK112.out 3).trans rfl; have hcz26_4 : w25.cell? ⟨gb112, 4, none⟩ = some (.int .i64 ((rd_T127 l0_1 x3_2).f4)) := (blk_cell BK112.out 4).trans rfl; have hcz26_5 : w25.cell? ⟨gb112, 5, none⟩ = some (.slice A111_5 ((rd_T127 l0_1 x3_2).f5).length c111_5) := (blk_cell BK112.out 5).trans rfl; have hfz26_0 := blk_frozen BK112.out 0; have hfz26_1 := blk_frozen BK112.out 1; have hfz26_2 := blk_frozen BK112.out 2; have hfz26_3 := blk_frozen BK112.out 3; have hfz26_4 := blk_frozen BK112.out 4; have hfz26_5 := blk_frozen BK112.out 5) | (go_at_call 87; (with_reducible refine (spec_l01In.calls ((rd_T127 l0_1 x3_2).f2) 1 4 true _ A19.out).mono ?_); rintro e w' ⟨rfl, ⟨nd, rfl⟩⟩))
                          go_meet
                          case rel => exact ⟨_, (true), (by first | rfl | (simp; done) | (simp [*]; done)), H', ⟨by have := HJ1.out; have := HK2.out; first | omega | exact Nat.le_refl _⟩, ⟨by (with_reducible repeat (first | refine blk_drewN ?_ _ | refine blk_drew ?_ | refine blk_alloc ?_ _)); exact BK109.out⟩, ⟨by (with_reducible repeat (first | refine blk_drewN ?_ _ | refine blk_drew ?_ | refine blk_alloc ?_ _)); exact BK112.out⟩, ⟨by repeat (first | (with_reducible first | exact HB.out | apply below_alloc | apply pw_below_drewN | apply below_drew1 | refine below_set ?_ GE109.out | refine below_set ?_ GE112.out) | exact HB.out)⟩⟩
                        · rw [if_neg c21] at H
                          have c21b0 : decide (3 < (((rd_T127 l0_1 x3_2).f5).length : Int)) = false := decide_eq_false c21
                          have c21b1 : decide (3 < ((rd_T127 l0_1 x3_2).f5).length) = false := decide_eq_false (by omega)
                          clear c21
                          replace H := Option.bind_eq_some_iff.mp H
                          obtain ⟨t115, A270, H⟩ := H
                          replace H : (spec_CacheOK.j2 k2 x3_2 (!t115) a0_0 l0_1 ((rd_T127 l0_1 x3_2).f0) ((rd_T127 l0_1 x3_2).f1) ((rd_T127 l0_1 x3_2).f2) ((rd_T127 l0_1 x3_2).f3) ((rd_T127 l0_1 x3_2).f4) ((rd_T127 l0_1 x3_2).f5)) = some r := H
                          have A27 := Aside0.mk A270
                          clear A270
                          have H' := Aside0.mk H
                          clear H
                          have hnb28 := NB112_109.out
                          have hnc28 := NB109_112.out
                          have hcz29_0 : w13.cell? ⟨gb112, 0, none⟩ = some (.string (⟨#[]⟩ : ByteArray)) := (blk_cell BK112.out 0).trans rfl
                          have hcz29_1 : w13.cell? ⟨gb112, 1, none⟩ = some (.string (⟨#[]⟩ : ByteArray)) := (blk_cell BK112.out 1).trans rfl
                          have hcz29_2 : w13.cell? ⟨gb112, 2, none⟩ = some (.int .i64 0) := (blk_cell BK112.out 2).trans rfl
                          have hcz29_3 : w13.cell? ⟨gb112, 3, none⟩ = some (.int .i64 0) := (blk_cell BK112.out 3).trans rfl
                          have hcz29_4 : w13.cell? ⟨gb112, 4, none⟩ = some (.int .i64 0) := (blk_cell BK112.out 4).trans rfl
                          have hcz29_5 : w13.cell? ⟨gb112, 5, none⟩ = some (.slice none 0 0) := (blk_cell BK112.out 5).trans rfl
                          have hfz29_0 := blk_frozen BK112.out 0
                          have hfz29_1 := blk_frozen BK112.out 1
                          have hfz29_2 := blk_frozen BK112.out 2
                          have hfz29_3 := blk_frozen BK112.out 3
                          have hfz29_4 := blk_frozen BK112.out 4
                          have hfz29_5 := blk_frozen BK112.out 5
                          have hcz30_0 : w13.cell? ⟨gb109, 0, none⟩ = some (.int .i64 a0_0) := (blk_cell BK109.out 0).trans rfl
                          have hcz30_1 : w13.cell? ⟨gb109, 1, none⟩ = some (.slice (some ad111) l0_1.length c0_1) := (blk_cell BK109.out 1).trans rfl
                          have hfz30_0 := blk_frozen BK109.out 0
                          have hfz30_1 := blk_frozen BK109.out 1
                          go_wp2_with (first | (go_at_call 95; (with_reducible refine (spec_l05Find.calls k2 a0_0 _ _ l0_1 ((rd_T127 l0_1 x3_2).f0) t113 _ ?side1 ?side2 A17.out).mono ?_); (case side1 => exact Kd.C_below HR0_1.out (by repeat (first | (with_reducible first | exact HB.out | apply below_alloc | apply pw_below_drewN | apply below_drew1 | refine below_set ?_ GE109.out | refine below_set ?_ GE112.out) | exact HB.out))); (case side2 => exact HC0_1.out); rintro e w31 ⟨rfl, hb⟩; have n0_ := Aside0.mk (blk_below (g := gb109) (o := .cells #[.int .i64 a0_0, .slice (some ad111) l0_1.length c0_1] 75 (0, 0)) (by (with_reducible repeat (first | refine blk_drewN ?_ _ | refine blk_drew ?_ | refine blk_alloc ?_ _)); refine blk_far ?_ NB109_112.out _; (with_reducible repeat (first | refine blk_drewN ?_ _ | refine blk_drew ?_ | refine blk_alloc ?_ _)); refine blk_far ?_ NB109_112.out _; (with_reducible repeat (first | refine blk_drewN ?_ _ | refine blk_drew ?_ | refine blk_alloc ?_ _)); refine blk_far ?_ NB109_112.out _; (with_reducible repeat (first | refine blk_drewN ?_ _ | refine blk_drew ?_ | refine blk_alloc ?_ _)); refine blk_far ?_ NB109_112.out _; (with_reducible repeat (first | refine blk_drewN ?_ _ | refine blk_drew ?_ | refine blk_alloc ?_ _)); refine blk_far ?_ NB109_112.out _; (with_reducible repeat (first | refine blk_drewN ?_ _ | refine blk_drew ?_ | refine blk_alloc ?_ _)); refine blk_far ?_ NB109_112.out _; (with_reducible repeat (first | refine blk_drewN ?_ _ | refine blk_drew ?_ | refine blk_alloc ?_ _)); exact BK109.out) hb); have n1_ := Aside0.mk (blk_below (g := gb112) (o := .cells #[.string ((rd_T127 l0_1 x3_2).f0), .string ((rd_T127 l0_1 x3_2).f1), .int .i64 ((rd_T127 l0_1 x3_2).f2), .int .i64 ((rd_T127 l0_1 x3_2).f3), .int .i64 ((rd_T127 l0_1 x3_2).f4), .slice A111_5 ((rd_T127 l0_1 x3_2).f5).length c111_5] 127 (0, 0)) (by (with_reducible repeat (first | refine blk_drewN ?_ _ | refine blk_drew ?_ | refine blk_alloc ?_ _)); refine blk_put (cs := #[.string ((rd_T127 l0_1 x3_2).f0), .string ((rd_T127 l0_1 x3_2).f1), .int .i64 ((rd_T127 l0_1 x3_2).f2), .int .i64 ((rd_T127 l0_1 x3_2).f3), .int .i64 ((rd_T127 l0_1 x3_2).f4), .slice none 0 0]) ?_ 5 _ rfl; (with_reducible repeat (first | refine blk_drewN ?_ _ | refine blk_drew ?_ | refine blk_alloc ?_ _)); refine blk_put (cs := #[.string ((rd_T127 l0_1 x3_2).f0), .string ((rd_T127 l0_1 x3_2).f1), .int .i64 ((rd_T127 l0_1 x3_2).f2), .int .i64 ((rd_T127 l0_1 x3_2).f3), .int .i64 0, .slice none 0 0]) ?_ 4 _ rfl; (with_reducible repeat (first | refine blk_drewN ?_ _ | refine blk_drew ?_ | refine blk_alloc ?_ _)); refine blk_put (cs := #[.string ((rd_T127 l0_1 x3_2).f0), .string ((rd_T127 l0_1 x3_2).f1), .int .i64 ((rd_T127 l0_1 x3_2).f2), .int .i64 0, .int .i64 0, .slice none 0 0]) ?_ 3 _ rfl; (with_reducible repeat (first | refine blk_drewN ?_ _ | refine blk_drew ?_ | refine blk_alloc ?_ _)); refine blk_put (cs := #[.string ((rd_T127 l0_1 x3_2).f0), .string ((rd_T127 l0_1 x3_2).f1), .int .i64 0, .int .i64 0, .int .i64 0, .slice none 0 0]) ?_ 2 _ rfl; (with_reducible repeat (first | refine blk_drewN ?_ _ | refine blk_drew ?_ | refine blk_alloc ?_ _)); refine blk_put (cs := #[.string ((rd_T127 l0_1 x3_2).f0), .string (⟨#[]⟩ : ByteArray), .int .i64 0, .int .i64 0, .int .i64 0, .slice none 0 0]) ?_ 1 _ rfl; (with_reducible repeat (first | refine blk_drewN ?_ _ | refine blk_drew ?_ | refine blk_alloc ?_ _)); refine blk_put (cs := #[.string (⟨#[]⟩ : ByteArray), .string (⟨#[]⟩ : ByteArray), .int .i64 0, .int .i64 0, .int .i64 0, .slice none 0 0]) ?_ 0 _ rfl; (with_reducible repeat (first | refine blk_drewN ?_ _ | refine blk_drew ?_ | refine blk_alloc ?_ _)); exact BK112.out) hb); have n2_ := Aside0.mk (below_step (by repeat (first | (with_reducible first | exact HB.out | apply below_alloc | apply pw_below_drewN | apply below_drew1 | refine below_set ?_ GE109.out | refine below_set ?_ GE112.out) | exact HB.out)) hb); clear BK109; clear BK112; clear HB; have BK109 := n0_; have BK112 := n1_; have HB := n2_; clear n0_ n1_ n2_; (try clear hb); (try clear hb2); (try clear hk); (try clear hi); have hcz32_0 : w31.cell? ⟨gb112, 0, none⟩ = some (.string ((rd_T127 l0_1 x3_2).f0)) := (blk_cell BK112.out 0).trans rfl; have hcz32_1 : w31.cell? ⟨gb112, 1, none⟩ = some (.string ((rd_T127 l0_1 x3_2).f1)) := (blk_cell BK112.out 1).trans rfl; have hcz32_2 : w31.cell? ⟨gb112, 2, none⟩ = some (.int .i64 ((rd_T127 l0_1 x3_2).f2)) := (blk_cell BK112.out 2).trans rfl; have hcz32_3 : w31.cell? ⟨gb112, 3, none⟩ = some (.int .i64 ((rd_T127 l0_1 x3_2).f3)) := (blk_cell BK112.out 3).trans rfl; have hcz32_4 : w31.cell? ⟨gb112, 4, none⟩ = some (.int .i64 ((rd_T127 l0_1 x3_2).f4)) := (blk_cell BK112.out 4).trans rfl; have hcz32_5 : w31.cell? ⟨gb112, 5, none⟩ = some (.slice A111_5 ((rd_T127 l0_1 x3_2).f5).length c111_5) := (blk_cell BK112.out 5).trans rfl; have hfz32_0 := blk_frozen BK112.out 0; have hfz32_1 := blk_frozen BK112.out 1; have hfz32_2 := blk_frozen BK112.out 2; have hfz32_3 := blk_frozen BK112.out 3; have hfz32_4 := blk_frozen BK112.out 4; have hfz32_5 := blk_frozen BK112.out 5) | (go_at_call 87; (with_reducible refine (spec_l01In.calls ((rd_T127 l0_1 x3_2).f2) 1 4 true _ A19.out).mono ?_); rintro e w' ⟨rfl, ⟨nd, rfl⟩⟩) | (go_at_call 87; (with_reducible refine (spec_l01In.calls ((rd_T127 l0_1 x3_2).f4) 0 3 t115 _ A27.out).mono ?_); rintro e w' ⟨rfl, ⟨nd, rfl⟩⟩))
                          go_meet
                          case rel => exact ⟨_, (!t115), (by first | rfl | (simp; done) | (simp [*]; done)), H', ⟨by have := HJ1.out; have := HK2.out; first | omega | exact Nat.le_refl _⟩, ⟨by (with_reducible repeat (first | refine blk_drewN ?_ _ | refine blk_drew ?_ | refine blk_alloc ?_ _)); exact BK109.out⟩, ⟨by (with_reducible repeat (first | refine blk_drewN ?_ _ | refine blk_drew ?_ | refine blk_alloc ?_ _)); exact BK112.out⟩, ⟨by repeat (first | (with_reducible first | exact HB.out | apply below_alloc | apply pw_below_drewN | apply below_drew1 | refine below_set ?_ GE109.out | refine below_set ?_ GE112.out) | exact HB.out)⟩⟩
                      · replace c20 := Bool.eq_false_iff.mpr c20
                        subst c20
                        have H1 : (spec_CacheOK.j2 k2 x3_2 true a0_0 l0_1 ((rd_T127 l0_1 x3_2).f0) ((rd_T127 l0_1 x3_2).f1) ((rd_T127 l0_1 x3_2).f2) ((rd_T127 l0_1 x3_2).f3) ((rd_T127 l0_1 x3_2).f4) ((rd_T127 l0_1 x3_2).f5)) = some r := by rw [if_neg (show ¬ (false = true) by decide)] at H; exact H
                        clear H
                        have H := H1
                        clear H1
                        have H' := Aside0.mk H
                        clear H
                        have hnb33 := NB112_109.out
                        have hnc33 := NB109_112.out
                        have hcz34_0 : w13.cell? ⟨gb112, 0, none⟩ = some (.string (⟨#[]⟩ : ByteArray)) := (blk_cell BK112.out 0).trans rfl
                        have hcz34_1 : w13.cell? ⟨gb112, 1, none⟩ = some (.string (⟨#[]⟩ : ByteArray)) := (blk_cell BK112.out 1).trans rfl
                        have hcz34_2 : w13.cell? ⟨gb112, 2, none⟩ = some (.int .i64 0) := (blk_cell BK112.out 2).trans rfl
                        have hcz34_3 : w13.cell? ⟨gb112, 3, none⟩ = some (.int .i64 0) := (blk_cell BK112.out 3).trans rfl
                        have hcz34_4 : w13.cell? ⟨gb112, 4, none⟩ = some (.int .i64 0) := (blk_cell BK112.out 4).trans rfl
                        have hcz34_5 : w13.cell? ⟨gb112, 5, none⟩ = some (.slice none 0 0) := (blk_cell BK112.out 5).trans rfl
                        have hfz34_0 := blk_frozen BK112.out 0
                        have hfz34_1 := blk_frozen BK112.out 1
                        have hfz34_2 := blk_frozen BK112.out 2
                        have hfz34_3 := blk_frozen BK112.out 3
                        have hfz34_4 := blk_frozen BK112.out 4
                        have hfz34_5 := blk_frozen BK112.out 5
                        have hcz35_0 : w13.cell? ⟨gb109, 0, none⟩ = some (.int .i64 a0_0) := (blk_cell BK109.out 0).trans rfl
                        have hcz35_1 : w13.cell? ⟨gb109, 1, none⟩ = some (.slice (some ad111) l0_1.length c0_1) := (blk_cell BK109.out 1).trans rfl
                        have hfz35_0 := blk_frozen BK109.out 0
                        have hfz35_1 := blk_frozen BK109.out 1
                        go_wp2_with (first | (go_at_call 95; (with_reducible refine (spec_l05Find.calls k2 a0_0 _ _ l0_1 ((rd_T127 l0_1 x3_2).f0) t113 _ ?side1 ?side2 A17.out).mono ?_); (case side1 => exact Kd.C_below HR0_1.out (by repeat (first | (with_reducible first | exact HB.out | apply below_alloc | apply pw_below_drewN | apply below_drew1 | refine below_set ?_ GE109.out | refine below_set ?_ GE112.out) | exact HB.out))); (case side2 => exact HC0_1.out); rintro e w36 ⟨rfl, hb⟩; have n0_ := Aside0.mk (blk_below (g := gb109) (o := .cells #[.int .i64 a0_0, .slice (some ad111) l0_1.length c0_1] 75 (0, 0)) (by (with_reducible repeat (first | refine blk_drewN ?_ _ | refine blk_drew ?_ | refine blk_alloc ?_ _)); refine blk_far ?_ NB109_112.out _; (with_reducible repeat (first | refine blk_drewN ?_ _ | refine blk_drew ?_ | refine blk_alloc ?_ _)); refine blk_far ?_ NB109_112.out _; (with_reducible repeat (first | refine blk_drewN ?_ _ | refine blk_drew ?_ | refine blk_alloc ?_ _)); refine blk_far ?_ NB109_112.out _; (with_reducible repeat (first | refine blk_drewN ?_ _ | refine blk_drew ?_ | refine blk_alloc ?_ _)); refine blk_far ?_ NB109_112.out _; (with_reducible repeat (first | refine blk_drewN ?_ _ | refine blk_drew ?_ | refine blk_alloc ?_ _)); refine blk_far ?_ NB109_112.out _; (with_reducible repeat (first | refine blk_drewN ?_ _ | refine blk_drew ?_ | refine blk_alloc ?_ _)); refine blk_far ?_ NB109_112.out _; (with_reducible repeat (first | refine blk_drewN ?_ _ | refine blk_drew ?_ | refine blk_alloc ?_ _)); exact BK109.out) hb); have n1_ := Aside0.mk (blk_below (g := gb112) (o := .cells #[.string ((rd_T127 l0_1 x3_2).f0), .string ((rd_T127 l0_1 x3_2).f1), .int .i64 ((rd_T127 l0_1 x3_2).f2), .int .i64 ((rd_T127 l0_1 x3_2).f3), .int .i64 ((rd_T127 l0_1 x3_2).f4), .slice A111_5 ((rd_T127 l0_1 x3_2).f5).length c111_5] 127 (0, 0)) (by (with_reducible repeat (first | refine blk_drewN ?_ _ | refine blk_drew ?_ | refine blk_alloc ?_ _)); refine blk_put (cs := #[.string ((rd_T127 l0_1 x3_2).f0), .string ((rd_T127 l0_1 x3_2).f1), .int .i64 ((rd_T127 l0_1 x3_2).f2), .int .i64 ((rd_T127 l0_1 x3_2).f3), .int .i64 ((rd_T127 l0_1 x3_2).f4), .slice none 0 0]) ?_ 5 _ rfl; (with_reducible repeat (first | refine blk_drewN ?_ _ | refine blk_drew ?_ | refine blk_alloc ?_ _)); refine blk_put (cs := #[.string ((rd_T127 l0_1 x3_2).f0), .string ((rd_T127 l0_1 x3_2).f1), .int .i64 ((rd_T127 l0_1 x3_2).f2), .int .i64 ((rd_T127 l0_1 x3_2).f3), .int .i64 0, .slice none 0 0]) ?_ 4 _ rfl; (with_reducible repeat (first | refine blk_drewN ?_ _ | refine blk_drew ?_ | refine blk_alloc ?_ _)); refine blk_put (cs := #[.string ((rd_T127 l0_1 x3_2).f0), .string ((rd_T127 l0_1 x3_2).f1), .int .i64 ((rd_T127 l0_1 x3_2).f2), .int .i64 0, .int .i64 0, .slice none 0 0]) ?_ 3 _ rfl; (with_reducible repeat (first | refine blk_drewN ?_ _ | refine blk_drew ?_ | refine blk_alloc ?_ _)); refine blk_put (cs := #[.string ((rd_T127 l0_1 x3_2).f0), .string ((rd_T127 l0_1 x3_2).f1), .int .i64 0, .int .i64 0, .int .i64 0, .slice none 0 0]) ?_ 2 _ rfl; (with_reducible repeat (first | refine blk_drewN ?_ _ | refine blk_drew ?_ | refine blk_alloc ?_ _)); refine blk_put (cs := #[.string ((rd_T127 l0_1 x3_2).f0), .string (⟨#[]⟩ : ByteArray), .int .i64 0, .int .i64 0, .int .i64 0, .slice none 0 0]) ?_ 1 _ rfl; (with_reducible repeat (first | refine blk_drewN ?_ _ | refine blk_drew ?_ | refine blk_alloc ?_ _)); refine blk_put (cs := #[.string (⟨#[]⟩ : ByteArray), .string (⟨#[]⟩ : ByteArray), .int .i64 0, .int .i64 0, .int .i64 0, .slice none 0 0]) ?_ 0 _ rfl; (with_reducible repeat (first | refine blk_drewN ?_ _ | refine blk_drew ?_ | refine blk_alloc ?_ _)); exact BK112.out) hb); have n2_ := Aside0.mk (below_step (by repeat (first | (with_reducible first | exact HB.out | apply below_alloc | apply pw_below_drewN | apply below_drew1 | refine below_set ?_ GE109.out | refine below_set ?_ GE112.out) | exact HB.out)) hb); clear BK109; clear BK112; clear HB; have BK109 := n0_; have BK112 := n1_; have HB := n2_; clear n0_ n1_ n2_; (try clear hb); (try clear hb2); (try clear hk); (try clear hi); have hcz37_0 : w36.cell? ⟨gb112, 0, none⟩ = some (.string ((rd_T127 l0_1 x3_2).f0)) := (blk_cell BK112.out 0).trans rfl; have hcz37_1 : w36.cell? ⟨gb112, 1, none⟩ = some (.string ((rd_T127 l0_1 x3_2).f1)) := (blk_cell BK112.out 1).trans rfl; have hcz37_2 : w36.cell? ⟨gb112, 2, none⟩ = some (.int .i64 ((rd_T127 l0_1 x3_2).f2)) := (blk_cell BK112.out 2).trans rfl; have hcz37_3 : w36.cell? ⟨gb112, 3, none⟩ = some (.int .i64 ((rd_T127 l0_1 x3_2).f3)) := (blk_cell BK112.out 3).trans rfl; have hcz37_4 : w36.cell? ⟨gb112, 4, none⟩ = some (.int .i64 ((rd_T127 l0_1 x3_2).f4)) := (blk_cell BK112.out 4).trans rfl; have hcz37_5 : w36.cell? ⟨gb112, 5, none⟩ = some (.slice A111_5 ((rd_T127 l0_1 x3_2).f5).length c111_5) := (blk_cell BK112.out 5).trans rfl; have hfz37_0 := blk_frozen BK112.out 0; have hfz37_1 := blk_frozen BK112.out 1; have hfz37_2 := blk_frozen BK112.out 2; have hfz37_3 := blk_frozen BK112.out 3; have hfz37_4 := blk_frozen BK112.out 4; have hfz37_5 := blk_frozen BK112.out 5) | (go_at_call 87; (with_reducible refine (spec_l01In.calls ((rd_T127 l0_1 x3_2).f2) 1 4 false _ A19.out).mono ?_); rintro e w' ⟨rfl, ⟨nd, rfl⟩⟩))
                        go_meet
                        case rel => exact ⟨_, (true), (by first | rfl | (simp; done) | (simp [*]; done)), H', ⟨by have := HJ1.out; have := HK2.out; first | omega | exact Nat.le_refl _⟩, ⟨by (with_reducible repeat (first | refine blk_drewN ?_ _ | refine blk_drew ?_ | refine blk_alloc ?_ _)); exact BK109.out⟩, ⟨by (with_reducible repeat (first | refine blk_drewN ?_ _ | refine blk_drew ?_ | refine blk_alloc ?_ _)); exact BK112.out⟩, ⟨by repeat (first | (with_reducible first | exact HB.out | apply below_alloc | apply pw_below_drewN | apply below_drew1 | refine below_set ?_ GE109.out | refine below_set ?_ GE112.out) | exact HB.out)⟩⟩
                    · rw [if_neg c18] at H
                      have c18b0 : (t113 == x3_2) = false := beq_eq_false_iff_ne.mpr c18
                      have c18b1 : (t113 != x3_2) = true := bne_iff_ne.mpr c18
                      have H' := Aside0.mk H
                      clear H
                      have hnb38 := NB112_109.out
                      have hnc38 := NB109_112.out
                      have hcz39_0 : w13.cell? ⟨gb112, 0, none⟩ = some (.string (⟨#[]⟩ : ByteArray)) := (blk_cell BK112.out 0).trans rfl
                      have hcz39_1 : w13.cell? ⟨gb112, 1, none⟩ = some (.string (⟨#[]⟩ : ByteArray)) := (blk_cell BK112.out 1).trans rfl
                      have hcz39_2 : w13.cell? ⟨gb112, 2, none⟩ = some (.int .i64 0) := (blk_cell BK112.out 2).trans rfl
                      have hcz39_3 : w13.cell? ⟨gb112, 3, none⟩ = some (.int .i64 0) := (blk_cell BK112.out 3).trans rfl
                      have hcz39_4 : w13.cell? ⟨gb112, 4, none⟩ = some (.int .i64 0) := (blk_cell BK112.out 4).trans rfl
                      have hcz39_5 : w13.cell? ⟨gb112, 5, none⟩ = some (.slice none 0 0) := (blk_cell BK112.out 5).trans rfl
                      have hfz39_0 := blk_frozen BK112.out 0
                      have hfz39_1 := blk_frozen BK112.out 1
                      have hfz39_2 := blk_frozen BK112.out 2
                      have hfz39_3 := blk_frozen BK112.out 3
                      have hfz39_4 := blk_frozen BK112.out 4
                      have hfz39_5 := blk_frozen BK112.out 5
                      have hcz40_0 : w13.cell? ⟨gb109, 0, none⟩ = some (.int .i64 a0_0) := (blk_cell BK109.out 0).trans rfl
                      have hcz40_1 : w13.cell? ⟨gb109, 1, none⟩ = some (.slice (some ad111) l0_1.length c0_1) := (blk_cell BK109.out 1).trans rfl
                      have hfz40_0 := blk_frozen BK109.out 0
                      have hfz40_1 := blk_frozen BK109.out 1
                      go_wp2_with (first | (go_at_call 95; (with_reducible refine (spec_l05Find.calls k2 a0_0 _ _ l0_1 ((rd_T127 l0_1 x3_2).f0) t113 _ ?side1 ?side2 A17.out).mono ?_); (case side1 => exact Kd.C_below HR0_1.out (by repeat (first | (with_reducible first | exact HB.out | apply below_alloc | apply pw_below_drewN | apply below_drew1 | refine below_set ?_ GE109.out | refine below_set ?_ GE112.out) | exact HB.out))); (case side2 => exact HC0_1.out); rintro e w41 ⟨rfl, hb⟩; have n0_ := Aside0.mk (blk_below (g := gb109) (o := .cells #[.int .i64 a0_0, .slice (some ad111) l0_1.length c0_1] 75 (0, 0)) (by (with_reducible repeat (first | refine blk_drewN ?_ _ | refine blk_drew ?_ | refine blk_alloc ?_ _)); refine blk_far ?_ NB109_112.out _; (with_reducible repeat (first | refine blk_drewN ?_ _ | refine blk_drew ?_ | refine blk_alloc ?_ _)); refine blk_far ?_ NB109_112.out _; (with_reducible repeat (first | refine blk_drewN ?_ _ | refine blk_drew ?_ | refine blk_alloc ?_ _)); refine blk_far ?_ NB109_112.out _; (with_reducible repeat (first | refine blk_drewN ?_ _ | refine blk_drew ?_ | refine blk_alloc ?_ _)); refine blk_far ?_ NB109_112.out _; (with_reducible repeat (first | refine blk_drewN ?_ _ | refine blk_drew ?_ | refine blk_alloc ?_ _)); refine blk_far ?_ NB109_112.out _; (with_reducible repeat (first | refine blk_drewN ?_ _ | refine blk_drew ?_ | refine blk_alloc ?_ _)); refine blk_far ?_ NB109_112.out _; (with_reducible repeat (first | refine blk_drewN ?_ _ | refine blk_drew ?_ | refine blk_alloc ?_ _)); exact BK109.out) hb); have n1_ := Aside0.mk (blk_below (g := gb112) (o := .cells #[.string ((rd_T127 l0_1 x3_2).f0), .string ((rd_T127 l0_1 x3_2).f1), .int .i64 ((rd_T127 l0_1 x3_2).f2), .int .i64 ((rd_T127 l0_1 x3_2).f3), .int .i64 ((rd_T127 l0_1 x3_2).f4), .slice A111_5 ((rd_T127 l0_1 x3_2).f5).length c111_5] 127 (0, 0)) (by (with_reducible repeat (first | refine blk_drewN ?_ _ | refine blk_drew ?_ | refine blk_alloc ?_ _)); refine blk_put (cs := #[.string ((rd_T127 l0_1 x3_2).f0), .string ((rd_T127 l0_1 x3_2).f1), .int .i64 ((rd_T127 l0_1 x3_2).f2), .int .i64 ((rd_T127 l0_1 x3_2).f3), .int .i64 ((rd_T127 l0_1 x3_2).f4), .slice none 0 0]) ?_ 5 _ rfl; (with_reducible repeat (first | refine blk_drewN ?_ _ | refine blk_drew ?_ | refine blk_alloc ?_ _)); refine blk_put (cs := #[.string ((rd_T127 l0_1 x3_2).f0), .string ((rd_T127 l0_1 x3_2).f1), .int .i64 ((rd_T127 l0_1 x3_2).f2), .int .i64 ((rd_T127 l0_1 x3_2).f3), .int .i64 0, .slice none 0 0]) ?_ 4 _ rfl; (with_reducible repeat (first | refine blk_drewN ?_ _ | refine blk_drew ?_ | refine blk_alloc ?_ _)); refine blk_put (cs := #[.string ((rd_T127 l0_1 x3_2).f0), .string ((rd_T127 l0_1 x3_2).f1), .int .i64 ((rd_T127 l0_1 x3_2).f2), .int .i64 0, .int .i64 0, .slice none 0 0]) ?_ 3 _ rfl; (with_reducible repeat (first | refine blk_drewN ?_ _ | refine blk_drew ?_ | refine blk_alloc ?_ _)); refine blk_put (cs := #[.string ((rd_T127 l0_1 x3_2).f0), .string ((rd_T127 l0_1 x3_2).f1), .int .i64 0, .int .i64 0, .int .i64 0, .slice none 0 0]) ?_ 2 _ rfl; (with_reducible repeat (first | refine blk_drewN ?_ _ | refine blk_drew ?_ | refine blk_alloc ?_ _)); refine blk_put (cs := #[.string ((rd_T127 l0_1 x3_2).f0), .string (⟨#[]⟩ : ByteArray), .int .i64 0, .int .i64 0, .int .i64 0, .slice none 0 0]) ?_ 1 _ rfl; (with_reducible repeat (first | refine blk_drewN ?_ _ | refine blk_drew ?_ | refine blk_alloc ?_ _)); refine blk_put (cs := #[.string (⟨#[]⟩ : ByteArray), .string (⟨#[]⟩ : ByteArray), .int .i64 0, .int .i64 0, .int .i64 0, .slice none 0 0]) ?_ 0 _ rfl; (with_reducible repeat (first | refine blk_drewN ?_ _ | refine blk_drew ?_ | refine blk_alloc ?_ _)); exact BK112.out) hb); have n2_ := Aside0.mk (below_step (by repeat (first | (with_reducible first | exact HB.out | apply below_alloc | apply pw_below_drewN | apply below_drew1 | refine below_set ?_ GE109.out | refine below_set ?_ GE112.out) | exact HB.out)) hb); clear BK109; clear BK112; clear HB; have BK109 := n0_; have BK112 := n1_; have HB := n2_; clear n0_ n1_ n2_; (try clear hb); (try clear hb2); (try clear hk); (try clear hi)))
                      go_meet
                      case rel => exact ⟨_, (true), (by first | rfl | (simp; done) | (simp [*]; done)), H', ⟨by have := HJ1.out; have := HK2.out; first | omega | exact Nat.le_refl _⟩, ⟨by (with_reducible repeat (first | refine blk_drewN ?_ _ | refine blk_drew ?_ | refine blk_alloc ?_ _)); exact BK109.out⟩, ⟨by (with_reducible repeat (first | refine blk_drewN ?_ _ | refine blk_drew ?_ | refine blk_alloc ?_ _)); exact BK112.out⟩, ⟨by repeat (first | (with_reducible first | exact HB.out | apply below_alloc | apply pw_below_drewN | apply below_drew1 | refine below_set ?_ GE109.out | refine below_set ?_ GE112.out) | exact HB.out)⟩⟩
                  · rw [if_neg c16] at H
                    have c16b0 : ((((rd_T127 l0_1 x3_2).f0).size : Int) == 4) = false := beq_eq_false_iff_ne.mpr c16
                    have c16b1 : ((((rd_T127 l0_1 x3_2).f0).size : Int) != 4) = true := bne_iff_ne.mpr c16
                    (first | rw [c16b0] | (simp only [i64_w, i32_w]; rw [c16b0]) | skip)
                    by_cases c42 : (((rd_T127 l0_1 x3_2).f0).size : Int) = 16
                    · rw [if_pos c42] at H
                      have c42b0 : ((((rd_T127 l0_1 x3_2).f0).size : Int) == 16) = true := beq_iff_eq.mpr c42
                      have c42b1 : ((((rd_T127 l0_1 x3_2).f0).size : Int) != 16) = false := bne_eq_false_iff_eq.mpr c42
                      clear c42
                      replace H := Option.bind_eq_some_iff.mp H
                      obtain ⟨t116, A430, H⟩ := H
                      replace H : (if t116 = x3_2 then ((spec_l01In.f ((rd_T127 l0_1 x3_2).f2) 1 4).bind fun t117 => (if t117 = true then (if (((rd_T127 l0_1 x3_2).f5).length : Int) > 3 then (spec_CacheOK.j2 k2 x3_2 true a0_0 l0_1 ((rd_T127 l0_1 x3_2).f0) ((rd_T127 l0_1 x3_2).f1) ((rd_T127 l0_1 x3_2).f2) ((rd_T127 l0_1 x3_2).f3) ((rd_T127 l0_1 x3_2).f4) ((rd_T127 l0_1 x3_2).f5)) else ((spec_l01In.f ((rd_T127 l0_1 x3_2).f4) 0 3).bind fun t118 => (spec_CacheOK.j2 k2 x3_2 (!t118) a0_0 l0_1 ((rd_T127 l0_1 x3_2).f0) ((rd_T127 l0_1 x3_2).f1) ((rd_T127 l0_1 x3_2).f2) ((rd_T127 l0_1 x3_2).f3) ((rd_T127 l0_1 x3_2).f4) ((rd_T127 l0_1 x3_2).f5)))) else (spec_CacheOK.j2 k2 x3_2 true a0_0 l0_1 ((rd_T127 l0_1 x3_2).f0) ((rd_T127 l0_1 x3_2).f1) ((rd_T127 l0_1 x3_2).f2) ((rd_T127 l0_1 x3_2).f3) ((rd_T127 l0_1 x3_2).f4) ((rd_T127 l0_1 x3_2).f5)))) else (spec_CacheOK.j2 k2 x3_2 true a0_0 l0_1 ((rd_T127 l0_1 x3_2).f0) ((rd_T127 l0_1 x3_2).f1) ((rd_T127 l0_1 x3_2).f2) ((rd_T127 l0_1 x3_2).f3) ((rd_T127 l0_1 x3_2).f4) ((rd_T127 l0_1 x3_2).f5))) = some r := H
                      have A43 := Aside0.mk A430
                      clear A430
                      by_cases c44 : t116 = x3_2
                      · rw [if_pos c44] at H
                        have c44b0 : (t116 == x3_2) = true := beq_iff_eq.mpr c44
                        have c44b1 : (t116 != x3_2) = false := bne_eq_false_iff_eq.mpr c44
                        clear c44
                        replace H := Option.bind_eq_some_iff.mp H
                        obtain ⟨t117, A450, H⟩ := H
                        replace H : (if t117 = true then (if (((rd_T127 l0_1 x3_2).f5).length : Int) > 3 then (spec_CacheOK.j2 k2 x3_2 true a0_0 l0_1 ((rd_T127 l0_1 x3_2).f0) ((rd_T127 l0_1 x3_2).f1) ((rd_T127 l0_1 x3_2).f2) ((rd_T127 l0_1 x3_2).f3) ((rd_T127 l0_1 x3_2).f4) ((rd_T127 l0_1 x3_2).f5)) else ((spec_l01In.f ((rd_T127 l0_1 x3_2).f4) 0 3).bind fun t118 => (spec_CacheOK.j2 k2 x3_2 (!t118) a0_0 l0_1 ((rd_T127 l0_1 x3_2).f0) ((rd_T127 l0_1 x3_2).f1) ((rd_T127 l0_1 x3_2).f2) ((rd_T127 l0_1 x3_2).f3) ((rd_T127 l0_1 x3_2).f4) ((rd_T127 l0_1 x3_2).f5)))) else (spec_CacheOK.j2 k2 x3_2 true a0_0 l0_1 ((rd_T127 l0_1 x3_2).f0) ((rd_T127 l0_1 x3_2).f1) ((rd_T127 l0_1 x3_2).f2) ((rd_T127 l0_1 x3_2).f3) ((rd_T127 l0_1 x3_2).f4) ((rd_T127 l0_1 x3_2).f5))) = some r := H
                        have A45 := Aside0.mk A450
                        clear A450
                        by_cases c46 : t117 = true
                        · subst c46
                          have H1 : (if (((rd_T127 l0_1 x3_2).f5).length : Int) > 3 then (spec_CacheOK.j2 k2 x3_2 true a0_0 l0_1 ((rd_T127 l0_1 x3_2).f0) ((rd_T127 l0_1 x3_2).f1) ((rd_T127 l0_1 x3_2).f2) ((rd_T127 l0_1 x3_2).f3) ((rd_T127 l0_1 x3_2).f4) ((rd_T127 l0_1 x3_2).f5)) else ((spec_l01In.f ((rd_T127 l0_1 x3_2).f4) 0 3).bind fun t118 => (spec_CacheOK.j2 k2 x3_2 (!t118) a0_0 l0_1 ((rd_T127 l0_1 x3_2).f0) ((rd_T127 l0_1 x3_2).f1) ((rd_T127 l0_1 x3_2).f2) ((rd_T127 l0_1 x3_2).f3) ((rd_T127 l0_1 x3_2).f4) ((rd_T127 l0_1 x3_2).f5)))) = some r := by rw [if_pos rfl] at H; exact H
                          clear H
                          have H := H1
                          clear H1
                          by_cases c47 : (((rd_T127 l0_1 x3_2).f5).length : Int) > 3
                          · rw [if_pos c47] at H
                            have c47b0 : decide (3 < (((rd_T127 l0_1 x3_2).f5).length : Int)) = true := decide_eq_true c47
                            have c47b1 : decide (3 < ((rd_T127 l0_1 x3_2).f5).length) = true := decide_eq_true (by omega)
                            clear c47
                            have H' := Aside0.mk H
                            clear H
                            have hnb48 := NB112_109.out
                            have hnc48 := NB109_112.out
                            have hcz49_0 : w13.cell? ⟨gb112, 0, none⟩ = some (.string (⟨#[]⟩ : ByteArray)) := (blk_cell BK112.out 0).trans rfl
                            have hcz49_1 : w13.cell? ⟨gb112, 1, none⟩ = some (.string (⟨#[]⟩ : ByteArray)) := (blk_cell BK112.out 1).trans rfl
                            have hcz49_2 : w13.cell? ⟨gb112, 2, none⟩ = some (.int .i64 0) := (blk_cell BK112.out 2).trans rfl
                            have hcz49_3 : w13.cell? ⟨gb112, 3, none⟩ = some (.int .i64 0) := (blk_cell BK112.out 3).trans rfl
                            have hcz49_4 : w13.cell? ⟨gb112, 4, none⟩ = some (.int .i64 0) := (blk_cell BK112.out 4).trans rfl
                            have hcz49_5 : w13.cell? ⟨gb112, 5, none⟩ = some (.slice none 0 0) := (blk_cell BK112.out 5).trans rfl
                            have hfz49_0 := blk_frozen BK112.out 0
                            have hfz49_1 := blk_frozen BK112.out 1
                            have hfz49_2 := blk_frozen BK112.out 2
                            have hfz49_3 := blk_frozen BK112.out 3
                            have hfz49_4 := blk_frozen BK112.out 4
                            have hfz49_5 := blk_frozen BK112.out 5
                            have hcz50_0 : w13.cell? ⟨gb109, 0, none⟩ = some (.int .i64 a0_0) := (blk_cell BK109.out 0).trans rfl
                            have hcz50_1 : w13.cell? ⟨gb109, 1, none⟩ = some (.slice (some ad111) l0_1.length c0_1) := (blk_cell BK109.out 1).trans rfl
                            have hfz50_0 := blk_frozen BK109.out 0
                            have hfz50_1 := blk_frozen BK109.out 1
                            go_wp2_with (first | (go_at_call 95; (with_reducible refine (spec_l05Find.calls k2 a0_0 _ _ l0_1 ((rd_T127 l0_1 x3_2).f0) t116 _ ?side1 ?side2 A43.out).mono ?_); (case side1 => exact Kd.C_below HR0_1.out (by repeat (first | (with_reducible first | exact HB.out | apply below_alloc | apply pw_below_drewN | apply below_drew1 | refine below_set ?_ GE109.out | refine below_set ?_ GE112.out) | exact HB.out))); (case side2 => exact HC0_1.out); rintro e w51 ⟨rfl, hb⟩; have n0_ := Aside0.mk (blk_below (g := gb109) (o := .cells #[.int .i64 a0_0, .slice (some ad111) l0_1.length c0_1] 75 (0, 0)) (by (with_reducible repeat (first | refine blk_drewN ?_ _ | refine blk_drew ?_ | refine blk_alloc ?_ _)); refine blk_far ?_ NB109_112.out _; (with_reducible repeat (first | refine blk_drewN ?_ _ | refine blk_drew ?_ | refine blk_alloc ?_ _)); refine blk_far ?_ NB109_112.out _; (with_reducible repeat (first | refine blk_drewN ?_ _ | refine blk_drew ?_ | refine blk_alloc ?_ _)); refine blk_far ?_ NB109_112.out _; (with_reducible repeat (first | refine blk_drewN ?_ _ | refine blk_drew ?_ | refine blk_alloc ?_ _)); refine blk_far ?_ NB109_112.out _; (with_reducible repeat (first | refine blk_drewN ?_ _ | refine blk_drew ?_ | refine blk_alloc ?_ _)); refine blk_far ?_ NB109_112.out _; (with_reducible repeat (first | refine blk_drewN ?_ _ | refine blk_drew ?_ | refine blk_alloc ?_ _)); refine blk_far ?_ NB109_112.out _; (with_reducible repeat (first | refine blk_drewN ?_ _ | refine blk_drew ?_ | refine blk_alloc ?_ _)); exact BK109.out) hb); have n1_ := Aside0.mk (blk_below (g := gb112) (o := .cells #[.string ((rd_T127 l0_1 x3_2).f0), .string ((rd_T127 l0_1 x3_2).f1), .int .i64 ((rd_T127 l0_1 x3_2).f2), .int .i64 ((rd_T127 l0_1 x3_2).f3), .int .i64 ((rd_T127 l0_1 x3_2).f4), .slice A111_5 ((rd_T127 l0_1 x3_2).f5).length c111_5] 127 (0, 0)) (by (with_reducible repeat (first | refine blk_drewN ?_ _ | refine blk_drew ?_ | refine blk_alloc ?_ _)); refine blk_put (cs := #[.string ((rd_T127 l0_1 x3_2).f0), .string ((rd_T127 l0_1 x3_2).f1), .int .i64 ((rd_T127 l0_1 x3_2).f2), .int .i64 ((rd_T127 l0_1 x3_2).f3), .int .i64 ((rd_T127 l0_1 x3_2).f4), .slice none 0 0]) ?_ 5 _ rfl; (with_reducible repeat (first | refine blk_drewN ?_ _ | refine blk_drew ?_ | refine blk_alloc ?_ _)); refine blk_put (cs := #[.string ((rd_T127 l0_1 x3_2).f0), .string ((rd_T127 l0_1 x3_2).f1), .int .i64 ((rd_T127 l0_1 x3_2).f2), .int .i64 ((rd_T127 l0_1 x3_2).f3), .int .i64 0, .slice none 0 0]) ?_ 4 _ rfl; (with_reducible repeat (first | refine blk_drewN ?_ _ | refine blk_drew ?_ | refine blk_alloc ?_ _)); refine blk_put (cs := #[.string ((rd_T127 l0_1 x3_2).f0), .string ((rd_T127 l0_1 x3_2).f1), .int .i64 ((rd_T127 l0_1 x3_2).f2), .int .i64 0, .int .i64 0, .slice none 0 0]) ?_ 3 _ rfl; (with_reducible repeat (first | refine blk_drewN ?_ _ | refine blk_drew ?_ | refine blk_alloc ?_ _)); refine blk_put (cs := #[.string ((rd_T127 l0_1 x3_2).f0), .string ((rd_T127 l0_1 x3_2).f1), .int .i64 0, .int .i64 0, .int .i64 0, .slice none 0 0]) ?_ 2 _ rfl; (with_reducible repeat (first | refine blk_drewN ?_ _ | refine blk_drew ?_ | refine blk_alloc ?_ _)); refine blk_put (cs := #[.string ((rd_T127 l0_1 x3_2).f0), .string (⟨#[]⟩ : ByteArray), .int .i64 0, .int .i64 0, .int .i64 0, .slice none 0 0]) ?_ 1 _ rfl; (with_reducible repeat (first | refine blk_drewN ?_ _ | refine blk_drew ?_ | refine blk_alloc ?_ _)); refine blk_put (cs := #[.string (⟨#[]⟩ : ByteArray), .string (⟨#[]⟩ : ByteArray), .int .i64 0, .int .i64 0, .int .i64 0, .slice none 0 0]) ?_ 0 _ rfl; (with_reducible repeat (first | refine blk_drewN ?_ _ | refine blk_drew ?_ | refine blk_alloc ?_ _)); exact BK112.out) hb); have n2_ := Aside0.mk (below_step (by repeat (first | (with_reducible first | exact HB.out | apply below_alloc | apply pw_below_drewN | apply below_drew1 | refine below_set ?_ GE109.out | refine below_set ?_ GE112.out) | exact HB.out)) hb); clear BK109; clear BK112; clear HB; have BK109 := n0_; have BK112 := n1_; have HB := n2_; clear n0_ n1_ n2_; (try clear hb); (try clear hb2); (try clear hk); (try clear hi); have hcz52_0 : w51.cell? ⟨gb112, 0, none⟩ = some (.string ((rd_T127 l0_1 x3_2).f0)) := (blk_cell BK112.out 0).trans rfl; have hcz52_1 : w51.cell? ⟨gb112, 1, none⟩ = some (.string ((rd_T127 l0_1 x3_2).f1)) := (blk_cell BK112.out 1).trans rfl; have hcz52_2 : w51.cell? ⟨gb112, 2, none⟩ = some (.int .i64 ((rd_T127 l0_1 x3_2).f2)) := (blk_cell BK112.out 2).trans rfl; have hcz52_3 : w51.cell? ⟨gb112, 3, none⟩ = some (.int .i64 ((rd_T127 l0_1 x3_2).f3)) := (blk_cell BK112.out 3).trans rfl; have hcz52_4 : w51.cell? ⟨gb112, 4, none⟩ = some (.int .i64 ((rd_T127 l0_1 x3_2).f4)) := (blk_cell BK112.out 4).trans rfl; have hcz52_5 : w51.cell? ⟨gb112, 5, none⟩ = some (.slice A111_5 ((rd_T127 l0_1 x3_2).f5).length c111_5) := (blk_cell BK112.out 5).trans rfl; have hfz52_0 := blk_frozen BK112.out 0; have hfz52_1 := blk_frozen BK112.out 1; have hfz52_2 := blk_frozen BK112.out 2; have hfz52_3 := blk_frozen BK112.out 3; have hfz52_4 := blk_frozen BK112.out 4; have hfz52_5 := blk_frozen BK112.out 5) | (go_at_call 87; (with_reducible refine (spec_l01In.calls ((rd_T127 l0_1 x3_2).f2) 1 4 true _ A45.out).mono ?_); rintro e w' ⟨rfl, ⟨nd, rfl⟩⟩))
                            go_meet
                            case rel => exact ⟨_, (true), (by first | rfl | (simp; done) | (simp [*]; done)), H', ⟨by have := HJ1.out; have := HK2.out; first | omega | exact Nat.le_refl _⟩, ⟨by (with_reducible repeat (first | refine blk_drewN ?_ _ | refine blk_drew ?_ | refine blk_alloc ?_ _)); exact BK109.out⟩, ⟨by (with_reducible repeat (first | refine blk_drewN ?_ _ | refine blk_drew ?_ | refine blk_alloc ?_ _)); exact BK112.out⟩, ⟨by repeat (first | (with_reducible first | exact HB.out | apply below_alloc | apply pw_below_drewN | apply below_drew1 | refine below_set ?_ GE109.out | refine below_set ?_ GE112.out) | exact HB.out)⟩⟩
                          · rw [if_neg c47] at H
                            have c47b0 : decide (3 < (((rd_T127 l0_1 x3_2).f5).length : Int)) = false := decide_eq_false c47
                            have c47b1 : decide (3 < ((rd_T127 l0_1 x3_2).f5).length) = false := decide_eq_false (by omega)
                            clear c47
                            replace H := Option.bind_eq_some_iff.mp H
                            obtain ⟨t118, A530, H⟩ := H
                            replace H : (spec_CacheOK.j2 k2 x3_2 (!t118) a0_0 l0_1 ((rd_T127 l0_1 x3_2).f0) ((rd_T127 l0_1 x3_2).f1) ((rd_T127 l0_1 x3_2).f2) ((rd_T127 l0_1 x3_2).f3) ((rd_T127 l0_1 x3_2).f4) ((rd_T127 l0_1 x3_2).f5)) = some r := H
                            have A53 := Aside0.mk A530
                            clear A530
                            have H' := Aside0.mk H
                            clear H
                            have hnb54 := NB112_109.out
                            have hnc54 := NB109_112.out
                            have hcz55_0 : w13.cell? ⟨gb112, 0, none⟩ = some (.string (⟨#[]⟩ : ByteArray)) := (blk_cell BK112.out 0).trans rfl
                            have hcz55_1 : w13.cell? ⟨gb112, 1, none⟩ = some (.string (⟨#[]⟩ : ByteArray)) := (blk_cell BK112.out 1).trans rfl
                            have hcz55_2 : w13.cell? ⟨gb112, 2, none⟩ = some (.int .i64 0) := (blk_cell BK112.out 2).trans rfl
                            have hcz55_3 : w13.cell? ⟨gb112, 3, none⟩ = some (.int .i64 0) := (blk_cell BK112.out 3).trans rfl
                            have hcz55_4 : w13.cell? ⟨gb112, 4, none⟩ = some (.int .i64 0) := (blk_cell BK112.out 4).trans rfl
                            have hcz55_5 : w13.cell? ⟨gb112, 5, none⟩ = some (.slice none 0 0) := (blk_cell BK112.out 5).trans rfl
                            have hfz55_0 := blk_frozen BK112.out 0
                            have hfz55_1 := blk_frozen BK112.out 1
                            have hfz55_2 := blk_frozen BK112.out 2
                            have hfz55_3 := blk_frozen BK112.out 3
                            have hfz55_4 := blk_frozen BK112.out 4
                            have hfz55_5 := blk_frozen BK112.out 5
                            have hcz56_0 : w13.cell? ⟨gb109, 0, none⟩ = some (.int .i64 a0_0) := (blk_cell BK109.out 0).trans rfl
                            have hcz56_1 : w13.cell? ⟨gb109, 1, none⟩ = some (.slice (some ad111) l0_1.length c0_1) := (blk_cell BK109.out 1).trans rfl
                            have hfz56_0 := blk_frozen BK109.out 0
                            have hfz56_1 := blk_frozen BK109.out 1
                            go_wp2_with (first | (go_at_call 95; (with_reducible refine (spec_l05Find.calls k2 a0_0 _ _ l0_1 ((rd_T127 l0_1 x3_2).f0) t116 _ ?side1 ?side2 A43.out).mono ?_); (case side1 => exact Kd.C_below HR0_1.out (by repeat (first | (with_reducible first | exact HB.out | apply below_alloc | apply pw_below_drewN | apply below_drew1 | refine below_set ?_ GE109.out | refine below_set ?_ GE112.out) | exact HB.out))); (case side2 => exact HC0_1.out); rintro e w57 ⟨rfl, hb⟩; have n0_ := Aside0.mk (blk_below (g := gb109) (o := .cells #[.int .i64 a0_0, .slice (some ad111) l0_1.length c0_1] 75 (0, 0)) (by (with_reducible repeat (first | refine blk_drewN ?_ _ | refine blk_drew ?_ | refine blk_alloc ?_ _)); refine blk_far ?_ NB109_112.out _; (with_reducible repeat (first | refine blk_drewN ?_ _ | refine blk_drew ?_ | refine blk_alloc ?_ _)); refine blk_far ?_ NB109_112.out _; (with_reducible repeat (first | refine blk_drewN ?_ _ | refine blk_drew ?_ | refine blk_alloc ?_ _)); refine blk_far ?_ NB109_112.out _; (with_reducible repeat (first | refine blk_drewN ?_ _ | refine blk_drew ?_ | refine blk_alloc ?_ _)); refine blk_far ?_ NB109_112.out _; (with_reducible repeat (first | refine blk_drewN ?_ _ | refine blk_drew ?_ | refine blk_alloc ?_ _)); refine blk_far ?_ NB109_112.out _; (with_reducible repeat (first | refine blk_drewN ?_ _ | refine blk_drew ?_ | refine blk_alloc ?_ _)); refine blk_far ?_ NB109_112.out _; (with_reducible repeat (first | refine blk_drewN ?_ _ | refine blk_drew ?_ | refine blk_alloc ?_ _)); exact BK109.out) hb); have n1_ := Aside0.mk (blk_below (g := gb112) (o := .cells #[.string ((rd_T127 l0_1 x3_2).f0), .string ((rd_T127 l0_1 x3_2).f1), .int .i64 ((rd_T127 l0_1 x3_2).f2), .int .i64 ((rd_T127 l0_1 x3_2).f3), .int .i64 ((rd_T127 l0_1 x3_2).f4), .slice A111_5 ((rd_T127 l0_1 x3_2).f5).length c111_5] 127 (0, 0)) (by (with_reducible repeat (first | refine blk_drewN ?_ _ | refine blk_drew ?_ | refine blk_alloc ?_ _)); refine blk_put (cs := #[.string ((rd_T127 l0_1 x3_2).f0), .string ((rd_T127 l0_1 x3_2).f1), .int .i64 ((rd_T127 l0_1 x3_2).f2), .int .i64 ((rd_T127 l0_1 x3_2).f3), .int .i64 ((rd_T127 l0_1 x3_2).f4), .slice none 0 0]) ?_ 5 _ rfl; (with_reducible repeat (first | refine blk_drewN ?_ _ | refine blk_drew ?_ | refine blk_alloc ?_ _)); refine blk_put (cs := #[.string ((rd_T127 l0_1 x3_2).f0), .string ((rd_T127 l0_1 x3_2).f1), .int .i64 ((rd_T127 l0_1 x3_2).f2), .int .i64 ((rd_T127 l0_1 x3_2).f3), .int .i64 0, .slice none 0 0]) ?_ 4 _ rfl; (with_reducible repeat (first | refine blk_drewN ?_ _ | refine blk_drew ?_ | refine blk_alloc ?_ _)); refine blk_put (cs := #[.string ((rd_T127 l0_1 x3_2).f0), .string ((rd_T127 l0_1 x3_2).f1), .int .i64 ((rd_T127 l0_1 x3_2).f2), .int .i64 0, .int .i64 0, .slice none 0 0]) ?_ 3 _ rfl; (with_reducible repeat (first | refine blk_drewN ?_ _ | refine blk_drew ?_ | refine blk_alloc ?_ _)); refine blk_put (cs := #[.string ((rd_T127 l0_1 x3_2).f0), .string ((rd_T127 l0_1 x3_2).f1), .int .i64 0, .int .i64 0, .int .i64 0, .slice none 0 0]) ?_ 2 _ rfl; (with_reducible repeat (first | refine blk_drewN ?_ _ | refine blk_drew ?_ | refine blk_alloc ?_ _)); refine blk_put (cs := #[.string ((rd_T127 l0_1 x3_2).f0), .string (⟨#[]⟩ : ByteArray), .int .i64 0, .int .i64 0, .int .i64 0, .slice none 0 0]) ?_ 1 _ rfl; (with_reducible repeat (first | refine blk_drewN ?_ _ | refine blk_drew ?_ | refine blk_alloc ?_ _)); refine blk_put (cs := #[.string (⟨#[]⟩ : ByteArray), .string (⟨#[]⟩ : ByteArray), .int .i64 0, .int .i64 0, .int .i64 0, .slice none 0 0]) ?_ 0 _ rfl; (with_reducible repeat (first | refine blk_drewN ?_ _ | refine blk_drew ?_ | refine blk_alloc ?_ _)); exact BK112.out) hb); have n2_ := Aside0.mk (below_step (by repeat (first | (with_reducible first | exact HB.out | apply below_alloc | apply pw_below_drewN | apply below_drew1 | refine below_set ?_ GE109.out | refine below_set ?_ GE112.out) | exact HB.out)) hb); clear BK109; clear BK112; clear HB; have BK109 := n0_; have BK112 := n1_; have HB := n2_; clear n0_ n1_ n2_; (try clear hb); (try clear hb2); (try clear hk); (try clear hi); have hcz58_0 : w57.cell? ⟨gb112, 0, none⟩ = some (.string ((rd_T127 l0_1 x3_2).f0)) := (blk_cell BK112.out 0).trans rfl; have hcz58_1 : w57.cell? ⟨gb112, 1, none⟩ = some (.string ((rd_T127 l0_1 x3_2).f1)) := (blk_cell BK112.out 1).trans rfl; have hcz58_2 : w57.cell? ⟨gb112, 2, none⟩ = some (.int .i64 ((rd_T127 l0_1 x3_2).f2)) := (blk_cell BK112.out 2).trans rfl; have hcz58_3 : w57.cell? ⟨gb112, 3, none⟩ = some (.int .i64 ((rd_T127 l0_1 x3_2).f3)) := (blk_cell BK112.out 3).trans rfl; have hcz58_4 : w57.cell? ⟨gb112, 4, none⟩ = some (.int .i64 ((rd_T127 l0_1 x3_2).f4)) := (blk_cell BK112.out 4).trans rfl; have hcz58_5 : w57.cell? ⟨gb112, 5, none⟩ = some (.slice A111_5 ((rd_T127 l0_1 x3_2).f5).length c111_5) := (blk_cell BK112.out 5).trans rfl; have hfz58_0 := blk_frozen BK112.out 0; have hfz58_1 := blk_frozen BK112.out 1; have hfz58_2 := blk_frozen BK112.out 2; have hfz58_3 := blk_frozen BK112.out 3; have hfz58_4 := blk_frozen BK112.out 4; have hfz58_5 := blk_frozen BK112.out 5) | (go_at_call 87; (with_reducible refine (spec_l01In.calls ((rd_T127 l0_1 x3_2).f2) 1 4 true _ A45.out).mono ?_); rintro e w' ⟨rfl, ⟨nd, rfl⟩⟩) | (go_at_call 87; (with_reducible refine (spec_l01In.calls ((rd_T127 l0_1 x3_2).f4) 0 3 t118 _ A53.out).mono ?_); rintro e w' ⟨rfl, ⟨nd, rfl⟩⟩))
                            go_meet
                            case rel => exact ⟨_, (!t118), (by first | rfl | (simp; done) | (simp [*]; done)), H', ⟨by have := HJ1.out; have := HK2.out; first | omega | exact Nat.le_refl _⟩, ⟨by (with_reducible repeat (first | refine blk_drewN ?_ _ | refine blk_drew ?_ | refine blk_alloc ?_ _)); exact BK109.out⟩, ⟨by (with_reducible repeat (first | refine blk_drewN ?_ _ | refine blk_drew ?_ | refine blk_alloc ?_ _)); exact BK112.out⟩, ⟨by repeat (first | (with_reducible first | exact HB.out | apply below_alloc | apply pw_below_drewN | apply below_drew1 | refine below_set ?_ GE109.out | refine below_set ?_ GE112.out) | exact HB.out)⟩⟩
                        · replace c46 := Bool.eq_false_iff.mpr c46
                          subst c46
                          have H1 : (spec_CacheOK.j2 k2 x3_2 true a0_0 l0_1 ((rd_T127 l0_1 x3_2).f0) ((rd_T127 l0_1 x3_2).f1) ((rd_T127 l0_1 x3_2).f2) ((rd_T127 l0_1 x3_2).f3) ((rd_T127 l0_1 x3_2).f4) ((rd_T127 l0_1 x3_2).f5)) = some r := by rw [if_neg (show ¬ (false = true) by decide)] at H; exact H
                          clear H
                          have H := H1
                          clear H1
                          have H' := Aside0.mk H
                          clear H
                          have hnb59 := NB112_109.out
                          have hnc59 := NB109_112.out
                          have hcz60_0 : w13.cell? ⟨gb112, 0, none⟩ = some (.string (⟨#[]⟩ : ByteArray)) := (blk_cell BK112.out 0).trans rfl
                          have hcz60_1 : w13.cell? ⟨gb112, 1, none⟩ = some (.string (⟨#[]⟩ : ByteArray)) := (blk_cell BK112.out 1).trans rfl
                          have hcz60_2 : w13.cell? ⟨gb112, 2, none⟩ = some (.int .i64 0) := (blk_cell BK112.out 2).trans rfl
                          have hcz60_3 : w13.cell? ⟨gb112, 3, none⟩ = some (.int .i64 0) := (blk_cell BK112.out 3).trans rfl
                          have hcz60_4 : w13.cell? ⟨gb112, 4, none⟩ = some (.int .i64 0) := (blk_cell BK112.out 4).trans rfl
                          have hcz60_5 : w13.cell? ⟨gb112, 5, none⟩ = some (.slice none 0 0) := (blk_cell BK112.out 5).trans rfl
                          have hfz60_0 := blk_frozen BK112.out 0
                          have hfz60_1 := blk_frozen BK112.out 1
                          have hfz60_2 := blk_frozen BK112.out 2
                          have hfz60_3 := blk_frozen BK112.out 3
                          have hfz60_4 := blk_frozen BK112.out 4
                          have hfz60_5 := blk_frozen BK112.out 5
                          have hcz61_0 : w13.cell? ⟨gb109, 0, none⟩ = some (.int .i64 a0_0) := (blk_cell BK109.out 0).trans rfl
                          have hcz61_1 : w13.cell? ⟨gb109, 1, none⟩ = some (.slice (some ad111) l0_1.length c0_1) := (blk_cell BK109.out 1).trans rfl
                          have hfz61_0 := blk_frozen BK109.out 0
                          have hfz61_1 := blk_frozen BK109.out 1
                          go_wp2_with (first | (go_at_call 95; (with_reducible refine (spec_l05Find.calls k2 a0_0 _ _ l0_1 ((rd_T127 l0_1 x3_2).f0) t116 _ ?side1 ?side2 A43.out).mono ?_); (case side1 => exact Kd.C_below HR0_1.out (by repeat (first | (with_reducible first | exact HB.out | apply below_alloc | apply pw_below_drewN | apply below_drew1 | refine below_set ?_ GE109.out | refine below_set ?_ GE112.out) | exact HB.out))); (case side2 => exact HC0_1.out); rintro e w62 ⟨rfl, hb⟩; have n0_ := Aside0.mk (blk_below (g := gb109) (o := .cells #[.int .i64 a0_0, .slice (some ad111) l0_1.length c0_1] 75 (0, 0)) (by (with_reducible repeat (first | refine blk_drewN ?_ _ | refine blk_drew ?_ | refine blk_alloc ?_ _)); refine blk_far ?_ NB109_112.out _; (with_reducible repeat (first | refine blk_drewN ?_ _ | refine blk_drew ?_ | refine blk_alloc ?_ _)); refine blk_far ?_ NB109_112.out _; (with_reducible repeat (first | refine blk_drewN ?_ _ | refine blk_drew ?_ | refine blk_alloc ?_ _)); refine blk_far ?_ NB109_112.out _; (with_reducible repeat (first | refine blk_drewN ?_ _ | refine blk_drew ?_ | refine blk_alloc ?_ _)); refine blk_far ?_ NB109_112.out _; (with_reducible repeat (first | refine blk_drewN ?_ _ | refine blk_drew ?_ | refine blk_alloc ?_ _)); refine blk_far ?_ NB109_112.out _; (with_reducible repeat (first | refine blk_drewN ?_ _ | refine blk_drew ?_ | refine blk_alloc ?_ _)); refine blk_far ?_ NB109_112.out _; (with_reducible repeat (first | refine blk_drewN ?_ _ | refine blk_drew ?_ | refine blk_alloc ?_ _)); exact BK109.out) hb); have n1_ := Aside0.mk (blk_below (g := gb112) (o := .cells #[.string ((rd_T127 l0_1 x3_2).f0), .string ((rd_T127 l0_1 x3_2).f1), .int .i64 ((rd_T127 l0_1 x3_2).f2), .int .i64 ((rd_T127 l0_1 x3_2).f3), .int .i64 ((rd_T127 l0_1 x3_2).f4), .slice A111_5 ((rd_T127 l0_1 x3_2).f5).length c111_5] 127 (0, 0)) (by (with_reducible repeat (first | refine blk_drewN ?_ _ | refine blk_drew ?_ | refine blk_alloc ?_ _)); refine blk_put (cs := #[.string ((rd_T127 l0_1 x3_2).f0), .string ((rd_T127 l0_1 x3_2).f1), .int .i64 ((rd_T127 l0_1 x3_2).f2), .int .i64 ((rd_T127 l0_1 x3_2).f3), .int .i64 ((rd_T127 l0_1 x3_2).f4), .slice none 0 0]) ?_ 5 _ rfl; (with_reducible repeat (first | refine blk_drewN ?_ _ | refine blk_drew ?_ | refine blk_alloc ?_ _)); refine blk_put (cs := #[.string ((rd_T127 l0_1 x3_2).f0), .string ((rd_T127 l0_1 x3_2).f1), .int .i64 ((rd_T127 l0_1 x3_2).f2), .int .i64 ((rd_T127 l0_1 x3_2).f3), .int .i64 0, .slice none 0 0]) ?_ 4 _ rfl; (with_reducible repeat (first | refine blk_drewN ?_ _ | refine blk_drew ?_ | refine blk_alloc ?_ _)); refine blk_put (cs := #[.string ((rd_T127 l0_1 x3_2).f0), .string ((rd_T127 l0_1 x3_2).f1), .int .i64 ((rd_T127 l0_1 x3_2).f2), .int .i64 0, .int .i64 0, .slice none 0 0]) ?_ 3 _ rfl; (with_reducible repeat (first | refine blk_drewN ?_ _ | refine blk_drew ?_ | refine blk_alloc ?_ _)); refine blk_put (cs := #[.string ((rd_T127 l0_1 x3_2).f0), .string ((rd_T127 l0_1 x3_2).f1), .int .i64 0, .int .i64 0, .int .i64 0, .slice none 0 0]) ?_ 2 _ rfl; (with_reducible repeat (first | refine blk_drewN ?_ _ | refine blk_drew ?_ | refine blk_alloc ?_ _)); refine blk_put (cs := #[.string ((rd_T127 l0_1 x3_2).f0), .string (⟨#[]⟩ : ByteArray), .int .i64 0, .int .i64 0, .int .i64 0, .slice none 0 0]) ?_ 1 _ rfl; (with_reducible repeat (first | refine blk_drewN ?_ _ | refine blk_drew ?_ | refine blk_alloc ?_ _)); refine blk_put (cs := #[.string (⟨#[]⟩ : ByteArray), .string (⟨#[]⟩ : ByteArray), .int .i64 0, .int .i64 0, .int .i64 0, .slice none 0 0]) ?_ 0 _ rfl; (with_reducible repeat (first | refine blk_drewN ?_ _ | refine blk_drew ?_ | refine blk_alloc ?_ _)); exact BK112.out) hb); have n2_ := Aside0.mk (below_step (by repeat (first | (with_reducible first | exact HB.out | apply below_alloc | apply pw_below_drewN | apply below_drew1 | refine below_set ?_ GE109.out | refine below_set ?_ GE112.out) | exact HB.out)) hb); clear BK109; clear BK112; clear HB; have BK109 := n0_; have BK112 := n1_; have HB := n2_; clear n0_ n1_ n2_; (try clear hb); (try clear hb2); (try clear hk); (try clear hi); have hcz63_0 : w62.cell? ⟨gb112, 0, none⟩ = some (.string ((rd_T127 l0_1 x3_2).f0)) := (blk_cell BK112.out 0).trans rfl; have hcz63_1 : w62.cell? ⟨gb112, 1, none⟩ = some (.string ((rd_T127 l0_1 x3_2).f1)) := (blk_cell BK112.out 1).trans rfl; have hcz63_2 : w62.cell? ⟨gb112, 2, none⟩ = some (.int .i64 ((rd_T127 l0_1 x3_2).f2)) := (blk_cell BK112.out 2).trans rfl; have hcz63_3 : w62.cell? ⟨gb112, 3, none⟩ = some (.int .i64 ((rd_T127 l0_1 x3_2).f3)) := (blk_cell BK112.out 3).trans rfl; have hcz63_4 : w62.cell? ⟨gb112, 4, none⟩ = some (.int .i64 ((rd_T127 l0_1 x3_2).f4)) := (blk_cell BK112.out 4).trans rfl; have hcz63_5 : w62.cell? ⟨gb112, 5, none⟩ = some (.slice A111_5 ((rd_T127 l0_1 x3_2).f5).length c111_5) := (blk_cell BK112.out 5).trans rfl; have hfz63_0 := blk_frozen BK112.out 0; have hfz63_1 := blk_frozen BK112.out 1; have hfz63_2 := blk_frozen BK112.out 2; have hfz63_3 := blk_frozen BK112.out 3; have hfz63_4 := blk_frozen BK112.out 4; have hfz63_5 := blk_frozen BK112.out 5) | (go_at_call 87; (with_reducible refine (spec_l01In.calls ((rd_T127 l0_1 x3_2).f2) 1 4 false _ A45.out).mono ?_); rintro e w' ⟨rfl, ⟨nd, rfl⟩⟩))
                          go_meet
                          case rel => exact ⟨_, (true), (by first | rfl | (simp; done) | (simp [*]; done)), H', ⟨by have := HJ1.out; have := HK2.out; first | omega | exact Nat.le_refl _⟩, ⟨by (with_reducible repeat (first | refine blk_drewN ?_ _ | refine blk_drew ?_ | refine blk_alloc ?_ _)); exact BK109.out⟩, ⟨by (with_reducible repeat (first | refine blk_drewN ?_ _ | refine blk_drew ?_ | refine blk_alloc ?_ _)); exact BK112.out⟩, ⟨by repeat (first | (with_reducible first | exact HB.out | apply below_alloc | apply pw_below_drewN | apply below_drew1 | refine below_set ?_ GE109.out | refine below_set ?_ GE112.out) | exact HB.out)⟩⟩
                      · rw [if_neg c44] at H
                        have c44b0 : (t116 == x3_2) = false := beq_eq_false_iff_ne.mpr c44
                        have c44b1 : (t116 != x3_2) = true := bne_iff_ne.mpr c44
                        have H' := Aside0.mk H
                        clear H
                        have hnb64 := NB112_109.out
                        have hnc64 := NB109_112.out
                        have hcz65_0 : w13.cell? ⟨gb112, 0, none⟩ = some (.string (⟨#[]⟩ : ByteArray)) := (blk_cell BK112.out 0).trans rfl
                        have hcz65_1 : w13.cell? ⟨gb112, 1, none⟩ = some (.string (⟨#[]⟩ : ByteArray)) := (blk_cell BK112.out 1).trans rfl
                        have hcz65_2 : w13.cell? ⟨gb112, 2, none⟩ = some (.int .i64 0) := (blk_cell BK112.out 2).trans rfl
                        have hcz65_3 : w13.cell? ⟨gb112, 3, none⟩ = some (.int .i64 0) := (blk_cell BK112.out 3).trans rfl
                        have hcz65_4 : w13.cell? ⟨gb112, 4, none⟩ = some (.int .i64 0) := (blk_cell BK112.out 4).trans rfl
                        have hcz65_5 : w13.cell? ⟨gb112, 5, none⟩ = some (.slice none 0 0) := (blk_cell BK112.out 5).trans rfl
                        have hfz65_0 := blk_frozen BK112.out 0
                        have hfz65_1 := blk_frozen BK112.out 1
                        have hfz65_2 := blk_frozen BK112.out 2
                        have hfz65_3 := blk_frozen BK112.out 3
                        have hfz65_4 := blk_frozen BK112.out 4
                        have hfz65_5 := blk_frozen BK112.out 5
                        have hcz66_0 : w13.cell? ⟨gb109, 0, none⟩ = some (.int .i64 a0_0) := (blk_cell BK109.out 0).trans rfl
                        have hcz66_1 : w13.cell? ⟨gb109, 1, none⟩ = some (.slice (some ad111) l0_1.length c0_1) := (blk_cell BK109.out 1).trans rfl
                        have hfz66_0 := blk_frozen BK109.out 0
                        have hfz66_1 := blk_frozen BK109.out 1
                        go_wp2_with (first | (go_at_call 95; (with_reducible refine (spec_l05Find.calls k2 a0_0 _ _ l0_1 ((rd_T127 l0_1 x3_2).f0) t116 _ ?side1 ?side2 A43.out).mono ?_); (case side1 => exact Kd.C_below HR0_1.out (by repeat (first | (with_reducible first | exact HB.out | apply below_alloc | apply pw_below_drewN | apply below_drew1 | refine below_set ?_ GE109.out | refine below_set ?_ GE112.out) | exact HB.out))); (case side2 => exact HC0_1.out); rintro e w67 ⟨rfl, hb⟩; have n0_ := Aside0.mk (blk_below (g := gb109) (o := .cells #[.int .i64 a0_0, .slice (some ad111) l0_1.length c0_1] 75 (0, 0)) (by (with_reducible repeat (first | refine blk_drewN ?_ _ | refine blk_drew ?_ | refine blk_alloc ?_ _)); refine blk_far ?_ NB109_112.out _; (with_reducible repeat (first | refine blk_drewN ?_ _ | refine blk_drew ?_ | refine blk_alloc ?_ _)); refine blk_far ?_ NB109_112.out _; (with_reducible repeat (first | refine blk_drewN ?_ _ | refine blk_drew ?_ | refine blk_alloc ?_ _)); refine blk_far ?_ NB109_112.out _; (with_reducible repeat (first | refine blk_drewN ?_ _ | refine blk_drew ?_ | refine blk_alloc ?_ _)); refine blk_far ?_ NB109_112.out _; (with_reducible repeat (first | refine blk_drewN ?_ _ | refine blk_drew ?_ | refine blk_alloc ?_ _)); refine blk_far ?_ NB109_112.out _; (with_reducible repeat (first | refine blk_drewN ?_ _ | refine blk_drew ?_ | refine blk_alloc ?_ _)); refine blk_far ?_ NB109_112.out _; (with_reducible repeat (first | refine blk_drewN ?_ _ | refine blk_drew ?_ | refine blk_alloc ?_ _)); exact BK109.out) hb); have n1_ := Aside0.mk (blk_below (g := gb112) (o := .cells #[.string ((rd_T127 l0_1 x3_2).f0), .string ((rd_T127 l0_1 x3_2).f1), .int .i64 ((rd_T127 l0_1 x3_2).f2), .int .i64 ((rd_T127 l0_1 x3_2).f3), .int .i64 ((rd_T127 l0_1 x3_2).f4), .slice A111_5 ((rd_T127 l0_1 x3_2).f5).length c111_5] 127 (0, 0)) (by (with_reducible repeat (first | refine blk_drewN ?_ _ | refine blk_drew ?_ | refine blk_alloc ?_ _)); refine blk_put (cs := #[.string ((rd_T127 l0_1 x3_2).f0), .string ((rd_T127 l0_1 x3_2).f1), .int .i64 ((rd_T127 l0_1 x3_2).f2), .int .i64 ((rd_T127 l0_1 x3_2).f3), .int .i64 ((rd_T127 l0_1 x3_2).f4), .slice none 0 0]) ?_ 5 _ rfl; (with_reducible repeat (first | refine blk_drewN ?_ _ | refine blk_drew ?_ | refine blk_alloc ?_ _)); refine blk_put (cs := #[.string ((rd_T127 l0_1 x3_2).f0), .string ((rd_T127 l0_1 x3_2).f1), .int .i64 ((rd_T127 l0_1 x3_2).f2), .int .i64 ((rd_T127 l0_1 x3_2).f3), .int .i64 0, .slice none 0 0]) ?_ 4 _ rfl; (with_reducible repeat (first | refine blk_drewN ?_ _ | refine blk_drew ?_ | refine blk_alloc ?_ _)); refine blk_put (cs := #[.string ((rd_T127 l0_1 x3_2).f0), .string ((rd_T127 l0_1 x3_2).f1), .int .i64 ((rd_T127 l0_1 x3_2).f2), .int .i64 0, .int .i64 0, .slice none 0 0]) ?_ 3 _ rfl; (with_reducible repeat (first | refine blk_drewN ?_ _ | refine blk_drew ?_ | refine blk_alloc ?_ _)); refine blk_put (cs := #[.string ((rd_T127 l0_1 x3_2).f0), .string ((rd_T127 l0_1 x3_2).f1), .int .i64 0, .int .i64 0, .int .i64 0, .slice none 0 0]) ?_ 2 _ rfl; (with_reducible repeat (first | refine blk_drewN ?_ _ | refine blk_drew ?_ | refine blk_alloc ?_ _)); refine blk_put (cs := #[.string ((rd_T127 l0_1 x3_2).f0), .string (⟨#[]⟩ : ByteArray), .int .i64 0, .int .i64 0, .int .i64 0, .slice none 0 0]) ?_ 1 _ rfl; (with_reducible repeat (first | refine blk_drewN ?_ _ | refine blk_drew ?_ | refine blk_alloc ?_ _)); refine blk_put (cs := #[.string (⟨#[]⟩ : ByteArray), .string (⟨#[]⟩ : ByteArray), .int .i64 0, .int .i64 0, .int .i64 0, .slice none 0 0]) ?_ 0 _ rfl; (with_reducible repeat (first | refine blk_drewN ?_ _ | refine blk_drew ?_ | refine blk_alloc ?_ _)); exact BK112.out) hb); have n2_ := Aside0.mk (below_step (by repeat (first | (with_reducible first | exact HB.out | apply below_alloc | apply pw_below_drewN | apply below_drew1 | refine below_set ?_ GE109.out | refine below_set ?_ GE112.out) | exact HB.out)) hb); clear BK109; clear BK112; clear HB; have BK109 := n0_; have BK112 := n1_; have HB := n2_; clear n0_ n1_ n2_; (try clear hb); (try clear hb2); (try clear hk); (try clear hi)))
                        go_meet
                        case rel => exact ⟨_, (true), (by first | rfl | (simp; done) | (simp [*]; done)), H', ⟨by have := HJ1.out; have := HK2.out; first | omega | exact Nat.le_refl _⟩, ⟨by (with_reducible repeat (first | refine blk_drewN ?_ _ | refine blk_drew ?_ | refine blk_alloc ?_ _)); exact BK109.out⟩, ⟨by (with_reducible repeat (first | refine blk_drewN ?_ _ | refine blk_drew ?_ | refine blk_alloc ?_ _)); exact BK112.out⟩, ⟨by repeat (first | (with_reducible first | exact HB.out | apply below_alloc | apply pw_below_drewN | apply below_drew1 | refine below_set ?_ GE109.out | refine below_set ?_ GE112.out) | exact HB.out)⟩⟩
                    · rw [if_neg c42] at H
                      have c42b0 : ((((rd_T127 l0_1 x3_2).f0).size : Int) == 16) = false := beq_eq_false_iff_ne.mpr c42
                      have c42b1 : ((((rd_T127 l0_1 x3_2).f0).size : Int) != 16) = true := bne_iff_ne.mpr c42
                      have H' := Aside0.mk H
                      clear H
                      have hnb68 := NB112_109.out
                      have hnc68 := NB109_112.out
                      have hcz69_0 : w13.cell? ⟨gb112, 0, none⟩ = some (.string (⟨#[]⟩ : ByteArray)) := (blk_cell BK112.out 0).trans rfl
                      have hcz69_1 : w13.cell? ⟨gb112, 1, none⟩ = some (.string (⟨#[]⟩ : ByteArray)) := (blk_cell BK112.out 1).trans rfl
                      have hcz69_2 : w13.cell? ⟨gb112, 2, none⟩ = some (.int .i64 0) := (blk_cell BK112.out 2).trans rfl
                      have hcz69_3 : w13.cell? ⟨gb112, 3, none⟩ = some (.int .i64 0) := (blk_cell BK112.out 3).trans rfl
                      have hcz69_4 : w13.cell? ⟨gb112, 4, none⟩ = some (.int .i64 0) := (blk_cell BK112.out 4).trans rfl
                      have hcz69_5 : w13.cell? ⟨gb112, 5, none⟩ = some (.slice none 0 0) := (blk_cell BK112.out 5).trans rfl
                      have hfz69_0 := blk_frozen BK112.out 0
                      have hfz69_1 := blk_frozen BK112.out 1
                      have hfz69_2 := blk_frozen BK112.out 2
                      have hfz69_3 := blk_frozen BK112.out 3
                      have hfz69_4 := blk_frozen BK112.out 4
                      have hfz69_5 := blk_frozen BK112.out 5
                      go_wp2
                      go_meet
                      case rel => exact ⟨_, (true), (by first | rfl | (simp; done) | (simp [*]; done)), H', ⟨by have := HJ1.out; have := HK2.out; first | omega | exact Nat.le_refl _⟩, ⟨by (with_reducible repeat (first | refine blk_drewN ?_ _ | refine blk_drew ?_ | refine blk_alloc ?_ _)); refine blk_far ?_ NB109_112.out _; (with_reducible repeat (first | refine blk_drewN ?_ _ | refine blk_drew ?_ | refine blk_alloc ?_ _)); refine blk_far ?_ NB109_112.out _; (with_reducible repeat (first | refine blk_drewN ?_ _ | refine blk_drew ?_ | refine blk_alloc ?_ _)); refine blk_far ?_ NB109_112.out _; (with_reducible repeat (first | refine blk_drewN ?_ _ | refine blk_drew ?_ | refine blk_alloc ?_ _)); refine blk_far ?_ NB109_112.out _; (with_reducible repeat (first | refine blk_drewN ?_ _ | refine blk_drew ?_ | refine blk_alloc ?_ _)); refine blk_far ?_ NB109_112.out _; (with_reducible repeat (first | refine blk_drewN ?_ _ | refine blk_drew ?_ | refine blk_alloc ?_ _)); refine blk_far ?_ NB109_112.out _; (with_reducible repeat (first | refine blk_drewN ?_ _ | refine blk_drew ?_ | refine blk_alloc ?_ _)); exact BK109.out⟩, ⟨by (with_reducible repeat (first | refine blk_drewN ?_ _ | refine blk_drew ?_ | refine blk_alloc ?_ _)); refine blk_put (cs := #[.string ((rd_T127 l0_1 x3_2).f0), .string ((rd_T127 l0_1 x3_2).f1), .int .i64 ((rd_T127 l0_1 x3_2).f2), .int .i64 ((rd_T127 l0_1 x3_2).f3), .int .i64 ((rd_T127 l0_1 x3_2).f4), .slice none 0 0]) ?_ 5 _ rfl; (with_reducible repeat (first | refine blk_drewN ?_ _ | refine blk_drew ?_ | refine blk_alloc ?_ _)); refine blk_put (cs := #[.string ((rd_T127 l0_1 x3_2).f0), .string ((rd_T127 l0_1 x3_2).f1), .int .i64 ((rd_T127 l0_1 x3_2).f2), .int .i64 ((rd_T127 l0_1 x3_2).f3), .int .i64 0, .slice none 0 0]) ?_ 4 _ rfl; (with_reducible repeat (first | refine blk_drewN ?_ _ | refine blk_drew ?_ | refine blk_alloc ?_ _)); refine blk_put (cs := #[.string ((rd_T127 l0_1 x3_2).f0), .string ((rd_T127 l0_1 x3_2).f1), .int .i64 ((rd_T127 l0_1 x3_2).f2), .int .i64 0, .int .i64 0, .slice none 0 0]) ?_ 3 _ rfl; (with_reducible repeat (first | refine blk_drewN ?_ _ | refine blk_drew ?_ | refine blk_alloc ?_ _)); refine blk_put (cs := #[.string ((rd_T127 l0_1 x3_2).f0), .string ((rd_T127 l0_1 x3_2).f1), .int .i64 0, .int .i64 0, .int .i64 0, .slice none 0 0]) ?_ 2 _ rfl; (with_reducible repeat (first | refine blk_drewN ?_ _ | refine blk_drew ?_ | refine blk_alloc ?_ _)); refine blk_put (cs := #[.string ((rd_T127 l0_1 x3_2).f0), .string (⟨#[]⟩ : ByteArray), .int .i64 0, .int .i64 0, .int .i64 0, .slice none 0 0]) ?_ 1 _ rfl; (with_reducible repeat (first | refine blk_drewN ?_ _ | refine blk_drew ?_ | refine blk_alloc ?_ _)); refine blk_put (cs := #[.string (⟨#[]⟩ : ByteArray), .string (⟨#[]⟩ : ByteArray), .int .i64 0, .int .i64 0, .int .i64 0, .slice none 0 0]) ?_ 0 _ rfl; (with_reducible repeat (first | refine blk_drewN ?_ _ | refine blk_drew ?_ | refine blk_alloc ?_ _)); exact BK112.out⟩, ⟨by repeat (first | (with_reducible first | exact HB.out | apply below_alloc | apply pw_below_drewN | apply below_drew1 | refine below_set ?_ GE109.out | refine below_set ?_ GE112.out) | exact HB.out)⟩⟩
                case rest =>
                  clear HC11
                  try clear c1
                  try clear p1
                  try clear q1
                  try clear hx1
                  try clear c2
                  try clear p2
                  try clear c3
                  try clear c4
                  try clear c5
                  try clear c6
                  try clear c8
                  try clear c9
                  try clear c9b0
                  try clear c10
                  try clear c10b0
                  try clear c11
                  try clear p11
                  try clear q11
                  try clear hx11
                  try clear c14
                  try clear c16
                  try clear c16b0
                  try clear c16b1
                  try clear c18
                  try clear c18b0
                  try clear c18b1
                  try clear c20
                  try clear c21
                  try clear c21b0
                  try clear c21b1
                  try clear c22
                  try clear c28
                  try clear c33
                  try clear c38
                  try clear c42
                  try clear c42b0
                  try clear c42b1
                  try clear c44
                  try clear c44b0
                  try clear c44b1
                  try clear c46
                  try clear c47
                  try clear c47b0
                  try clear c47b1
                  try clear c48
                  try clear c54
                  try clear c59
                  try clear c64
                  try clear c68
                  try clear hcz12_0
                  try clear hcz12_1
                  try clear hcz15_0
                  try clear hcz15_1
                  try clear hcz15_2
                  try clear hcz15_3
                  try clear hcz15_4
                  try clear hcz15_5
                  try clear hcz23_0
                  try clear hcz23_1
                  try clear hcz23_2
                  try clear hcz23_3
                  try clear hcz23_4
                  try clear hcz23_5
                  try clear hcz24_0
                  try clear hcz24_1
                  try clear hcz26_0
                  try clear hcz26_1
                  try clear hcz26_2
                  try clear hcz26_3
                  try clear hcz26_4
                  try clear hcz26_5
                  try clear hcz29_0
                  try clear hcz29_1
                  try clear hcz29_2
                  try clear hcz29_3
                  try clear hcz29_4
                  try clear hcz29_5
                  try clear hcz30_0
                  try clear hcz30_1
                  try clear hcz32_0
                  try clear hcz32_1
                  try clear hcz32_2
                  try clear hcz32_3
                  try clear hcz32_4
                  try clear hcz32_5
                  try clear hcz34_0
                  try clear hcz34_1
                  try clear hcz34_2
                  try clear hcz34_3
                  try clear hcz34_4
                  try clear hcz34_5
                  try clear hcz35_0
                  try clear hcz35_1
                  try clear hcz37_0
                  try clear hcz37_1
                  try clear hcz37_2
                  try clear hcz37_3
                  try clear hcz37_4
                  try clear hcz37_5
                  try clear hcz39_0
                  try clear hcz39_1
                  try clear hcz39_2
                  try clear hcz39_3
                  try clear hcz39_4
                  try clear hcz39_5
                  try clear hcz40_0
                  try clear hcz40_1
                  try clear hcz49_0
                  try clear hcz49_1
                  try clear hcz49_2
                  try clear hcz49_3
                  try clear hcz49_4
                  try clear hcz49_5
                  try clear hcz50_0
                  try clear hcz50_1
                  try clear hcz52_0
                  try clear hcz52_1
                  try clear hcz52_2
                  try clear hcz52_3
                  try clear hcz52_4
                  try clear hcz52_5
                  try clear hcz55_0
                  try clear hcz55_1
                  try clear hcz55_2
                  try clear hcz55_3
                  try clear hcz55_4
                  try clear hcz55_5
                  try clear hcz56_0
                  try clear hcz56_1
                  try clear hcz58_0
                  try clear hcz58_1
                  try clear hcz58_2
                  try clear hcz58_3
                  try clear hcz58_4
                  try clear hcz58_5
                  try clear hcz60_0
                  try clear hcz60_1
                  try clear hcz60_2
                  try clear hcz60_3
                  try clear hcz60_4
                  try clear hcz60_5
                  try clear hcz61_0
                  try clear hcz61_1
                  try clear hcz63_0
                  try clear hcz63_1
                  try clear hcz63_2
                  try clear hcz63_3
                  try clear hcz63_4
                  try clear hcz63_5
                  try clear hcz65_0
                  try clear hcz65_1
                  try clear hcz65_2
                  try clear hcz65_3
                  try clear hcz65_4
                  try clear hcz65_5
                  try clear hcz66_0
                  try clear hcz66_1
                  try clear hcz69_0
                  try clear hcz69_1
                  try clear hcz69_2
                  try clear hcz69_3
                  try clear hcz69_4
                  try clear hcz69_5
                  try clear hcz6_0
                  try clear hcz6_1
                  try clear hcz7_0
                  try clear hcz7_1
                  try clear hfz12_0
                  try clear hfz12_1
                  try clear hfz15_0
                  try clear hfz15_1
                  try clear hfz15_2
                  try clear hfz15_3
                  try clear hfz15_4
                  try clear hfz15_5
                  try clear hfz23_0
                  try clear hfz23_1
                  try clear hfz23_2
                  try clear hfz23_3
                  try clear hfz23_4
                  try clear hfz23_5
                  try clear hfz24_0
                  try clear hfz24_1
                  try clear hfz26_0
                  try clear hfz26_1
                  try clear hfz26_2
                  try clear hfz26_3
                  try clear hfz26_4
                  try clear hfz26_5
                  try clear hfz29_0
                  try clear hfz29_1
                  try clear hfz29_2
                  try clear hfz29_3
                  try clear hfz29_4
                  try clear hfz29_5
                  try clear hfz30_0
                  try clear hfz30_1
                  try clear hfz32_0
                  try clear hfz32_1
                  try clear hfz32_2
                  try clear hfz32_3
                  try clear hfz32_4
                  try clear hfz32_5
                  try clear hfz34_0
                  try clear hfz34_1
                  try clear hfz34_2
                  try clear hfz34_3
                  try clear hfz34_4
                  try clear hfz34_5
                  try clear hfz35_0
                  try clear hfz35_1
                  try clear hfz37_0
                  try clear hfz37_1
                  try clear hfz37_2
                  try clear hfz37_3
                  try clear hfz37_4
                  try clear hfz37_5
                  try clear hfz39_0
                  try clear hfz39_1
                  try clear hfz39_2
                  try clear hfz39_3
                  try clear hfz39_4
                  try clear hfz39_5
                  try clear hfz40_0
                  try clear hfz40_1
                  try clear hfz49_0
                  try clear hfz49_1
                  try clear hfz49_2
                  try clear hfz49_3
                  try clear hfz49_4
                  try clear hfz49_5
                  try clear hfz50_0
                  try clear hfz50_1
                  try clear hfz52_0
                  try clear hfz52_1
                  try clear hfz52_2
                  try clear hfz52_3
                  try clear hfz52_4
                  try clear hfz52_5
                  try clear hfz55_0
                  try clear hfz55_1
                  try clear hfz55_2
                  try clear hfz55_3
                  try clear hfz55_4
                  try clear hfz55_5
                  try clear hfz56_0
                  try clear hfz56_1
                  try clear hfz58_0
                  try clear hfz58_1
                  try clear hfz58_2
                  try clear hfz58_3
                  try clear hfz58_4
                  try clear hfz58_5
                  try clear hfz60_0
                  try clear hfz60_1
                  try clear hfz60_2
                  try clear hfz60_3
                  try clear hfz60_4
                  try clear hfz60_5
                  try clear hfz61_0
                  try clear hfz61_1
                  try clear hfz63_0
                  try clear hfz63_1
                  try clear hfz63_2
                  try clear hfz63_3
                  try clear hfz63_4
                  try clear hfz63_5
                  try clear hfz65_0
                  try clear hfz65_1
                  try clear hfz65_2
                  try clear hfz65_3
                  try clear hfz65_4
                  try clear hfz65_5
                  try clear hfz66_0
                  try clear hfz66_1
                  try clear hfz69_0
                  try clear hfz69_1
                  try clear hfz69_2
                  try clear hfz69_3
                  try clear hfz69_4
                  try clear hfz69_5
                  try clear hfz6_0
                  try clear hfz6_1
                  try clear hfz7_0
                  try clear hfz7_1
                  try clear hx111_0
                  try clear hx111_1
                  try clear hx111_2
                  try clear hx111_3
                  try clear hx111_4
                  try clear hx111_5
                  try clear p111
                  try clear p2
                  try clear q111
                  obtain ⟨kq, x63_10, rfl, HA, HJ10, BK109, BK112, HB⟩ := hcut
                  cases kq with
                  | zero => exact absurd HA.out (by simp [spec_CacheOK.j2])
                  | succ kj10 =>
                    have H := HA.out
                    clear HA
                    simp only [spec_CacheOK.j2] at H
                    by_cases c70 : x63_10 = true
                    · subst c70
                      have H1 : (some false) = some r := by rw [if_pos rfl] at H; exact H
                      clear H
                      have H := H1
                      clear H1
                      obtain rfl := Option.some.inj H
                      go_wp2
                      go_ret
                      exact ⟨by first | rfl | (simp [errW_none, errW_some] <;> rfl) | (simp [*, errW_none, errW_some] <;> rfl), by repeat (first | (with_reducible first | exact HB.out | apply below_alloc | apply pw_below_drewN | apply below_drew1 | refine below_set ?_ GE109.out | refine below_set ?_ GE112.out) | exact HB.out)⟩
                    · replace c70 := Bool.eq_false_iff.mpr c70
                      subst c70
                      have H1 : (if ((((rd_T127 l0_1 x3_2).f2) == 1) != (((rd_T127 l0_1 x3_2).f1).toList == ([] : List UInt8))) = true then (spec_CacheOK.j3 kj10 x3_2 true a0_0 l0_1 ((rd_T127 l0_1 x3_2).f0) ((rd_T127 l0_1 x3_2).f1) ((rd_T127 l0_1 x3_2).f2) ((rd_T127 l0_1 x3_2).f3) ((rd_T127 l0_1 x3_2).f4) ((rd_T127 l0_1 x3_2).f5)) else (if ((rd_T127 l0_1 x3_2).f1).toList = ([] : List UInt8) then (if ((rd_T127 l0_1 x3_2).f2) = 1 then (spec_CacheOK.j3 kj10 x3_2 ((((rd_T127 l0_1 x3_2).f5).length : Int) == 0) a0_0 l0_1 ((rd_T127 l0_1 x3_2).f0) ((rd_T127 l0_1 x3_2).f1) ((rd_T127 l0_1 x3_2).f2) ((rd_T127 l0_1 x3_2).f3) ((rd_T127 l0_1 x3_2).f4) ((rd_T127 l0_1 x3_2).f5)) else (if (((rd_T127 l0_1 x3_2).f5).length : Int) > 0 then (spec_CacheOK.j3 kj10 x3_2 true a0_0 l0_1 ((rd_T127 l0_1 x3_2).f0) ((rd_T127 l0_1 x3_2).f1) ((rd_T127 l0_1 x3_2).f2) ((rd_T127 l0_1 x3_2).f3) ((rd_T127 l0_1 x3_2).f4) ((rd_T127 l0_1 x3_2).f5)) else (spec_CacheOK.j3 kj10 x3_2 false a0_0 l0_1 ((rd_T127 l0_1 x3_2).f0) ((rd_T127 l0_1 x3_2).f1) ((rd_T127 l0_1 x3_2).f2) ((rd_T127 l0_1 x3_2).f3) ((rd_T127 l0_1 x3_2).f4) ((rd_T127 l0_1 x3_2).f5)))) else (if (((rd_T127 l0_1 x3_2).f1).size : Int) = 6 then (if ((rd_T127 l0_1 x3_2).f2) = 1 then (spec_CacheOK.j3 kj10 x3_2 ((((rd_T127 l0_1 x3_2).f5).length : Int) == 0) a0_0 l0_1 ((rd_T127 l0_1 x3_2).f0) ((rd_T127 l0_1 x3_2).f1) ((rd_T127 l0_1 x3_2).f2) ((rd_T127 l0_1 x3_2).f3) ((rd_T127 l0_1 x3_2).f4) ((rd_T127 l0_1 x3_2).f5)) else (if (((rd_T127 l0_1 x3_2).f5).length : Int) > 0 then (spec_CacheOK.j3 kj10 x3_2 true a0_0 l0_1 ((rd_T127 l0_1 x3_2).f0) ((rd_T127 l0_1 x3_2).f1) ((rd_T127 l0_1 x3_2).f2) ((rd_T127 l0_1 x3_2).f3) ((rd_T127 l0_1 x3_2).f4) ((rd_T127 l0_1 x3_2).f5)) else (spec_CacheOK.j3 kj10 x3_2 false a0_0 l0_1 ((rd_T127 l0_1 x3_2).f0) ((rd_T127 l0_1 x3_2).f1) ((rd_T127 l0_1 x3_2).f2) ((rd_T127 l0_1 x3_2).f3) ((rd_T127 l0_1 x3_2).f4) ((rd_T127 l0_1 x3_2).f5)))) else (spec_CacheOK.j3 kj10 x3_2 true a0_0 l0_1 ((rd_T127 l0_1 x3_2).f0) ((rd_T127 l0_1 x3_2).f1) ((rd_T127 l0_1 x3_2).f2) ((rd_T127 l0_1 x3_2).f3) ((rd_T127 l0_1 x3_2).f4) ((rd_T127 l0_1 x3_2).f5))))) = some r := by rw [if_neg (show ¬ (false = true) by decide)] at H; exact H
                      clear H
                      have H := H1
                      clear H1
                      have HC71 := Aside0.mk H
                      clear H
                      go_upto_region 9 with (fail)
                      go_cut [103] (fun v103 wc => ∃ (kq : Nat) (x103_70 : Bool), v103 = .bool x103_70 ∧ Aside0 (spec_CacheOK.j3 kq x3_2 x103_70 a0_0 l0_1 ((rd_T127 l0_1 x3_2).f0) ((rd_T127 l0_1 x3_2).f1) ((rd_T127 l0_1 x3_2).f2) ((rd_T127 l0_1 x3_2).f3) ((rd_T127 l0_1 x3_2).f4) ((rd_T127 l0_1 x3_2).f5) = some r) ∧ Aside0 (kq ≤ kj10) ∧ Aside0 (wc.heap[gb109]? = some (.cells #[.int .i64 a0_0, (.slice (some ad111) l0_1.length c0_1)] 75 (0, 0))) ∧ Aside0 (wc.heap[gb112]? = some (.cells #[.string ((rd_T127 l0_1 x3_2).f0), .string ((rd_T127 l0_1 x3_2).f1), .int .i64 ((rd_T127 l0_1 x3_2).f2), .int .i64 ((rd_T127 l0_1 x3_2).f3), .int .i64 ((rd_T127 l0_1 x3_2).f4), (.slice A111_5 ((rd_T127 l0_1 x3_2).f5).length c111_5)] 127 (0, 0))) ∧ Aside0 (Below w.heap.size w wc))
                      case first =>
                        have H := HC71.out
                        clear HC71
                        by_cases c72 : ((((rd_T127 l0_1 x3_2).f2) == 1) != (((rd_T127 l0_1 x3_2).f1).toList == ([] : List UInt8))) = true
                        · rw [if_pos c72] at H
                          have c72b0 : ((((rd_T127 l0_1 x3_2).f2) == 1) != (((rd_T127 l0_1 x3_2).f1).toList == ([] : List UInt8))) = true := c72
                          (try (have c72b0e : ((((rd_T127 l0_1 x3_2).f2) == 1) != ((rd_T127 l0_1 x3_2).f1).toList.isEmpty) = true := by simp only [← (show ∀ l_ : List UInt8, (l_ == []) = l_.isEmpty from fun l_ => by cases l_ <;> rfl)]; exact c72b0))
                          (try (have c72b1 : decide ((((rd_T127 l0_1 x3_2).f2) == 1) = (((rd_T127 l0_1 x3_2).f1).toList == ([] : List UInt8))) = false := by simpa using c72))
                          (try (have c72b1e : decide ((((rd_T127 l0_1 x3_2).f2) == 1) = ((rd_T127 l0_1 x3_2).f1).toList.isEmpty) = false := by simp only [← (show ∀ l_ : List UInt8, (l_ == []) = l_.isEmpty from fun l_ => by cases l_ <;> rfl)]; exact c72b1))
                          (try (have c72b2 : ((((rd_T127 l0_1 x3_2).f2) == 1) == (((rd_T127 l0_1 x3_2).f1).toList == ([] : List UInt8))) = false := by simpa using c72))
                          (try (have c72b2e : ((((rd_T127 l0_1 x3_2).f2) == 1) == ((rd_T127 l0_1 x3_2).f1).toList.isEmpty) = false := by simp only [← (show ∀ l_ : List UInt8, (l_ == []) = l_.isEmpty from fun l_ => by cases l_ <;> rfl)]; exact c72b2))
                          (try (have c72b3 : ¬ ((((rd_T127 l0_1 x3_2).f2) == 1) = (((rd_T127 l0_1 x3_2).f1).toList == ([] : List UInt8))) := by simpa using c72))
                          (try (have c72b3e : ¬ ((((rd_T127 l0_1 x3_2).f2) == 1) = ((rd_T127 l0_1 x3_2).f1).toList.isEmpty) := by simp only [← (show ∀ l_ : List UInt8, (l_ == []) = l_.isEmpty from fun l_ => by cases l_ <;> rfl)]; exact c72b3))
                          clear c72
                          (first | rw [c72b0] | (simp only [i64_w, i32_w]; rw [c72b0]) | skip)
                          have H' := Aside0.mk H
                          clear H
                          have hnb73 := NB112_109.out
                          have hnc73 := NB109_112.out
                          have hcz74_0 : wc.cell? ⟨gb112, 0, none⟩ = some (.string ((rd_T127 l0_1 x3_2).f0)) := (blk_cell BK112.out 0).trans rfl
                          have hcz74_1 : wc.cell? ⟨gb112, 1, none⟩ = some (.string ((rd_T127 l0_1 x3_2).f1)) := (blk_cell BK112.out 1).trans rfl
                          have hcz74_2 : wc.cell? ⟨gb112, 2, none⟩ = some (.int .i64 ((rd_T127 l0_1 x3_2).f2)) := (blk_cell BK112.out 2).trans rfl
                          have hcz74_3 : wc.cell? ⟨gb112, 3, none⟩ = some (.int .i64 ((rd_T127 l0_1 x3_2).f3)) := (blk_cell BK112.out 3).trans rfl
                          have hcz74_4 : wc.cell? ⟨gb112, 4, none⟩ = some (.int .i64 ((rd_T127 l0_1 x3_2).f4)) := (blk_cell BK112.out 4).trans rfl
                          have hcz74_5 : wc.cell? ⟨gb112, 5, none⟩ = some (.slice A111_5 ((rd_T127 l0_1 x3_2).f5).length c111_5) := (blk_cell BK112.out 5).trans rfl
                          have hfz74_0 := blk_frozen BK112.out 0
                          have hfz74_1 := blk_frozen BK112.out 1
                          have hfz74_2 := blk_frozen BK112.out 2
                          have hfz74_3 := blk_frozen BK112.out 3
                          have hfz74_4 := blk_frozen BK112.out 4
                          have hfz74_5 := blk_frozen BK112.out 5
                          go_wp2
                          go_meet
                          case rel => exact ⟨_, (true), (by first | rfl | (simp; done) | (simp [*]; done) | (exfalso; rw [c75b0e, c76b0] at c72b0e; simp at c72b0e; done) | (exfalso; rw [c75b0e, c85b0] at c72b0e; simp at c72b0e; done)), H', ⟨by have := HJ1.out; have := HK2.out; have := HJ10.out; first | omega | exact Nat.le_refl _⟩, ⟨by (with_reducible repeat (first | refine blk_drewN ?_ _ | refine blk_drew ?_ | refine blk_alloc ?_ _)); exact BK109.out⟩, ⟨by (with_reducible repeat (first | refine blk_drewN ?_ _ | refine blk_drew ?_ | refine blk_alloc ?_ _)); exact BK112.out⟩, ⟨by repeat (first | (with_reducible first | exact HB.out | apply below_alloc | apply pw_below_drewN | apply below_drew1 | refine below_set ?_ GE109.out | refine below_set ?_ GE112.out) | exact HB.out)⟩⟩
                        · rw [if_neg c72] at H
                          have c72b0 : ((((rd_T127 l0_1 x3_2).f2) == 1) != (((rd_T127 l0_1 x3_2).f1).toList == ([] : List UInt8))) = false := by simpa using c72
                          (try (have c72b0e : ((((rd_T127 l0_1 x3_2).f2) == 1) != ((rd_T127 l0_1 x3_2).f1).toList.isEmpty) = false := by simp only [← (show ∀ l_ : List UInt8, (l_ == []) = l_.isEmpty from fun l_ => by cases l_ <;> rfl)]; exact c72b0))
                          (try (have c72b1 : decide ((((rd_T127 l0_1 x3_2).f2) == 1) = (((rd_T127 l0_1 x3_2).f1).toList == ([] : List UInt8))) = true := by simpa using c72))
                          (try (have c72b1e : decide ((((rd_T127 l0_1 x3_2).f2) == 1) = ((rd_T127 l0_1 x3_2).f1).toList.isEmpty) = true := by simp only [← (show ∀ l_ : List UInt8, (l_ == []) = l_.isEmpty from fun l_ => by cases l_ <;> rfl)]; exact c72b1))
                          (try (have c72b2 : ((((rd_T127 l0_1 x3_2).f2) == 1) == (((rd_T127 l0_1 x3_2).f1).toList == ([] : List UInt8))) = true := by simpa using c72))
                          (try (have c72b2e : ((((rd_T127 l0_1 x3_2).f2) == 1) == ((rd_T127 l0_1 x3_2).f1).toList.isEmpty) = true := by simp only [← (show ∀ l_ : List UInt8, (l_ == []) = l_.isEmpty from fun l_ => by cases l_ <;> rfl)]; exact c72b2))
                          clear c72
                          (first | rw [c72b0] | (simp only [i64_w, i32_w]; rw [c72b0]) | skip)
                          by_cases c75 : ((rd_T127 l0_1 x3_2).f1).toList = ([] : List UInt8)
                          · rw [if_pos c75] at H
                            have c75b0 : (((rd_T127 l0_1 x3_2).f1).toList == ([] : List UInt8)) = true := beq_iff_eq.mpr c75
                            (try (have c75b0e : ((rd_T127 l0_1 x3_2).f1).toList.isEmpty = true := by simp only [← (show ∀ l_ : List UInt8, (l_ == []) = l_.isEmpty from fun l_ => by cases l_ <;> rfl)]; exact c75b0))
                            have c75b1 : (((rd_T127 l0_1 x3_2).f1).toList != ([] : List UInt8)) = false := bne_eq_false_iff_eq.mpr c75
                            clear c75
                            by_cases c76 : ((rd_T127 l0_1 x3_2).f2) = 1
                            · rw [if_pos c76] at H
                              have c76b0 : (((rd_T127 l0_1 x3_2).f2) == 1) = true := beq_iff_eq.mpr c76
                              have c76b1 : (((rd_T127 l0_1 x3_2).f2) != 1) = false := bne_eq_false_iff_eq.mpr c76
                              clear c76
                              have H' := Aside0.mk H
                              clear H
                              have hnb77 := NB112_109.out
                              have hnc77 := NB109_112.out
                              have hcz78_0 : wc.cell? ⟨gb112, 0, none⟩ = some (.string ((rd_T127 l0_1 x3_2).f0)) := (blk_cell BK112.out 0).trans rfl
                              have hcz78_1 : wc.cell? ⟨gb112, 1, none⟩ = some (.string ((rd_T127 l0_1 x3_2).f1)) := (blk_cell BK112.out 1).trans rfl
                              have hcz78_2 : wc.cell? ⟨gb112, 2, none⟩ = some (.int .i64 ((rd_T127 l0_1 x3_2).f2)) := (blk_cell BK112.out 2).trans rfl
                              have hcz78_3 : wc.cell? ⟨gb112, 3, none⟩ = some (.int .i64 ((rd_T127 l0_1 x3_2).f3)) := (blk_cell BK112.out 3).trans rfl
                              have hcz78_4 : wc.cell? ⟨gb112, 4, none⟩ = some (.int .i64 ((rd_T127 l0_1 x3_2).f4)) := (blk_cell BK112.out 4).trans rfl
                              have hcz78_5 : wc.cell? ⟨gb112, 5, none⟩ = some (.slice A111_5 ((rd_T127 l0_1 x3_2).f5).length c111_5) := (blk_cell BK112.out 5).trans rfl
                              have hfz78_0 := blk_frozen BK112.out 0
                              have hfz78_1 := blk_frozen BK112.out 1
                              have hfz78_2 := blk_frozen BK112.out 2
                              have hfz78_3 := blk_frozen BK112.out 3
                              have hfz78_4 := blk_frozen BK112.out 4
                              have hfz78_5 := blk_frozen BK112.out 5
                              go_wp2
                              go_meet
                              case rel => exact ⟨_, (((((rd_T127 l0_1 x3_2).f5).length : Int) == 0)), (by first | rfl | (simp; done) | (simp [*]; done) | (exfalso; rw [c75b0e, c76b0] at c72b0e; simp at c72b0e; done) | (exfalso; rw [c75b0e, c85b0] at c72b0e; simp at c72b0e; done)), H', ⟨by have := HJ1.out; have := HK2.out; have := HJ10.out; first | omega | exact Nat.le_refl _⟩, ⟨by (with_reducible repeat (first | refine blk_drewN ?_ _ | refine blk_drew ?_ | refine blk_alloc ?_ _)); exact BK109.out⟩, ⟨by (with_reducible repeat (first | refine blk_drewN ?_ _ | refine blk_drew ?_ | refine blk_alloc ?_ _)); exact BK112.out⟩, ⟨by repeat (first | (with_reducible first | exact HB.out | apply below_alloc | apply pw_below_drewN | apply below_drew1 | refine below_set ?_ GE109.out | refine below_set ?_ GE112.out) | exact HB.out)⟩⟩
                            · rw [if_neg c76] at H
                              have c76b0 : (((rd_T127 l0_1 x3_2).f2) == 1) = false := beq_eq_false_iff_ne.mpr c76
                              have c76b1 : (((rd_T127 l0_1 x3_2).f2) != 1) = true := bne_iff_ne.mpr c76
                              by_cases c79 : (((rd_T127 l0_1 x3_2).f5).length : Int) > 0
                              · rw [if_pos c79] at H
                                have c79b0 : decide (0 < (((rd_T127 l0_1 x3_2).f5).length : Int)) = true := decide_eq_true c79
                                have c79b1 : decide (0 < ((rd_T127 l0_1 x3_2).f5).length) = true := decide_eq_true (by omega)
                                clear c79
                                have H' := Aside0.mk H
                                clear H
                                have hnb80 := NB112_109.out
                                have hnc80 := NB109_112.out
                                have hcz81_0 : wc.cell? ⟨gb112, 0, none⟩ = some (.string ((rd_T127 l0_1 x3_2).f0)) := (blk_cell BK112.out 0).trans rfl
                                have hcz81_1 : wc.cell? ⟨gb112, 1, none⟩ = some (.string ((rd_T127 l0_1 x3_2).f1)) := (blk_cell BK112.out 1).trans rfl
                                have hcz81_2 : wc.cell? ⟨gb112, 2, none⟩ = some (.int .i64 ((rd_T127 l0_1 x3_2).f2)) := (blk_cell BK112.out 2).trans rfl
                                have hcz81_3 : wc.cell? ⟨gb112, 3, none⟩ = some (.int .i64 ((rd_T127 l0_1 x3_2).f3)) := (blk_cell BK112.out 3).trans rfl
                                have hcz81_4 : wc.cell? ⟨gb112, 4, none⟩ = some (.int .i64 ((rd_T127 l0_1 x3_2).f4)) := (blk_cell BK112.out 4).trans rfl
                                have hcz81_5 : wc.cell? ⟨gb112, 5, none⟩ = some (.slice A111_5 ((rd_T127 l0_1 x3_2).f5).length c111_5) := (blk_cell BK112.out 5).trans rfl
                                have hfz81_0 := blk_frozen BK112.out 0
                                have hfz81_1 := blk_frozen BK112.out 1
                                have hfz81_2 := blk_frozen BK112.out 2
                                have hfz81_3 := blk_frozen BK112.out 3
                                have hfz81_4 := blk_frozen BK112.out 4
                                have hfz81_5 := blk_frozen BK112.out 5
                                go_wp2
                                go_meet
                                case rel => exact ⟨_, (true), (by first | rfl | (simp; done) | (simp [*]; done) | (exfalso; rw [c75b0e, c76b0] at c72b0e; simp at c72b0e; done) | (exfalso; rw [c75b0e, c85b0] at c72b0e; simp at c72b0e; done)), H', ⟨by have := HJ1.out; have := HK2.out; have := HJ10.out; first | omega | exact Nat.le_refl _⟩, ⟨by (with_reducible repeat (first | refine blk_drewN ?_ _ | refine blk_drew ?_ | refine blk_alloc ?_ _)); exact BK109.out⟩, ⟨by (with_reducible repeat (first | refine blk_drewN ?_ _ | refine blk_drew ?_ | refine blk_alloc ?_ _)); exact BK112.out⟩, ⟨by repeat (first | (with_reducible first | exact HB.out | apply below_alloc | apply pw_below_drewN | apply below_drew1 | refine below_set ?_ GE109.out | refine below_set ?_ GE112.out) | exact HB.out)⟩⟩
                              · rw [if_neg c79] at H
                                have c79b0 : decide (0 < (((rd_T127 l0_1 x3_2).f5).length : Int)) = false := decide_eq_false c79
                                have c79b1 : decide (0 < ((rd_T127 l0_1 x3_2).f5).length) = false := decide_eq_false (by omega)
                                clear c79
                                have H' := Aside0.mk H
                                clear H
                                have hnb82 := NB112_109.out
                                have hnc82 := NB109_112.out
                                have hcz83_0 : wc.cell? ⟨gb112, 0, none⟩ = some (.string ((rd_T127 l0_1 x3_2).f0)) := (blk_cell BK112.out 0).trans rfl
                                have hcz83_1 : wc.cell? ⟨gb112, 1, none⟩ = some (.string ((rd_T127 l0_1 x3_2).f1)) := (blk_cell BK112.out 1).trans rfl
                                have hcz83_2 : wc.cell? ⟨gb112, 2, none⟩ = some (.int .i64 ((rd_T127 l0_1 x3_2).f2)) := (blk_cell BK112.out 2).trans rfl
                                have hcz83_3 : wc.cell? ⟨gb112, 3, none⟩ = some (.int .i64 ((rd_T127 l0_1 x3_2).f3)) := (blk_cell BK112.out 3).trans rfl
                                have hcz83_4 : wc.cell? ⟨gb112, 4, none⟩ = some (.int .i64 ((rd_T127 l0_1 x3_2).f4)) := (blk_cell BK112.out 4).trans rfl
                                have hcz83_5 : wc.cell? ⟨gb112, 5, none⟩ = some (.slice A111_5 ((rd_T127 l0_1 x3_2).f5).length c111_5) := (blk_cell BK112.out 5).trans rfl
                                have hfz83_0 := blk_frozen BK112.out 0
                                have hfz83_1 := blk_frozen BK112.out 1
                                have hfz83_2 := blk_frozen BK112.out 2
                                have hfz83_3 := blk_frozen BK112.out 3
                                have hfz83_4 := blk_frozen BK112.out 4
                                have hfz83_5 := blk_frozen BK112.out 5
                                go_wp2
                                go_meet
                                case rel => exact ⟨_, (false), (by first | rfl | (simp; done) | (simp [*]; done) | (exfalso; rw [c75b0e, c76b0] at c72b0e; simp at c72b0e; done) | (exfalso; rw [c75b0e, c85b0] at c72b0e; simp at c72b0e; done)), H', ⟨by have := HJ1.out; have := HK2.out; have := HJ10.out; first | omega | exact Nat.le_refl _⟩, ⟨by (with_reducible repeat (first | refine blk_drewN ?_ _ | refine blk_drew ?_ | refine blk_alloc ?_ _)); exact BK109.out⟩, ⟨by (with_reducible repeat (first | refine blk_drewN ?_ _ | refine blk_drew ?_ | refine blk_alloc ?_ _)); exact BK112.out⟩, ⟨by repeat (first | (with_reducible first | exact HB.out | apply below_alloc | apply pw_below_drewN | apply below_drew1 | refine below_set ?_ GE109.out | refine below_set ?_ GE112.out) | exact HB.out)⟩⟩
                          · rw [if_neg c75] at H
                            have c75b0 : (((rd_T127 l0_1 x3_2).f1).toList == ([] : List UInt8)) = false := beq_eq_false_iff_ne.mpr c75
                            (try (have c75b0e : ((rd_T127 l0_1 x3_2).f1).toList.isEmpty = false := by simp only [← (show ∀ l_ : List UInt8, (l_ == []) = l_.isEmpty from fun l_ => by cases l_ <;> rfl)]; exact c75b0))
                            have c75b1 : (((rd_T127 l0_1 x3_2).f1).toList != ([] : List UInt8)) = true := bne_iff_ne.mpr c75
                            by_cases c84 : (((rd_T127 l0_1 x3_2).f1).size : Int) = 6
                            · rw [if_pos c84] at H
                              have c84b0 : ((((rd_T127 l0_1 x3_2).f1).size : Int) == 6) = true := beq_iff_eq.mpr c84
                              have c84b1 : ((((rd_T127 l0_1 x3_2).f1).size : Int) != 6) = false := bne_eq_false_iff_eq.mpr c84
                              clear c84
                              by_cases c85 : ((rd_T127 l0_1 x3_2).f2) = 1
                              · rw [if_pos c85] at H
                                have c85b0 : (((rd_T127 l0_1 x3_2).f2) == 1) = true := beq_iff_eq.mpr c85
                                have c85b1 : (((rd_T127 l0_1 x3_2).f2) != 1) = false := bne_eq_false_iff_eq.mpr c85
                                clear c85
                                have H' := Aside0.mk H
                                clear H
                                have hnb86 := NB112_109.out
                                have hnc86 := NB109_112.out
                                have hcz87_0 : wc.cell? ⟨gb112, 0, none⟩ = some (.string ((rd_T127 l0_1 x3_2).f0)) := (blk_cell BK112.out 0).trans rfl
                                have hcz87_1 : wc.cell? ⟨gb112, 1, none⟩ = some (.string ((rd_T127 l0_1 x3_2).f1)) := (blk_cell BK112.out 1).trans rfl
                                have hcz87_2 : wc.cell? ⟨gb112, 2, none⟩ = some (.int .i64 ((rd_T127 l0_1 x3_2).f2)) := (blk_cell BK112.out 2).trans rfl
                                have hcz87_3 : wc.cell? ⟨gb112, 3, none⟩ = some (.int .i64 ((rd_T127 l0_1 x3_2).f3)) := (blk_cell BK112.out 3).trans rfl
                                have hcz87_4 : wc.cell? ⟨gb112, 4, none⟩ = some (.int .i64 ((rd_T127 l0_1 x3_2).f4)) := (blk_cell BK112.out 4).trans rfl
                                have hcz87_5 : wc.cell? ⟨gb112, 5, none⟩ = some (.slice A111_5 ((rd_T127 l0_1 x3_2).f5).length c111_5) := (blk_cell BK112.out 5).trans rfl
                                have hfz87_0 := blk_frozen BK112.out 0
                                have hfz87_1 := blk_frozen BK112.out 1
                                have hfz87_2 := blk_frozen BK112.out 2
                                have hfz87_3 := blk_frozen BK112.out 3
                                have hfz87_4 := blk_frozen BK112.out 4
                                have hfz87_5 := blk_frozen BK112.out 5
                                go_wp2
                                go_meet
                                case rel => exact ⟨_, (((((rd_T127 l0_1 x3_2).f5).length : Int) == 0)), (by first | rfl | (simp; done) | (simp [*]; done) | (exfalso; rw [c75b0e, c76b0] at c72b0e; simp at c72b0e; done) | (exfalso; rw [c75b0e, c85b0] at c72b0e; simp at c72b0e; done)), H', ⟨by have := HJ1.out; have := HK2.out; have := HJ10.out; first | omega | exact Nat.le_refl _⟩, ⟨by (with_reducible repeat (first | refine blk_drewN ?_ _ | refine blk_drew ?_ | refine blk_alloc ?_ _)); exact BK109.out⟩, ⟨by (with_reducible repeat (first | refine blk_drewN ?_ _ | refine blk_drew ?_ | refine blk_alloc ?_ _)); exact BK112.out⟩, ⟨by repeat (first | (with_reducible first | exact HB.out | apply below_alloc | apply pw_below_drewN | apply below_drew1 | refine below_set ?_ GE109.out | refine below_set ?_ GE112.out) | exact HB.out)⟩⟩
                              · rw [if_neg c85] at H
                                have c85b0 : (((rd_T127 l0_1 x3_2).f2) == 1) = false := beq_eq_false_iff_ne.mpr c85
                                have c85b1 : (((rd_T127 l0_1 x3_2).f2) != 1) = true := bne_iff_ne.mpr c85
                                by_cases c88 : (((rd_T127 l0_1 x3_2).f5).length : Int) > 0
                                · rw [if_pos c88] at H
                                  have c88b0 : decide (0 < (((rd_T127 l0_1 x3_2).f5).length : Int)) = true := decide_eq_true c88
                                  have c88b1 : decide (0 < ((rd_T127 l0_1 x3_2).f5).length) = true := decide_eq_true (by omega)
                                  clear c88
                                  have H' := Aside0.mk H
                                  clear H
                                  have hnb89 := NB112_109.out
                                  have hnc89 := NB109_112.out
                                  have hcz90_0 : wc.cell? ⟨gb112, 0, none⟩ = some (.string ((rd_T127 l0_1 x3_2).f0)) := (blk_cell BK112.out 0).trans rfl
                                  have hcz90_1 : wc.cell? ⟨gb112, 1, none⟩ = some (.string ((rd_T127 l0_1 x3_2).f1)) := (blk_cell BK112.out 1).trans rfl
                                  have hcz90_2 : wc.cell? ⟨gb112, 2, none⟩ = some (.int .i64 ((rd_T127 l0_1 x3_2).f2)) := (blk_cell BK112.out 2).trans rfl
                                  have hcz90_3 : wc.cell? ⟨gb112, 3, none⟩ = some (.int .i64 ((rd_T127 l0_1 x3_2).f3)) := (blk_cell BK112.out 3).trans rfl
                                  have hcz90_4 : wc.cell? ⟨gb112, 4, none⟩ = some (.int .i64 ((rd_T127 l0_1 x3_2).f4)) := (blk_cell BK112.out 4).trans rfl
                                  have hcz90_5 : wc.cell? ⟨gb112, 5, none⟩ = some (.slice A111_5 ((rd_T127 l0_1 x3_2).f5).length c111_5) := (blk_cell BK112.out 5).trans rfl
                                  have hfz90_0 := blk_frozen BK112.out 0
                                  have hfz90_1 := blk_frozen BK112.out 1
                                  have hfz90_2 := blk_frozen BK112.out 2
                                  have hfz90_3 := blk_frozen BK112.out 3
                                  have hfz90_4 := blk_frozen BK112.out 4
                                  have hfz90_5 := blk_frozen BK112.out 5
                                  go_wp2
                                  go_meet
                                  case rel => exact ⟨_, (true), (by first | rfl | (simp; done) | (simp [*]; done) | (exfalso; rw [c75b0e, c76b0] at c72b0e; simp at c72b0e; done) | (exfalso; rw [c75b0e, c85b0] at c72b0e; simp at c72b0e; done)), H', ⟨by have := HJ1.out; have := HK2.out; have := HJ10.out; first | omega | exact Nat.le_refl _⟩, ⟨by (with_reducible repeat (first | refine blk_drewN ?_ _ | refine blk_drew ?_ | refine blk_alloc ?_ _)); exact BK109.out⟩, ⟨by (with_reducible repeat (first | refine blk_drewN ?_ _ | refine blk_drew ?_ | refine blk_alloc ?_ _)); exact BK112.out⟩, ⟨by repeat (first | (with_reducible first | exact HB.out | apply below_alloc | apply pw_below_drewN | apply below_drew1 | refine below_set ?_ GE109.out | refine below_set ?_ GE112.out) | exact HB.out)⟩⟩
                                · rw [if_neg c88] at H
                                  have c88b0 : decide (0 < (((rd_T127 l0_1 x3_2).f5).length : Int)) = false := decide_eq_false c88
                                  have c88b1 : decide (0 < ((rd_T127 l0_1 x3_2).f5).length) = false := decide_eq_false (by omega)
                                  clear c88
                                  have H' := Aside0.mk H
                                  clear H
                                  have hnb91 := NB112_109.out
                                  have hnc91 := NB109_112.out
                                  have hcz92_0 : wc.cell? ⟨gb112, 0, none⟩ = some (.string ((rd_T127 l0_1 x3_2).f0)) := (blk_cell BK112.out 0).trans rfl
                                  have hcz92_1 : wc.cell? ⟨gb112, 1, none⟩ = some (.string ((rd_T127 l0_1 x3_2).f1)) := (blk_cell BK112.out 1).trans rfl
                                  have hcz92_2 : wc.cell? ⟨gb112, 2, none⟩ = some (.int .i64 ((rd_T127 l0_1 x3_2).f2)) := (blk_cell BK112.out 2).trans rfl
                                  have hcz92_3 : wc.cell? ⟨gb112, 3, none⟩ = some (.int .i64 ((rd_T127 l0_1 x3_2).f3)) := (blk_cell BK112.out 3).trans rfl
                                  have hcz92_4 : wc.cell? ⟨gb112, 4, none⟩ = some (.int .i64 ((rd_T127 l0_1 x3_2).f4)) := (blk_cell BK112.out 4).trans rfl
                                  have hcz92_5 : wc.cell? ⟨gb112, 5, none⟩ = some (.slice A111_5 ((rd_T127 l0_1 x3_2).f5).length c111_5) := (blk_cell BK112.out 5).trans rfl
                                  have hfz92_0 := blk_frozen BK112.out 0
                                  have hfz92_1 := blk_frozen BK112.out 1
                                  have hfz92_2 := blk_frozen BK112.out 2
                                  have hfz92_3 := blk_frozen BK112.out 3
                                  have hfz92_4 := blk_frozen BK112.out 4
                                  have hfz92_5 := blk_frozen BK112.out 5
                                  go_wp2
                                  go_meet
                                  case rel => exact ⟨_, (false), (by first | rfl | (simp; done) | (simp [*]; done) | (exfalso; rw [c75b0e, c76b0] at c72b0e; simp at c72b0e; done) | (exfalso; rw [c75b0e, c85b0] at c72b0e; simp at c72b0e; done)), H', ⟨by have := HJ1.out; have := HK2.out; have := HJ10.out; first | omega | exact Nat.le_refl _⟩, ⟨by (with_reducible repeat (first | refine blk_drewN ?_ _ | refine blk_drew ?_ | refine blk_alloc ?_ _)); exact BK109.out⟩, ⟨by (with_reducible repeat (first | refine blk_drewN ?_ _ | refine blk_drew ?_ | refine blk_alloc ?_ _)); exact BK112.out⟩, ⟨by repeat (first | (with_reducible first | exact HB.out | apply below_alloc | apply pw_below_drewN | apply below_drew1 | refine below_set ?_ GE109.out | refine below_set ?_ GE112.out) | exact HB.out)⟩⟩
                            · rw [if_neg c84] at H
                              have c84b0 : ((((rd_T127 l0_1 x3_2).f1).size : Int) == 6) = false := beq_eq_false_iff_ne.mpr c84
                              have c84b1 : ((((rd_T127 l0_1 x3_2).f1).size : Int) != 6) = true := bne_iff_ne.mpr c84
                              have c84x : ¬ ((rd_T127 l0_1 x3_2).f2) = 1 := by have h_ := c72b0e; rw [c75b0e] at h_; simpa using h_
                              have c84y : (((rd_T127 l0_1 x3_2).f2) == 1) = false := beq_eq_false_iff_ne.mpr c84x
                              have H' := Aside0.mk H
                              clear H
                              have hnb93 := NB112_109.out
                              have hnc93 := NB109_112.out
                              have hcz94_0 : wc.cell? ⟨gb112, 0, none⟩ = some (.string ((rd_T127 l0_1 x3_2).f0)) := (blk_cell BK112.out 0).trans rfl
                              have hcz94_1 : wc.cell? ⟨gb112, 1, none⟩ = some (.string ((rd_T127 l0_1 x3_2).f1)) := (blk_cell BK112.out 1).trans rfl
                              have hcz94_2 : wc.cell? ⟨gb112, 2, none⟩ = some (.int .i64 ((rd_T127 l0_1 x3_2).f2)) := (blk_cell BK112.out 2).trans rfl
                              have hcz94_3 : wc.cell? ⟨gb112, 3, none⟩ = some (.int .i64 ((rd_T127 l0_1 x3_2).f3)) := (blk_cell BK112.out 3).trans rfl
                              have hcz94_4 : wc.cell? ⟨gb112, 4, none⟩ = some (.int .i64 ((rd_T127 l0_1 x3_2).f4)) := (blk_cell BK112.out 4).trans rfl
                              have hcz94_5 : wc.cell? ⟨gb112, 5, none⟩ = some (.slice A111_5 ((rd_T127 l0_1 x3_2).f5).length c111_5) := (blk_cell BK112.out 5).trans rfl
                              have hfz94_0 := blk_frozen BK112.out 0
                              have hfz94_1 := blk_frozen BK112.out 1
                              have hfz94_2 := blk_frozen BK112.out 2
                              have hfz94_3 := blk_frozen BK112.out 3
                              have hfz94_4 := blk_frozen BK112.out 4
                              have hfz94_5 := blk_frozen BK112.out 5
                              go_wp2
                              go_meet
                              case rel => exact ⟨_, (true), (by first | rfl | (simp; done) | (simp [*]; done) | (exfalso; rw [c75b0e, c76b0] at c72b0e; simp at c72b0e; done) | (exfalso; rw [c75b0e, c85b0] at c72b0e; simp at c72b0e; done)), H', ⟨by have := HJ1.out; have := HK2.out; have := HJ10.out; first | omega | exact Nat.le_refl _⟩, ⟨by (with_reducible repeat (first | refine blk_drewN ?_ _ | refine blk_drew ?_ | refine blk_alloc ?_ _)); exact BK109.out⟩, ⟨by (with_reducible repeat (first | refine blk_drewN ?_ _ | refine blk_drew ?_ | refine blk_alloc ?_ _)); exact BK112.out⟩, ⟨by repeat (first | (with_reducible first | exact HB.out | apply below_alloc | apply pw_below_drewN | apply below_drew1 | refine below_set ?_ GE109.out | refine below_set ?_ GE112.out) | exact HB.out)⟩⟩
                      case rest =>
                        clear HC71
                        try clear c1
                        try clear p1
                        try clear q1
                        try clear hx1
                        try clear c2
                        try clear p2
                        try clear c3
                        try clear c4
                        try clear c5
                        try clear c6
                        try clear c7
                        try clear c8
                        try clear c9
                        try clear c9b0
                        try clear c10
                        try clear c10b0
                        try clear c11
                        try clear p11
                        try clear q11
                        try clear hx11
                        try clear c14
                        try clear c16
                        try clear c16b0
                        try clear c16b1
                        try clear c18
                        try clear c18b0
                        try clear c18b1
                        try clear c20
                        try clear c21
                        try clear c21b0
                        try clear c21b1
                        try clear c22
                        try clear c28
                        try clear c33
                        try clear c38
                        try clear c42
                        try clear c42b0
                        try clear c42b1
                        try clear c44
                        try clear c44b0
                        try clear c44b1
                        try clear c46
                        try clear c47
                        try clear c47b0
                        try clear c47b1
                        try clear c48
                        try clear c54
                        try clear c59
                        try clear c64
                        try clear c68
                        try clear c70
                        try clear c72
                        try clear c72b0
                        try clear c72b1
                        try clear c72b2
                        try clear c73
                        try clear c75
                        try clear c75b0
                        try clear c75b1
                        try clear c76
                        try clear c76b0
                        try clear c76b1
                        try clear c77
                        try clear c79
                        try clear c79b0
                        try clear c79b1
                        try clear c80
                        try clear c82
                        try clear c84
                        try clear c84b0
                        try clear c84b1
                        try clear c85
                        try clear c85b0
                        try clear c85b1
                        try clear c86
                        try clear c88
                        try clear c88b0
                        try clear c88b1
                        try clear c89
                        try clear c91
                        try clear c93
                        try clear hcz12_0
                        try clear hcz12_1
                        try clear hcz15_0
                        try clear hcz15_1
                        try clear hcz15_2
                        try clear hcz15_3
                        try clear hcz15_4
                        try clear hcz15_5
                        try clear hcz23_0
                        try clear hcz23_1
                        try clear hcz23_2
                        try clear hcz23_3
                        try clear hcz23_4
                        try clear hcz23_5
                        try clear hcz24_0
                        try clear hcz24_1
                        try clear hcz26_0
                        try clear hcz26_1
                        try clear hcz26_2
                        try clear hcz26_3
                        try clear hcz26_4
                        try clear hcz26_5
                        try clear hcz29_0
                        try clear hcz29_1
                        try clear hcz29_2
                        try clear hcz29_3
                        try clear hcz29_4
                        try clear hcz29_5
                        try clear hcz30_0
                        try clear hcz30_1
                        try clear hcz32_0
                        try clear hcz32_1
                        try clear hcz32_2
                        try clear hcz32_3
                        try clear hcz32_4
                        try clear hcz32_5
                        try clear hcz34_0
                        try clear hcz34_1
                        try clear hcz34_2
                        try clear hcz34_3
                        try clear hcz34_4
                        try clear hcz34_5
                        try clear hcz35_0
                        try clear hcz35_1
                        try clear hcz37_0
                        try clear hcz37_1
                        try clear hcz37_2
                        try clear hcz37_3
                        try clear hcz37_4
                        try clear hcz37_5
                        try clear hcz39_0
                        try clear hcz39_1
                        try clear hcz39_2
                        try clear hcz39_3
                        try clear hcz39_4
                        try clear hcz39_5
                        try clear hcz40_0
                        try clear hcz40_1
                        try clear hcz49_0
                        try clear hcz49_1
                        try clear hcz49_2
                        try clear hcz49_3
                        try clear hcz49_4
                        try clear hcz49_5
                        try clear hcz50_0
                        try clear hcz50_1
                        try clear hcz52_0
                        try clear hcz52_1
                        try clear hcz52_2
                        try clear hcz52_3
                        try clear hcz52_4
                        try clear hcz52_5
                        try clear hcz55_0
                        try clear hcz55_1
                        try clear hcz55_2
                        try clear hcz55_3
                        try clear hcz55_4
                        try clear hcz55_5
                        try clear hcz56_0
                        try clear hcz56_1
                        try clear hcz58_0
                        try clear hcz58_1
                        try clear hcz58_2
                        try clear hcz58_3
                        try clear hcz58_4
                        try clear hcz58_5
                        try clear hcz60_0
                        try clear hcz60_1
                        try clear hcz60_2
                        try clear hcz60_3
                        try clear hcz60_4
                        try clear hcz60_5
                        try clear hcz61_0
                        try clear hcz61_1
                        try clear hcz63_0
                        try clear hcz63_1
                        try clear hcz63_2
                        try clear hcz63_3
                        try clear hcz63_4
                        try clear hcz63_5
                        try clear hcz65_0
                        try clear hcz65_1
                        try clear hcz65_2
                        try clear hcz65_3
                        try clear hcz65_4
                        try clear hcz65_5
                        try clear hcz66_0
                        try clear hcz66_1
                        try clear hcz69_0
                        try clear hcz69_1
                        try clear hcz69_2
                        try clear hcz69_3
                        try clear hcz69_4
                        try clear hcz69_5
                        try clear hcz6_0
                        try clear hcz6_1
                        try clear hcz74_0
                        try clear hcz74_1
                        try clear hcz74_2
                        try clear hcz74_3
                        try clear hcz74_4
                        try clear hcz74_5
                        try clear hcz78_0
                        try clear hcz78_1
                        try clear hcz78_2
                        try clear hcz78_3
                        try clear hcz78_4
                        try clear hcz78_5
                        try clear hcz7_0
                        try clear hcz7_1
                        try clear hcz81_0
                        try clear hcz81_1
                        try clear hcz81_2
                        try clear hcz81_3
                        try clear hcz81_4
                        try clear hcz81_5
                        try clear hcz83_0
                        try clear hcz83_1
                        try clear hcz83_2
                        try clear hcz83_3
                        try clear hcz83_4
                        try clear hcz83_5
                        try clear hcz87_0
                        try clear hcz87_1
                        try clear hcz87_2
                        try clear hcz87_3
                        try clear hcz87_4
                        try clear hcz87_5
                        try clear hcz90_0
                        try clear hcz90_1
                        try clear hcz90_2
                        try clear hcz90_3
                        try clear hcz90_4
                        try clear hcz90_5
                        try clear hcz92_0
                        try clear hcz92_1
                        try clear hcz92_2
                        try clear hcz92_3
                        try clear hcz92_4
                        try clear hcz92_5
                        try clear hcz94_0
                        try clear hcz94_1
                        try clear hcz94_2
                        try clear hcz94_3
                        try clear hcz94_4
                        try clear hcz94_5
                        try clear hfz12_0
                        try clear hfz12_1
                        try clear hfz15_0
                        try clear hfz15_1
                        try clear hfz15_2
                        try clear hfz15_3
                        try clear hfz15_4
                        try clear hfz15_5
                        try clear hfz23_0
                        try clear hfz23_1
                        try clear hfz23_2
                        try clear hfz23_3
                        try clear hfz23_4
                        try clear hfz23_5
                        try clear hfz24_0
                        try clear hfz24_1
                        try clear hfz26_0
                        try clear hfz26_1
                        try clear hfz26_2
                        try clear hfz26_3
                        try clear hfz26_4
                        try clear hfz26_5
                        try clear hfz29_0
                        try clear hfz29_1
                        try clear hfz29_2
                        try clear hfz29_3
                        try clear hfz29_4
                        try clear hfz29_5
                        try clear hfz30_0
                        try clear hfz30_1
                        try clear hfz32_0
                        try clear hfz32_1
                        try clear hfz32_2
                        try clear hfz32_3
                        try clear hfz32_4
                        try clear hfz32_5
                        try clear hfz34_0
                        try clear hfz34_1
                        try clear hfz34_2
                        try clear hfz34_3
                        try clear hfz34_4
                        try clear hfz34_5
                        try clear hfz35_0
                        try clear hfz35_1
                        try clear hfz37_0
                        try clear hfz37_1
                        try clear hfz37_2
                        try clear hfz37_3
                        try clear hfz37_4
                        try clear hfz37_5
                        try clear hfz39_0
                        try clear hfz39_1
                        try clear hfz39_2
                        try clear hfz39_3
                        try clear hfz39_4
                        try clear hfz39_5
                        try clear hfz40_0
                        try clear hfz40_1
                        try clear hfz49_0
                        try clear hfz49_1
                        try clear hfz49_2
                        try clear hfz49_3
                        try clear hfz49_4
                        try clear hfz49_5
                        try clear hfz50_0
                        try clear hfz50_1
                        try clear hfz52_0
                        try clear hfz52_1
                        try clear hfz52_2
                        try clear hfz52_3
                        try clear hfz52_4
                        try clear hfz52_5
                        try clear hfz55_0
                        try clear hfz55_1
                        try clear hfz55_2
                        try clear hfz55_3
                        try clear hfz55_4
                        try clear hfz55_5
                        try clear hfz56_0
                        try clear hfz56_1
                        try clear hfz58_0
                        try clear hfz58_1
                        try clear hfz58_2
                        try clear hfz58_3
                        try clear hfz58_4
                        try clear hfz58_5
                        try clear hfz60_0
                        try clear hfz60_1
                        try clear hfz60_2
                        try clear hfz60_3
                        try clear hfz60_4
                        try clear hfz60_5
                        try clear hfz61_0
                        try clear hfz61_1
                        try clear hfz63_0
                        try clear hfz63_1
                        try clear hfz63_2
                        try clear hfz63_3
                        try clear hfz63_4
                        try clear hfz63_5
                        try clear hfz65_0
                        try clear hfz65_1
                        try clear hfz65_2
                        try clear hfz65_3
                        try clear hfz65_4
                        try clear hfz65_5
                        try clear hfz66_0
                        try clear hfz66_1
                        try clear hfz69_0
                        try clear hfz69_1
                        try clear hfz69_2
                        try clear hfz69_3
                        try clear hfz69_4
                        try clear hfz69_5
                        try clear hfz6_0
                        try clear hfz6_1
                        try clear hfz74_0
                        try clear hfz74_1
                        try clear hfz74_2
                        try clear hfz74_3
                        try clear hfz74_4
                        try clear hfz74_5
                        try clear hfz78_0
                        try clear hfz78_1
                        try clear hfz78_2
                        try clear hfz78_3
                        try clear hfz78_4
                        try clear hfz78_5
                        try clear hfz7_0
                        try clear hfz7_1
                        try clear hfz81_0
                        try clear hfz81_1
                        try clear hfz81_2
                        try clear hfz81_3
                        try clear hfz81_4
                        try clear hfz81_5
                        try clear hfz83_0
                        try clear hfz83_1
                        try clear hfz83_2
                        try clear hfz83_3
                        try clear hfz83_4
                        try clear hfz83_5
                        try clear hfz87_0
                        try clear hfz87_1
                        try clear hfz87_2
                        try clear hfz87_3
                        try clear hfz87_4
                        try clear hfz87_5
                        try clear hfz90_0
                        try clear hfz90_1
                        try clear hfz90_2
                        try clear hfz90_3
                        try clear hfz90_4
                        try clear hfz90_5
                        try clear hfz92_0
                        try clear hfz92_1
                        try clear hfz92_2
                        try clear hfz92_3
                        try clear hfz92_4
                        try clear hfz92_5
                        try clear hfz94_0
                        try clear hfz94_1
                        try clear hfz94_2
                        try clear hfz94_3
                        try clear hfz94_4
                        try clear hfz94_5
                        try clear hx111_0
                        try clear hx111_1
                        try clear hx111_2
                        try clear hx111_3
                        try clear hx111_4
                        try clear hx111_5
                        try clear p1
                        try clear p11
                        try clear p111
                        try clear p2
                        try clear q1
                        try clear q11
                        try clear q111
                        obtain ⟨kq, x103_70, rfl, HA, HJ70, BK109, BK112, HB⟩ := hcut
                        cases kq with
                        | zero => exact absurd HA.out (by simp [spec_CacheOK.j3])
                        | succ kj70 =>
                          have H := HA.out
                          clear HA
                          simp only [spec_CacheOK.j3] at H
                          by_cases c95 : x103_70 = true
                          · subst c95
                            have H1 : (some false) = some r := by rw [if_pos rfl] at H; exact H
                            clear H
                            have H := H1
                            clear H1
                            obtain rfl := Option.some.inj H
                            go_wp2
                            go_ret
                            exact ⟨by first | rfl | (simp [errW_none, errW_some] <;> rfl) | (simp [*, errW_none, errW_some] <;> rfl), by repeat (first | (with_reducible first | exact HB.out | apply below_alloc | apply pw_below_drewN | apply below_drew1 | refine below_set ?_ GE109.out | refine below_set ?_ GE112.out) | exact HB.out)⟩
                          · replace c95 := Bool.eq_false_iff.mpr c95
                            subst c95
                            have H1 : (if ((rd_T127 l0_1 x3_2).f2) = 3 then (if ((rd_T127 l0_1 x3_2).f3) = 0 then (if ((rd_T127 l0_1 x3_2).f2) = 1 then (if (true != (decide (((rd_T127 l0_1 x3_2).f4) > 0))) = true then (some false) else (spec_CacheOK.l0 kj70 (wrap64 (x3_2 + 1)) a0_0 l0_1)) else (if ((((rd_T127 l0_1 x3_2).f2) == 4) != (decide (((rd_T127 l0_1 x3_2).f4) > 0))) = true then (some false) else (spec_CacheOK.l0 kj70 (wrap64 (x3_2 + 1)) a0_0 l0_1))) else (some false)) else ((spec_l01In.f ((rd_T127 l0_1 x3_2).f3) (wrap64 (a0_0 + 1)) (wrap64 (a0_0 + 30))).bind fun t119 => (if t119 = true then (if ((rd_T127 l0_1 x3_2).f2) = 1 then (if (true != (decide (((rd_T127 l0_1 x3_2).f4) > 0))) = true then (some false) else (spec_CacheOK.l0 kj70 (wrap64 (x3_2 + 1)) a0_0 l0_1)) else (if ((((rd_T127 l0_1 x3_2).f2) == 4) != (decide (((rd_T127 l0_1 x3_2).f4) > 0))) = true then (some false) else (spec_CacheOK.l0 kj70 (wrap64 (x3_2 + 1)) a0_0 l0_1))) else (some false)))) = some r := by rw [if_neg (show ¬ (false = true) by decide)] at H; exact H
                            clear H
                            have H := H1
                            clear H1
                            by_cases c96 : ((rd_T127 l0_1 x3_2).f2) = 3
                            · rw [if_pos c96] at H
                              have c96b0 : (((rd_T127 l0_1 x3_2).f2) == 3) = true := beq_iff_eq.mpr c96
                              have c96b1 : (((rd_T127 l0_1 x3_2).f2) != 3) = false := bne_eq_false_iff_eq.mpr c96
                              clear c96
                              by_cases c97 : ((rd_T127 l0_1 x3_2).f3) = 0
                              · rw [if_pos c97] at H
                                have c97b0 : (((rd_T127 l0_1 x3_2).f3) == 0) = true := beq_iff_eq.mpr c97
                                have c97b1 : (((rd_T127 l0_1 x3_2).f3) != 0) = false := bne_eq_false_iff_eq.mpr c97
                                clear c97
                                by_cases c98 : ((rd_T127 l0_1 x3_2).f2) = 1
                                · rw [if_pos c98] at H
                                  have c98b0 : (((rd_T127 l0_1 x3_2).f2) == 1) = true := beq_iff_eq.mpr c98
                                  have c98b1 : (((rd_T127 l0_1 x3_2).f2) != 1) = false := bne_eq_false_iff_eq.mpr c98
                                  clear c98
                                  by_cases c99 : (true != (decide (((rd_T127 l0_1 x3_2).f4) > 0))) = true
                                  · rw [if_pos c99] at H
                                    have c99b0 : (true != (decide (((rd_T127 l0_1 x3_2).f4) > 0))) = true := c99
                                    (try (have c99b1 : decide (true = (decide (((rd_T127 l0_1 x3_2).f4) > 0))) = false := by simpa using c99))
                                    (try (have c99b2 : (true == (decide (((rd_T127 l0_1 x3_2).f4) > 0))) = false := by simpa using c99))
                                    (try (have c99b3 : ¬ (true = (decide (((rd_T127 l0_1 x3_2).f4) > 0))) := by simpa using c99))
                                    clear c99
                                    obtain rfl := Option.some.inj H
                                    have hnb100 := NB112_109.out
                                    have hnc100 := NB109_112.out
                                    have hcz101_0 : wc.cell? ⟨gb112, 0, none⟩ = some (.string ((rd_T127 l0_1 x3_2).f0)) := (blk_cell BK112.out 0).trans rfl
                                    have hcz101_1 : wc.cell? ⟨gb112, 1, none⟩ = some (.string ((rd_T127 l0_1 x3_2).f1)) := (blk_cell BK112.out 1).trans rfl
                                    have hcz101_2 : wc.cell? ⟨gb112, 2, none⟩ = some (.int .i64 ((rd_T127 l0_1 x3_2).f2)) := (blk_cell BK112.out 2).trans rfl
                                    have hcz101_3 : wc.cell? ⟨gb112, 3, none⟩ = some (.int .i64 ((rd_T127 l0_1 x3_2).f3)) := (blk_cell BK112.out 3).trans rfl
                                    have hcz101_4 : wc.cell? ⟨gb112, 4, none⟩ = some (.int .i64 ((rd_T127 l0_1 x3_2).f4)) := (blk_cell BK112.out 4).trans rfl
                                    have hcz101_5 : wc.cell? ⟨gb112, 5, none⟩ = some (.slice A111_5 ((rd_T127 l0_1 x3_2).f5).length c111_5) := (blk_cell BK112.out 5).trans rfl
                                    have hfz101_0 := blk_frozen BK112.out 0
                                    have hfz101_1 := blk_frozen BK112.out 1
                                    have hfz101_2 := blk_frozen BK112.out 2
                                    have hfz101_3 := blk_frozen BK112.out 3
                                    have hfz101_4 := blk_frozen BK112.out 4
                                    have hfz101_5 := blk_frozen BK112.out 5
                                    go_wp2
                                    go_ret
                                    exact ⟨by first | rfl | (simp [errW_none, errW_some] <;> rfl) | (simp [*, errW_none, errW_some] <;> rfl), by repeat (first | (with_reducible first | exact HB.out | apply below_alloc | apply pw_below_drewN | apply below_drew1 | refine below_set ?_ GE109.out | refine below_set ?_ GE112.out) | exact HB.out)⟩
                                  · rw [if_neg c99] at H
                                    have c99b0 : (true != (decide (((rd_T127 l0_1 x3_2).f4) > 0))) = false := by simpa using c99
                                    (try (have c99b1 : decide (true = (decide (((rd_T127 l0_1 x3_2).f4) > 0))) = true := by simpa using c99))
                                    (try (have c99b2 : (true == (decide (((rd_T127 l0_1 x3_2).f4) > 0))) = true := by simpa using c99))
                                    clear c99
                                    have H' := Aside0.mk H
                                    clear H
                                    have hnb102 := NB112_109.out
                                    have hnc102 := NB109_112.out
                                    have hcz103_0 : wc.cell? ⟨gb112, 0, none⟩ = some (.string ((rd_T127 l0_1 x3_2).f0)) := (blk_cell BK112.out 0).trans rfl
                                    have hcz103_1 : wc.cell? ⟨gb112, 1, none⟩ = some (.string ((rd_T127 l0_1 x3_2).f1)) := (blk_cell BK112.out 1).trans rfl
                                    have hcz103_2 : wc.cell? ⟨gb112, 2, none⟩ = some (.int .i64 ((rd_T127 l0_1 x3_2).f2)) := (blk_cell BK112.out 2).trans rfl
                                    have hcz103_3 : wc.cell? ⟨gb112, 3, none⟩ = some (.int .i64 ((rd_T127 l0_1 x3_2).f3)) := (blk_cell BK112.out 3).trans rfl
                                    have hcz103_4 : wc.cell? ⟨gb112, 4, none⟩ = some (.int .i64 ((rd_T127 l0_1 x3_2).f4)) := (blk_cell BK112.out 4).trans rfl
                                    have hcz103_5 : wc.cell? ⟨gb112, 5, none⟩ = some (.slice A111_5 ((rd_T127 l0_1 x3_2).f5).length c111_5) := (blk_cell BK112.out 5).trans rfl
                                    have hfz103_0 := blk_frozen BK112.out 0
                                    have hfz103_1 := blk_frozen BK112.out 1
                                    have hfz103_2 := blk_frozen BK112.out 2
                                    have hfz103_3 := blk_frozen BK112.out 3
                                    have hfz103_4 := blk_frozen BK112.out 4
                                    have hfz103_5 := blk_frozen BK112.out 5
                                    go_wp2
                                    go_roundg kj70
                                    case measure => have := HJ1.out; have := HK2.out; have := HJ10.out; have := HJ70.out; omega
                                    case rel => exact ⟨(wrap64 (x3_2 + 1)), (by first | rfl | (simp; done) | (simp [*]; done)), H', ⟨by have := HJ1.out; have := HK2.out; have := HJ10.out; have := HJ70.out; omega⟩, ⟨by (with_reducible repeat (first | refine blk_drewN ?_ _ | refine blk_drew ?_ | refine blk_alloc ?_ _)); exact BK109.out⟩, ⟨by repeat (first | (with_reducible first | exact HB.out | apply below_alloc | apply pw_below_drewN | apply below_drew1 | refine below_set ?_ GE109.out | refine below_set ?_ GE112.out) | exact HB.out)⟩⟩
                                · rw [if_neg c98] at H
                                  have c98b0 : (((rd_T127 l0_1 x3_2).f2) == 1) = false := beq_eq_false_iff_ne.mpr c98
                                  have c98b1 : (((rd_T127 l0_1 x3_2).f2) != 1) = true := bne_iff_ne.mpr c98
                                  by_cases c104 : ((((rd_T127 l0_1 x3_2).f2) == 4) != (decide (((rd_T127 l0_1 x3_2).f4) > 0))) = true
                                  · rw [if_pos c104] at H
                                    have c104b0 : ((((rd_T127 l0_1 x3_2).f2) == 4) != (decide (((rd_T127 l0_1 x3_2).f4) > 0))) = true := c104
                                    (try (have c104b1 : decide ((((rd_T127 l0_1 x3_2).f2) == 4) = (decide (((rd_T127 l0_1 x3_2).f4) > 0))) = false := by simpa using c104))
                                    (try (have c104b2 : ((((rd_T127 l0_1 x3_2).f2) == 4) == (decide (((rd_T127 l0_1 x3_2).f4) > 0))) = false := by simpa using c104))
                                    (try (have c104b3 : ¬ ((((rd_T127 l0_1 x3_2).f2) == 4) = (decide (((rd_T127 l0_1 x3_2).f4) > 0))) := by simpa using c104))
                                    clear c104
                                    obtain rfl := Option.some.inj H
                                    have hnb105 := NB112_109.out
                                    have hnc105 := NB109_112.out
                                    have hcz106_0 : wc.cell? ⟨gb112, 0, none⟩ = some (.string ((rd_T127 l0_1 x3_2).f0)) := (blk_cell BK112.out 0).trans rfl
                                    have hcz106_1 : wc.cell? ⟨gb112, 1, none⟩ = some (.string ((rd_T127 l0_1 x3_2).f1)) := (blk_cell BK112.out 1).trans rfl
                                    have hcz106_2 : wc.cell? ⟨gb112, 2, none⟩ = some (.int .i64 ((rd_T127 l0_1 x3_2).f2)) := (blk_cell BK112.out 2).trans rfl
                                    have hcz106_3 : wc.cell? ⟨gb112, 3, none⟩ = some (.int .i64 ((rd_T127 l0_1 x3_2).f3)) := (blk_cell BK112.out 3).trans rfl
                                    have hcz106_4 : wc.cell? ⟨gb112, 4, none⟩ = some (.int .i64 ((rd_T127 l0_1 x3_2).f4)) := (blk_cell BK112.out 4).trans rfl
                                    have hcz106_5 : wc.cell? ⟨gb112, 5, none⟩ = some (.slice A111_5 ((rd_T127 l0_1 x3_2).f5).length c111_5) := (blk_cell BK112.out 5).trans rfl
                                    have hfz106_0 := blk_frozen BK112.out 0
                                    have hfz106_1 := blk_frozen BK112.out 1
                                    have hfz106_2 := blk_frozen BK112.out 2
                                    have hfz106_3 := blk_frozen BK112.out 3
                                    have hfz106_4 := blk_frozen BK112.out 4
                                    have hfz106_5 := blk_frozen BK112.out 5
                                    go_wp2
                                    go_ret
                                    exact ⟨by first | rfl | (simp [errW_none, errW_some] <;> rfl) | (simp [*, errW_none, errW_some] <;> rfl), by repeat (first | (with_reducible first | exact HB.out | apply below_alloc | apply pw_below_drewN | apply below_drew1 | refine below_set ?_ GE109.out | refine below_set ?_ GE112.out) | exact HB.out)⟩
                                  · rw [if_neg c104] at H
                                    have c104b0 : ((((rd_T127 l0_1 x3_2).f2) == 4) != (decide (((rd_T127 l0_1 x3_2).f4) > 0))) = false := by simpa using c104
                                    (try (have c104b1 : decide ((((rd_T127 l0_1 x3_2).f2) == 4) = (decide (((rd_T127 l0_1 x3_2).f4) > 0))) = true := by simpa using c104))
                                    (try (have c104b2 : ((((rd_T127 l0_1 x3_2).f2) == 4) == (decide (((rd_T127 l0_1 x3_2).f4) > 0))) = true := by simpa using c104))
                                    clear c104
                                    have H' := Aside0.mk H
                                    clear H
                                    have hnb107 := NB112_109.out
                                    have hnc107 := NB109_112.out
                                    have hcz108_0 : wc.cell? ⟨gb112, 0, none⟩ = some (.string ((rd_T127 l0_1 x3_2).f0)) := (blk_cell BK112.out 0).trans rfl
                                    have hcz108_1 : wc.cell? ⟨gb112, 1, none⟩ = some (.string ((rd_T127 l0_1 x3_2).f1)) := (blk_cell BK112.out 1).trans rfl
                                    have hcz108_2 : wc.cell? ⟨gb112, 2, none⟩ = some (.int .i64 ((rd_T127 l0_1 x3_2).f2)) := (blk_cell BK112.out 2).trans rfl
                                    have hcz108_3 : wc.cell? ⟨gb112, 3, none⟩ = some (.int .i64 ((rd_T127 l0_1 x3_2).f3)) := (blk_cell BK112.out 3).trans rfl
                                    have hcz108_4 : wc.cell? ⟨gb112, 4, none⟩ = some (.int .i64 ((rd_T127 l0_1 x3_2).f4)) := (blk_cell BK112.out 4).trans rfl
                                    have hcz108_5 : wc.cell? ⟨gb112, 5, none⟩ = some (.slice A111_5 ((rd_T127 l0_1 x3_2).f5).length c111_5) := (blk_cell BK112.out 5).trans rfl
                                    have hfz108_0 := blk_frozen BK112.out 0
                                    have hfz108_1 := blk_frozen BK112.out 1
                                    have hfz108_2 := blk_frozen BK112.out 2
                                    have hfz108_3 := blk_frozen BK112.out 3
                                    have hfz108_4 := blk_frozen BK112.out 4
                                    have hfz108_5 := blk_frozen BK112.out 5
                                    go_wp2
                                    go_roundg kj70
                                    case measure => have := HJ1.out; have := HK2.out; have := HJ10.out; have := HJ70.out; omega
                                    case rel => exact ⟨(wrap64 (x3_2 + 1)), (by first | rfl | (simp; done) | (simp [*]; done)), H', ⟨by have := HJ1.out; have := HK2.out; have := HJ10.out; have := HJ70.out; omega⟩, ⟨by (with_reducible repeat (first | refine blk_drewN ?_ _ | refine blk_drew ?_ | refine blk_alloc ?_ _)); exact BK109.out⟩, ⟨by repeat (first | (with_reducible first | exact HB.out | apply below_alloc | apply pw_below_drewN | apply below_drew1 | refine below_set ?_ GE109.out | refine below_set ?_ GE112.out) | exact HB.out)⟩⟩
                              · rw [if_neg c97] at H
                                have c97b0 : (((rd_T127 l0_1 x3_2).f3) == 0) = false := beq_eq_false_iff_ne.mpr c97
                                have c97b1 : (((rd_T127 l0_1 x3_2).f3) != 0) = true := bne_iff_ne.mpr c97
                                obtain rfl := Option.some.inj H
                                have hnb109 := NB112_109.out
                                have hnc109 := NB109_112.out
                                have hcz110_0 : wc.cell? ⟨gb112, 0, none⟩ = some (.string ((rd_T127 l0_1 x3_2).f0)) := (blk_cell BK112.out 0).trans rfl
                                have hcz110_1 : wc.cell? ⟨gb112, 1, none⟩ = some (.string ((rd_T127 l0_1 x3_2).f1)) := (blk_cell BK112.out 1).trans rfl
                                have hcz110_2 : wc.cell? ⟨gb112, 2, none⟩ = some (.int .i64 ((rd_T127 l0_1 x3_2).f2)) := (blk_cell BK112.out 2).trans rfl
                                have hcz110_3 : wc.cell? ⟨gb112, 3, none⟩ = some (.int .i64 ((rd_T127 l0_1 x3_2).f3)) := (blk_cell BK112.out 3).trans rfl
                                have hcz110_4 : wc.cell? ⟨gb112, 4, none⟩ = some (.int .i64 ((rd_T127 l0_1 x3_2).f4)) := (blk_cell BK112.out 4).trans rfl
                                have hcz110_5 : wc.cell? ⟨gb112, 5, none⟩ = some (.slice A111_5 ((rd_T127 l0_1 x3_2).f5).length c111_5) := (blk_cell BK112.out 5).trans rfl
                                have hfz110_0 := blk_frozen BK112.out 0
                                have hfz110_1 := blk_frozen BK112.out 1
                                have hfz110_2 := blk_frozen BK112.out 2
                                have hfz110_3 := blk_frozen BK112.out 3
                                have hfz110_4 := blk_frozen BK112.out 4
                                have hfz110_5 := blk_frozen BK112.out 5
                                go_wp2
                                go_ret
                                exact ⟨by first | rfl | (simp [errW_none, errW_some] <;> rfl) | (simp [*, errW_none, errW_some] <;> rfl), by repeat (first | (with_reducible first | exact HB.out | apply below_alloc | apply pw_below_drewN | apply below_drew1 | refine below_set ?_ GE109.out | refine below_set ?_ GE112.out) | exact HB.out)⟩
                            · rw [if_neg c96] at H
                              have c96b0 : (((rd_T127 l0_1 x3_2).f2) == 3) = false := beq_eq_false_iff_ne.mpr c96
                              have c96b1 : (((rd_T127 l0_1 x3_2).f2) != 3) = true := bne_iff_ne.mpr c96
                              replace H := Option.bind_eq_some_iff.mp H
                              obtain ⟨t119, A1110, H⟩ := H
                              replace H : (if t119 = true then (if ((rd_T127 l0_1 x3_2).f2) = 1 then (if (true != (decide (((rd_T127 l0_1 x3_2).f4) > 0))) = true then (some false) else (spec_CacheOK.l0 kj70 (wrap64 (x3_2 + 1)) a0_0 l0_1)) else (if ((((rd_T127 l0_1 x3_2).f2) == 4) != (decide (((rd_T127 l0_1 x3_2).f4) > 0))) = true then (some false) else (spec_CacheOK.l0 kj70 (wrap64 (x3_2 + 1)) a0_0 l0_1))) else (some false)) = some r := H
                              have A111 := Aside0.mk A1110
                              clear A1110
                              by_cases c112 : t119 = true
                              · subst c112
                                have H1 : (if ((rd_T127 l0_1 x3_2).f2) = 1 then (if (true != (decide (((rd_T127 l0_1 x3_2).f4) > 0))) = true then (some false) else (spec_CacheOK.l0 kj70 (wrap64 (x3_2 + 1)) a0_0 l0_1)) else (if ((((rd_T127 l0_1 x3_2).f2) == 4) != (decide (((rd_T127 l0_1 x3_2).f4) > 0))) = true then (some false) else (spec_CacheOK.l0 kj70 (wrap64 (x3_2 + 1)) a0_0 l0_1))) = some r := by rw [if_pos rfl] at H; exact H
                                clear H
                                have H := H1
                                clear H1
                                by_cases c113 : ((rd_T127 l0_1 x3_2).f2) = 1
                                · rw [if_pos c113] at H
                                  have c113b0 : (((rd_T127 l0_1 x3_2).f2) == 1) = true := beq_iff_eq.mpr c113
                                  have c113b1 : (((rd_T127 l0_1 x3_2).f2) != 1) = false := bne_eq_false_iff_eq.mpr c113
                                  clear c113
                                  by_cases c114 : (true != (decide (((rd_T127 l0_1 x3_2).f4) > 0))) = true
                                  · rw [if_pos c114] at H
                                    have c114b0 : (true != (decide (((rd_T127 l0_1 x3_2).f4) > 0))) = true := c114
                                    (try (have c114b1 : decide (true = (decide (((rd_T127 l0_1 x3_2).f4) > 0))) = false := by simpa using c114))
                                    (try (have c114b2 : (true == (decide (((rd_T127 l0_1 x3_2).f4) > 0))) = false := by simpa using c114))
                                    (try (have c114b3 : ¬ (true = (decide (((rd_T127 l0_1 x3_2).f4) > 0))) := by simpa using c114))
                                    clear c114
                                    obtain rfl := Option.some.inj H
                                    have hnb115 := NB112_109.out
                                    have hnc115 := NB109_112.out
                                    have hcz116_0 : wc.cell? ⟨gb112, 0, none⟩ = some (.string ((rd_T127 l0_1 x3_2).f0)) := (blk_cell BK112.out 0).trans rfl
                                    have hcz116_1 : wc.cell? ⟨gb112, 1, none⟩ = some (.string ((rd_T127 l0_1 x3_2).f1)) := (blk_cell BK112.out 1).trans rfl
                                    have hcz116_2 : wc.cell? ⟨gb112, 2, none⟩ = some (.int .i64 ((rd_T127 l0_1 x3_2).f2)) := (blk_cell BK112.out 2).trans rfl
                                    have hcz116_3 : wc.cell? ⟨gb112, 3, none⟩ = some (.int .i64 ((rd_T127 l0_1 x3_2).f3)) := (blk_cell BK112.out 3).trans rfl
                                    have hcz116_4 : wc.cell? ⟨gb112, 4, none⟩ = some (.int .i64 ((rd_T127 l0_1 x3_2).f4)) := (blk_cell BK112.out 4).trans rfl
                                    have hcz116_5 : wc.cell? ⟨gb112, 5, none⟩ = some (.slice A111_5 ((rd_T127 l0_1 x3_2).f5).length c111_5) := (blk_cell BK112.out 5).trans rfl
                                    have hfz116_0 := blk_frozen BK112.out 0
                                    have hfz116_1 := blk_frozen BK112.out 1
                                    have hfz116_2 := blk_frozen BK112.out 2
                                    have hfz116_3 := blk_frozen BK112.out 3
                                    have hfz116_4 := blk_frozen BK112.out 4
                                    have hfz116_5 := blk_frozen BK112.out 5
                                    have hcz117_0 : wc.cell? ⟨gb109, 0, none⟩ = some (.int .i64 a0_0) := (blk_cell BK109.out 0).trans rfl
                                    have hcz117_1 : wc.cell? ⟨gb109, 1, none⟩ = some (.slice (some ad111) l0_1.length c0_1) := (blk_cell BK109.out 1).trans rfl
                                    have hfz117_0 := blk_frozen BK109.out 0
                                    have hfz117_1 := blk_frozen BK109.out 1
                                    go_wp2_with (first | (go_at_call 87; (with_reducible refine (spec_l01In.calls ((rd_T127 l0_1 x3_2).f3) (wrap64 (a0_0 + 1)) (wrap64 (a0_0 + 30)) true _ A111.out).mono ?_); rintro e w' ⟨rfl, ⟨nd, rfl⟩⟩))
                                    go_ret
                                    exact ⟨by first | rfl | (simp [errW_none, errW_some] <;> rfl) | (simp [*, errW_none, errW_some] <;> rfl), by repeat (first | (with_reducible first | exact HB.out | apply below_alloc | apply pw_below_drewN | apply below_drew1 | refine below_set ?_ GE109.out | refine below_set ?_ GE112.out) | exact HB.out)⟩
                                  · rw [if_neg c114] at H
                                    have c114b0 : (true != (decide (((rd_T127 l0_1 x3_2).f4) > 0))) = false := by simpa using c114
                                    (try (have c114b1 : decide (true = (decide (((rd_T127 l0_1 x3_2).f4) > 0))) = true := by simpa using c114))
                                    (try (have c114b2 : (true == (decide (((rd_T127 l0_1 x3_2).f4) > 0))) = true := by simpa using c114))
                                    clear c114
                                    have H' := Aside0.mk H
                                    clear H
                                    have hnb118 := NB112_109.out
                                    have hnc118 := NB109_112.out
                                    have hcz119_0 : wc.cell? ⟨gb112, 0, none⟩ = some (.string ((rd_T127 l0_1 x3_2).f0)) := (blk_cell BK112.out 0).trans rfl
                                    have hcz119_1 : wc.cell? ⟨gb112, 1, none⟩ = some (.string ((rd_T127 l0_1 x3_2).f1)) := (blk_cell BK112.out 1).trans rfl
                                    have hcz119_2 : wc.cell? ⟨gb112, 2, none⟩ = some (.int .i64 ((rd_T127 l0_1 x3_2).f2)) := (blk_cell BK112.out 2).trans rfl
                                    have hcz119_3 : wc.cell? ⟨gb112, 3, none⟩ = some (.int .i64 ((rd_T127 l0_1 x3_2).f3)) := (blk_cell BK112.out 3).trans rfl
                                    have hcz119_4 : wc.cell? ⟨gb112, 4, none⟩ = some (.int .i64 ((rd_T127 l0_1 x3_2).f4)) := (blk_cell BK112.out 4).trans rfl
                                    have hcz119_5 : wc.cell? ⟨gb112, 5, none⟩ = some (.slice A111_5 ((rd_T127 l0_1 x3_2).f5).length c111_5) := (blk_cell BK112.out 5).trans rfl
                                    have hfz119_0 := blk_frozen BK112.out 0
                                    have hfz119_1 := blk_frozen BK112.out 1
                                    have hfz119_2 := blk_frozen BK112.out 2
                                    have hfz119_3 := blk_frozen BK112.out 3
                                    have hfz119_4 := blk_frozen BK112.out 4
                                    have hfz119_5 := blk_frozen BK112.out 5
                                    have hcz120_0 : wc.cell? ⟨gb109, 0, none⟩ = some (.int .i64 a0_0) := (blk_cell BK109.out 0).trans rfl
                                    have hcz120_1 : wc.cell? ⟨gb109, 1, none⟩ = some (.slice (some ad111) l0_1.length c0_1) := (blk_cell BK109.out 1).trans rfl
                                    have hfz120_0 := blk_frozen BK109.out 0
                                    have hfz120_1 := blk_frozen BK109.out 1
                                    go_wp2_with (first | (go_at_call 87; (with_reducible refine (spec_l01In.calls ((rd_T127 l0_1 x3_2).f3) (wrap64 (a0_0 + 1)) (wrap64 (a0_0 + 30)) true _ A111.out).mono ?_); rintro e w' ⟨rfl, ⟨nd, rfl⟩⟩))
                                    go_roundg kj70
                                    case measure => have := HJ1.out; have := HK2.out; have := HJ10.out; have := HJ70.out; omega
                                    case rel => exact ⟨(wrap64 (x3_2 + 1)), (by first | rfl | (simp; done) | (simp [*]; done)), H', ⟨by have := HJ1.out; have := HK2.out; have := HJ10.out; have := HJ70.out; omega⟩, ⟨by (with_reducible repeat (first | refine blk_drewN ?_ _ | refine blk_drew ?_ | refine blk_alloc ?_ _)); exact BK109.out⟩, ⟨by repeat (first | (with_reducible first | exact HB.out | apply below_alloc | apply pw_below_drewN | apply below_drew1 | refine below_set ?_ GE109.out | refine below_set ?_ GE112.out) | exact HB.out)⟩⟩
                                · rw [if_neg c113] at H
                                  have c113b0 : (((rd_T127 l0_1 x3_2).f2) == 1) = false := beq_eq_false_iff_ne.mpr c113
                                  have c113b1 : (((rd_T127 l0_1 x3_2).f2) != 1) = true := bne_iff_ne.mpr c113
                                  by_cases c121 : ((((rd_T127 l0_1 x3_2).f2) == 4) != (decide (((rd_T127 l0_1 x3_2).f4) > 0))) = true
                                  · rw [if_pos c121] at H
                                    have c121b0 : ((((rd_T127 l0_1 x3_2).f2) == 4) != (decide (((rd_T127 l0_1 x3_2).f4) > 0))) = true := c121
                                    (try (have c121b1 : decide ((((rd_T127 l0_1 x3_2).f2) == 4) = (decide (((rd_T127 l0_1 x3_2).f4) > 0))) = false := by simpa using c121))
                                    (try (have c121b2 : ((((rd_T127 l0_1 x3_2).f2) == 4) == (decide (((rd_T127 l0_1 x3_2).f4) > 0))) = false := by simpa using c121))
                                    (try (have c121b3 : ¬ ((((rd_T127 l0_1 x3_2).f2) == 4) = (decide (((rd_T127 l0_1 x3_2).f4) > 0))) := by simpa using c121))
                                    clear c121
                                    obtain rfl := Option.some.inj H
                                    have hnb122 := NB112_109.out
                                    have hnc122 := NB109_112.out
                                    have hcz123_0 : wc.cell? ⟨gb112, 0, none⟩ = some (.string ((rd_T127 l0_1 x3_2).f0)) := (blk_cell BK112.out 0).trans rfl
                                    have hcz123_1 : wc.cell? ⟨gb112, 1, none⟩ = some (.string ((rd_T127 l0_1 x3_2).f1)) := (blk_cell BK112.out 1).trans rfl
                                    have hcz123_2 : wc.cell? ⟨gb112, 2, none⟩ = some (.int .i64 ((rd_T127 l0_1 x3_2).f2)) := (blk_cell BK112.out 2).trans rfl
                                    have hcz123_3 : wc.cell? ⟨gb112, 3, none⟩ = some (.int .i64 ((rd_T127 l0_1 x3_2).f3)) := (blk_cell BK112.out 3).trans rfl
                                    have hcz123_4 : wc.cell? ⟨gb112, 4, none⟩ = some (.int .i64 ((rd_T127 l0_1 x3_2).f4)) := (blk_cell BK112.out 4).trans rfl
                                    have hcz123_5 : wc.cell? ⟨gb112, 5, none⟩ = some (.slice A111_5 ((rd_T127 l0_1 x3_2).f5).length c111_5) := (blk_cell BK112.out 5).trans rfl
                                    have hfz123_0 := blk_frozen BK112.out 0
                                    have hfz123_1 := blk_frozen BK112.out 1
                                    have hfz123_2 := blk_frozen BK112.out 2
                                    have hfz123_3 := blk_frozen BK112.out 3
                                    have hfz123_4 := blk_frozen BK112.out 4
                                    have hfz123_5 := blk_frozen BK112.out 5
                                    have hcz124_0 : wc.cell? ⟨gb109, 0, none⟩ = some (.int .i64 a0_0) := (blk_cell BK109.out 0).trans rfl
                                    have hcz124_1 : wc.cell? ⟨gb109, 1, none⟩ = some (.slice (some ad111) l0_1.length c0_1) := (blk_cell BK109.out 1).trans rfl
                                    have hfz124_0 := blk_frozen BK109.out 0
                                    have hfz124_1 := blk_frozen BK109.out 1
                                    go_wp2_with (first | (go_at_call 87; (with_reducible refine (spec_l01In.calls ((rd_T127 l0_1 x3_2).f3) (wrap64 (a0_0 + 1)) (wrap64 (a0_0 + 30)) true _ A111.out).mono ?_); rintro e w' ⟨rfl, ⟨nd, rfl⟩⟩))
                                    go_ret
                                    exact ⟨by first | rfl | (simp [errW_none, errW_some] <;> rfl) | (simp [*, errW_none, errW_some] <;> rfl), by repeat (first | (with_reducible first | exact HB.out | apply below_alloc | apply pw_below_drewN | apply below_drew1 | refine below_set ?_ GE109.out | refine below_set ?_ GE112.out) | exact HB.out)⟩
                                  · rw [if_neg c121] at H
                                    have c121b0 : ((((rd_T127 l0_1 x3_2).f2) == 4) != (decide (((rd_T127 l0_1 x3_2).f4) > 0))) = false := by simpa using c121
                                    (try (have c121b1 : decide ((((rd_T127 l0_1 x3_2).f2) == 4) = (decide (((rd_T127 l0_1 x3_2).f4) > 0))) = true := by simpa using c121))
                                    (try (have c121b2 : ((((rd_T127 l0_1 x3_2).f2) == 4) == (decide (((rd_T127 l0_1 x3_2).f4) > 0))) = true := by simpa using c121))
                                    clear c121
                                    have H' := Aside0.mk H
                                    clear H
                                    have hnb125 := NB112_109.out
                                    have hnc125 := NB109_112.out
                                    have hcz126_0 : wc.cell? ⟨gb112, 0, none⟩ = some (.string ((rd_T127 l0_1 x3_2).f0)) := (blk_cell BK112.out 0).trans rfl
                                    have hcz126_1 : wc.cell? ⟨gb112, 1, none⟩ = some (.string ((rd_T127 l0_1 x3_2).f1)) := (blk_cell BK112.out 1).trans rfl
                                    have hcz126_2 : wc.cell? ⟨gb112, 2, none⟩ = some (.int .i64 ((rd_T127 l0_1 x3_2).f2)) := (blk_cell BK112.out 2).trans rfl
                                    have hcz126_3 : wc.cell? ⟨gb112, 3, none⟩ = some (.int .i64 ((rd_T127 l0_1 x3_2).f3)) := (blk_cell BK112.out 3).trans rfl
                                    have hcz126_4 : wc.cell? ⟨gb112, 4, none⟩ = some (.int .i64 ((rd_T127 l0_1 x3_2).f4)) := (blk_cell BK112.out 4).trans rfl
                                    have hcz126_5 : wc.cell? ⟨gb112, 5, none⟩ = some (.slice A111_5 ((rd_T127 l0_1 x3_2).f5).length c111_5) := (blk_cell BK112.out 5).trans rfl
                                    have hfz126_0 := blk_frozen BK112.out 0
                                    have hfz126_1 := blk_frozen BK112.out 1
                                    have hfz126_2 := blk_frozen BK112.out 2
                                    have hfz126_3 := blk_frozen BK112.out 3
                                    have hfz126_4 := blk_frozen BK112.out 4
                                    have hfz126_5 := blk_frozen BK112.out 5
                                    have hcz127_0 : wc.cell? ⟨gb109, 0, none⟩ = some (.int .i64 a0_0) := (blk_cell BK109.out 0).trans rfl
                                    have hcz127_1 : wc.cell? ⟨gb109, 1, none⟩ = some (.slice (some ad111) l0_1.length c0_1) := (blk_cell BK109.out 1).trans rfl
                                    have hfz127_0 := blk_frozen BK109.out 0
                                    have hfz127_1 := blk_frozen BK109.out 1
                                    go_wp2_with (first | (go_at_call 87; (with_reducible refine (spec_l01In.calls ((rd_T127 l0_1 x3_2).f3) (wrap64 (a0_0 + 1)) (wrap64 (a0_0 + 30)) true _ A111.out).mono ?_); rintro e w' ⟨rfl, ⟨nd, rfl⟩⟩))
                                    go_roundg kj70
                                    case measure => have := HJ1.out; have := HK2.out; have := HJ10.out; have := HJ70.out; omega
                                    case rel => exact ⟨(wrap64 (x3_2 + 1)), (by first | rfl | (simp; done) | (simp [*]; done)), H', ⟨by have := HJ1.out; have := HK2.out; have := HJ10.out; have := HJ70.out; omega⟩, ⟨by (with_reducible repeat (first | refine blk_drewN ?_ _ | refine blk_drew ?_ | refine blk_alloc ?_ _)); exact BK109.out⟩, ⟨by repeat (first | (with_reducible first | exact HB.out | apply below_alloc | apply pw_below_drewN | apply below_drew1 | refine below_set ?_ GE109.out | refine below_set ?_ GE112.out) | exact HB.out)⟩⟩
                              · replace c112 := Bool.eq_false_iff.mpr c112
                                subst c112
                                have H1 : (some false) = some r := by rw [if_neg (show ¬ (false = true) by decide)] at H; exact H
                                clear H
                                have H := H1
                                clear H1
                                obtain rfl := Option.some.inj H
                                have hnb128 := NB112_109.out
                                have hnc128 := NB109_112.out
                                have hcz129_0 : wc.cell? ⟨gb112, 0, none⟩ = some (.string ((rd_T127 l0_1 x3_2).f0)) := (blk_cell BK112.out 0).trans rfl
                                have hcz129_1 : wc.cell? ⟨gb112, 1, none⟩ = some (.string ((rd_T127 l0_1 x3_2).f1)) := (blk_cell BK112.out 1).trans rfl
                                have hcz129_2 : wc.cell? ⟨gb112, 2, none⟩ = some (.int .i64 ((rd_T127 l0_1 x3_2).f2)) := (blk_cell BK112.out 2).trans rfl
                                have hcz129_3 : wc.cell? ⟨gb112, 3, none⟩ = some (.int .i64 ((rd_T127 l0_1 x3_2).f3)) := (blk_cell BK112.out 3).trans rfl
                                have hcz129_4 : wc.cell? ⟨gb112, 4, none⟩ = some (.int .i64 ((rd_T127 l0_1 x3_2).f4)) := (blk_cell BK112.out 4).trans rfl
                                have hcz129_5 : wc.cell? ⟨gb112, 5, none⟩ = some (.slice A111_5 ((rd_T127 l0_1 x3_2).f5).length c111_5) := (blk_cell BK112.out 5).trans rfl
                                have hfz129_0 := blk_frozen BK112.out 0
                                have hfz129_1 := blk_frozen BK112.out 1
                                have hfz129_2 := blk_frozen BK112.out 2
                                have hfz129_3 := blk_frozen BK112.out 3
                                have hfz129_4 := blk_frozen BK112.out 4
                                have hfz129_5 := blk_frozen BK112.out 5
                                have hcz130_0 : wc.cell? ⟨gb109, 0, none⟩ = some (.int .i64 a0_0) := (blk_cell BK109.out 0).trans rfl
                                have hcz130_1 : wc.cell? ⟨gb109, 1, none⟩ = some (.slice (some ad111) l0_1.length c0_1) := (blk_cell BK109.out 1).trans rfl
                                have hfz130_0 := blk_frozen BK109.out 0
                                have hfz130_1 := blk_frozen BK109.out 1
                                go_wp2_with (first | (go_at_call 87; (with_reducible refine (spec_l01In.calls ((rd_T127 l0_1 x3_2).f3) (wrap64 (a0_0 + 1)) (wrap64 (a0_0 + 30)) false _ A111.out).mono ?_); rintro e w' ⟨rfl, ⟨nd, rfl⟩⟩))
                                go_ret
                                exact ⟨by first | rfl | (simp [errW_none, errW_some] <;> rfl) | (simp [*, errW_none, errW_some] <;> rfl), by repeat (first | (with_reducible first | exact HB.out | apply below_alloc | apply pw_below_drewN | apply below_drew1 | refine below_set ?_ GE109.out | refine below_set ?_ GE112.out) | exact HB.out)⟩
              · rw [if_neg c10] at H
                exact absurd H (by simp)
            · rw [if_neg c9] at H
              have c9b0 : decide (x3_2 < (l0_1.length : Int)) = false := decide_eq_false c9
              clear c9
              obtain rfl := Option.some.inj H
              have hcz131_0 : wr.cell? ⟨gb109, 0, none⟩ = some (.int .i64 a0_0) := (blk_cell BK109.out 0).trans rfl
              have hcz131_1 : wr.cell? ⟨gb109, 1, none⟩ = some (.slice A0_1 l0_1.length c0_1) := (blk_cell BK109.out 1).trans rfl
              have hfz131_0 := blk_frozen BK109.out 0
              have hfz131_1 := blk_frozen BK109.out 1
              go_wp2
              go_ret
              exact ⟨by first | rfl | (simp [errW_none, errW_some] <;> rfl) | (simp [*, errW_none, errW_some] <;> rfl), by repeat (first | (with_reducible first | exact HB.out | apply below_alloc | apply pw_below_drewN | apply below_drew1 | refine below_set ?_ GE109.out) | exact HB.out)⟩

end Go.Proofs.Ytblmghlopolknaa.QFnExactCacheOK

-- written by a program of this session
import Derived.Test.YtjfpkfophfelmaaQFnUdpx0
import Derived.Test.YtjfpkfophfelmaaQFnUdpx1
import Derived.Test.YtjfpkfophfelmaaQFnUdpx2
namespace Go.Proofs.Ytjfpkfophfelmaa.QFnUdp
open Go.RowKit Go.Proofs.YtjfpkfophfelmaaV.PrintWords Go.Proofs.YtjfpkfophfelmaaV.PrintLast Go.Proofs.YtjfpkfophfelmaaV.PrintMore
attribute [local go_sem] max2_int min2_int max_two min_two max_three min_three max_four min_four   -- for this text's walks alone
set_option linter.unusedVariables false
set_option linter.unusedSimpArgs false

/-! ### impl_UdpBytes: function 34 -/
def impl_UdpBytes.j0 : Nat → ByteArray → ByteArray → Bool → Int → Int → List Int → Option (List Int × Int)
  | 0, _, _, _, _, _, _ => none
  | k + 1, x0, x1, x35, x250000, x250001, x250002 => if x35 = true then (some (([] : List Int), 1)) else ((impl_word16.f x250000).bind fun t257 => ((impl_word16.f x250001).bind fun t260 => (if t257.length + t260.length < 140737488355328 then ((some (t257 ++ t260 : List Int)).bind fun y263 => ((impl_word16.f (wrap64 (8 + (x250002.length : Int)))).bind fun t266 => (if y263.length + t266.length < 140737488355328 then ((some (y263 ++ t266 : List Int)).bind fun y269 => ((some (([0, 0] : List Int) : List Int)).bind fun y272 => (if y269.length + y272.length < 140737488355328 then ((some (y269 ++ y272 : List Int)).bind fun y275 => (if y275.length + x250002.length < 140737488355328 then ((some (y275 ++ x250002 : List Int)).bind fun y278 => ((impl_sumHead.f x0 x1 17 (y278.length : Int)).bind fun t281 => (if t281.length + y278.length < 140737488355328 then ((impl_checkSum.f k (t281 ++ y278)).bind fun t287 => (if t287 = 0 then (if 6 ≤ (y278.length : Int) then ((impl_word16.f 65535).bind fun t292 => (some ((copyAt y278 (6 : Int).toNat t292), 0))) else (none)) else (if 6 ≤ (y278.length : Int) then ((impl_word16.f t287).bind fun t300 => (some ((copyAt y278 (6 : Int).toNat t300), 0))) else (none)))) else (none)))) else (none))) else (none)))) else (none)))) else (none))))
def impl_UdpBytes.f (k : Nat) (a0 : ByteArray) (a1 : ByteArray) (a2_0 : Int) (a2_1 : Int) (l2_2 : List Int) : Option (List Int × Int) := (impl_tooLong.f k (([a0, a1] : List ByteArray))).bind fun t253 => (if t253 = true then (some (([] : List Int), 2)) else ((impl_oneVersion.f a0 a1).bind fun t254 => (if t254 = true then ((impl_inRange.f a2_0 0 65535).bind fun t255 => (if t255 = true then ((impl_inRange.f a2_1 0 65535).bind fun t256 => (if t256 = true then (impl_UdpBytes.j0 k a0 a1 (decide ((l2_2.length : Int) > 1492)) a2_0 a2_1 l2_2) else (impl_UdpBytes.j0 k a0 a1 true a2_0 a2_1 l2_2))) else (impl_UdpBytes.j0 k a0 a1 true a2_0 a2_1 l2_2))) else (impl_UdpBytes.j0 k a0 a1 true a2_0 a2_1 l2_2))))
theorem impl_UdpBytes.mono_l : ∀ k, (∀ y0 y1 y2 y3 y4 y5, LeO (impl_UdpBytes.j0 k y0 y1 y2 y3 y4 y5) (impl_UdpBytes.j0 (k + 1) y0 y1 y2 y3 y4 y5))
  | 0 => fun _ _ _ _ _ _ r h => by simp [impl_UdpBytes.j0] at h
  | k + 1 => by
    have ih0 := impl_UdpBytes.mono_l k
    · intro y0 y1 y2 y3 y4 y5
      unfold impl_UdpBytes.j0
      repeat' first
      | (with_reducible exact ih0 _ _ _ _ _ _)
      | (with_reducible exact impl_checkSum.mono _ _)
      | (with_reducible exact impl_tooLong.mono _ _)
      | (with_reducible exact LeO.refl _)
      | (with_reducible exact LeO.none _)
      | (with_reducible refine LeO.ite ?_ ?_)
      | (with_reducible refine LeO.bind ?_ (fun _ => ?_))
      | exact ih0 _ _ _ _ _ _
      | exact impl_checkSum.mono _ _
      | exact impl_tooLong.mono _ _
      | exact LeO.none _
      | refine LeO.ite ?_ ?_
      | refine LeO.bind ?_ (fun _ => ?_)
theorem impl_UdpBytes.mono : ∀ a0 a1 a2 a3 a4 k, LeO (impl_UdpBytes.f k a0 a1 a2 a3 a4) (impl_UdpBytes.f (k + 1) a0 a1 a2 a3 a4) := by
  intro a0 a1 a2 a3 a4 k
  have ih0 := impl_UdpBytes.mono_l k
  unfold impl_UdpBytes.f
  repeat' first
      | (with_reducible exact ih0 _ _ _ _ _ _)
      | (with_reducible exact impl_checkSum.mono _ _)
      | (with_reducible exact impl_tooLong.mono _ _)
      | (with_reducible exact LeO.refl _)
      | (with_reducible exact LeO.none _)
      | (with_reducible refine LeO.ite ?_ ?_)
      | (with_reducible refine LeO.bind ?_ (fun _ => ?_))
      | exact ih0 _ _ _ _ _ _
      | exact impl_checkSum.mono _ _
      | exact impl_tooLong.mono _ _
      | exact LeO.none _
      | refine LeO.ite ?_ ?_
      | refine LeO.bind ?_ (fun _ => ?_)
def impl_UdpBytes.T5 : Bool × List (List Nat × List Nat) := (true, [([], []), ([0], [0]), ([1], [1]), ([], []), ([3], [3]), ([4, 2], [4]), ([2, 5, 5], [2, 5]), ([6, 6, 0, 1, 2, 3, 4, 5, 6], [6])])
def impl_UdpBytes.B5 : List Nat := [0, 1, 3, 0, 8, 31, 63, 127]
theorem impl_UdpBytes.tab5 : rtab .any (opsOf Try.f34 5) = impl_UdpBytes.T5 := by kernel_rfl
theorem impl_UdpBytes.bits5 : waitsOk impl_UdpBytes.T5.2 impl_UdpBytes.B5 = true := by kernel_rfl
set_option maxHeartbeats 8000000 in
set_option maxRecDepth 100000 in
theorem impl_UdpBytes.calls (k : Nat) (a0 : ByteArray) (a1 : ByteArray) (a2_0 : Int) (a2_1 : Int) (A2_2 : Option Addr) (c2_2 : Nat) (l2_2 : List Int) (r1 : List Int) (r2 : Int) (w : World) (hr2_2 : Kd.C (Kd.int .u8) w A2_2 l2_2.length l2_2) (hc2_2 : l2_2.length ≤ c2_2) (h : impl_UdpBytes.f k a0 a1 a2_0 a2_1 l2_2 = some (r1, r2)) :
    Calls Try.prog 34 #[.string a0, .string a1, .agg #[.int .i64 a2_0, .int .i64 a2_1, .slice A2_2 l2_2.length c2_2]] w fun e w' => ∃ v0_ : Value, e = .returned (.tuple #[v0_, .int .i64 r2]) ∧ Kd.R (Kd.int .u8) 5 w' w.heap.size (fun _ => True) v0_ r1 ∧ Below w.heap.size w w' := by
  have hu52 := Try.underlying52
  have HR2_2 := Aside0.mk hr2_2
  have HC2_2 := Aside0.mk hc2_2
  clear hr2_2 hc2_2
  have HB := Aside0.mk (Below.refl w.heap.size w)
  have H : ((impl_tooLong.f k (([a0, a1] : List ByteArray))).bind fun t253 => (if t253 = true then (some (([] : List Int), 2)) else ((impl_oneVersion.f a0 a1).bind fun t254 => (if t254 = true then ((impl_inRange.f a2_0 0 65535).bind fun t255 => (if t255 = true then ((impl_inRange.f a2_1 0 65535).bind fun t256 => (if t256 = true then (impl_UdpBytes.j0 k a0 a1 (decide ((l2_2.length : Int) > 1492)) a2_0 a2_1 l2_2) else (impl_UdpBytes.j0 k a0 a1 true a2_0 a2_1 l2_2))) else (impl_UdpBytes.j0 k a0 a1 true a2_0 a2_1 l2_2))) else (impl_UdpBytes.j0 k a0 a1 true a2_0 a2_1 l2_2))))) = some (r1, r2) := h
  clear h
  obtain ⟨y250, hy250⟩ : ∃ y_ : List ByteArray, y_ = (([a0, a1] : List ByteArray)) := ⟨_, rfl⟩
  replace H : ((impl_tooLong.f k y250).bind fun t253 => (if t253 = true then (some (([] : List Int), 2)) else ((impl_oneVersion.f a0 a1).bind fun t254 => (if t254 = true then ((impl_inRange.f a2_0 0 65535).bind fun t255 => (if t255 = true then ((impl_inRange.f a2_1 0 65535).bind fun t256 => (if t256 = true then (impl_UdpBytes.j0 k a0 a1 (decide ((l2_2.length : Int) > 1492)) a2_0 a2_1 l2_2) else (impl_UdpBytes.j0 k a0 a1 true a2_0 a2_1 l2_2))) else (impl_UdpBytes.j0 k a0 a1 true a2_0 a2_1 l2_2))) else (impl_UdpBytes.j0 k a0 a1 true a2_0 a2_1 l2_2))))) = some (r1, r2) := by first | (rw [hy250]; with_reducible exact H) | (have H2_ := (Option.bind_some _ _).symm.trans H; rw [hy250]; with_reducible exact H2_) | (have H2_ := (Option.bind_some _ _).symm.trans H; with_reducible exact H2_) | with_reducible exact H | (rw [hy250]; exact H) | exact H
  have Ny250 := Aside0.mk hy250
  clear hy250
  replace H := Option.bind_eq_some_iff.mp H
  obtain ⟨t253, A40, H⟩ := H
  replace H : (if t253 = true then (some (([] : List Int), 2)) else ((impl_oneVersion.f a0 a1).bind fun t254 => (if t254 = true then ((impl_inRange.f a2_0 0 65535).bind fun t255 => (if t255 = true then ((impl_inRange.f a2_1 0 65535).bind fun t256 => (if t256 = true then (impl_UdpBytes.j0 k a0 a1 (decide ((l2_2.length : Int) > 1492)) a2_0 a2_1 l2_2) else (impl_UdpBytes.j0 k a0 a1 true a2_0 a2_1 l2_2))) else (impl_UdpBytes.j0 k a0 a1 true a2_0 a2_1 l2_2))) else (impl_UdpBytes.j0 k a0 a1 true a2_0 a2_1 l2_2)))) = some (r1, r2) := H
  have A4 := Aside0.mk A40
  clear A40
  by_cases c5 : t253 = true
  · subst c5
    have H1 : (some (([] : List Int), 2)) = some (r1, r2) := by rw [if_pos rfl] at H; exact H
    clear H
    have H := H1
    clear H1
    simp only [Option.some.injEq, Prod.mk.injEq] at H
    obtain ⟨rfl, rfl⟩ := H
    go_enter Try.func34, Try.ntmps34
    go_wp2_with (first | ((with_reducible refine gate_dst (N := 5) rfl ?_); refine box_event ?hg (N := 5) ?hd (cs := #[.int .i64 a2_0, .int .i64 a2_1, .slice A2_2 l2_2.length c2_2]) (t := 52) ?hr ?_; (case hd => rfl); (case hg => rfl); (case hr => first | (go_simp; done) | (go_simp; rfl)); intro gb249 hg w6 hbox hb; have n0_ := Aside0.mk (below_step (by repeat (first | (with_reducible first | exact HB.out | apply below_alloc | apply pw_below_drewN | apply below_drew1) | exact HB.out)) hb); have n1_ := Aside0.mk (hbox); have n2_ := Aside0.mk ((by rw [hg]; exact (below_size (by repeat (first | (with_reducible first | exact HB.out | apply below_alloc | apply pw_below_drewN | apply below_drew1) | exact HB.out))) : w.heap.size ≤ gb249)); have n3_ := Aside0.mk ((by rw [hg]; exact (below_size (by repeat (first | (with_reducible first | exact HB.out | apply below_alloc | apply pw_below_drewN | apply below_drew1) | exact HB.out))) : w.heap.size ≤ gb249)); clear HB; have HB := n0_; have BK249 := n1_; have GW249 := n2_; have GE249 := n3_; clear n0_ n1_ n2_ n3_; clear hb hbox hg) | ((with_reducible refine gate_dst (N := 12) rfl ?_); refine Kd.R_lit Kd.string _ 9 ?hg (N := 12) ?hd (xs := ([a0, a1] : List ByteArray)) (inner := [.string a0, .string a1]) (ok := fun _ => True) (okp := fun _ => True) ?hr ?hp (fun _ hk => hk) trivial (Below.refl _ _) (Nat.le_refl _) (by simp) ?_; (case hd => rfl); (case hg => rfl); (case hr => first | (go_simp; done) | (go_simp; rfl)); (case hp => exact (Reps.one (show Kd.M Kd.string _ _ _ a0 [.string a0] from rfl) (Reps.one (show Kd.M Kd.string _ _ _ a1 [.string a1] from rfl) (Reps.none _ _)))); intro v251 w7 ho8 hb hg_ hnew_; clear hg_ hnew_; (first | rw [← Ny250.out] at ho8 | (simp only [Int.reduceToNat] at ho8; rw [← Ny250.out] at ho8)); have n0_ := Aside0.mk (Kd.R_lower ho8 (below_size (by repeat (first | (with_reducible first | exact HB.out | apply below_alloc | apply pw_below_drewN | apply below_drew1 | refine below_set ?_ GE249.out) | exact HB.out)))); have n1_ := Aside0.mk (blk_below (g := gb249) (o := .cells #[.int .i64 a2_0, .int .i64 a2_1, .slice A2_2 l2_2.length c2_2] 52 (0, 0)) (by (with_reducible repeat (first | refine blk_drewN ?_ _ | refine blk_drew ?_ | refine blk_alloc ?_ _)); exact BK249.out) hb); have n2_ := Aside0.mk (below_step (by repeat (first | (with_reducible first | exact HB.out | apply below_alloc | apply pw_below_drewN | apply below_drew1 | refine below_set ?_ GE249.out) | exact HB.out)) hb); clear BK249; clear HB; have HO252 := n0_; have BK249 := n1_; have HB := n2_; clear n0_ n1_ n2_; clear hb ho8; obtain ⟨Ao9, co9, eo9⟩ := Kd.R_slice HO252.out; subst eo9) | ((with_reducible refine gate_callee (f := 93) rfl ?_); refine goesL_ (some 13) rfl rfl Try.func93 (by kernel_rfl) rfl #[.slice Ao9 y250.length co9] rfl (by (try simp only [List.map_toArray, List.map_cons, List.map_nil]); first | done | rfl | (simp only [List.length_drop, List.length_take]; rfl)) ?_; (with_reducible refine (impl_tooLong.calls k _ _ y250 true _ ?side1 ?side2 A4.out).mono ?_); (case side1 => repeat (first | exact (Kd.R_reads' HO252.out).2.2 | (with_reducible refine Kd.C_alloc ?_ _) | (with_reducible refine Kd.C_drewN ?_ _) | (with_reducible refine Kd.C_drew ?_))); (case side2 => exact (Kd.R_reads' HO252.out).2.1); rintro e w' ⟨rfl, ⟨nd, rfl⟩⟩; refine ⟨_, rfl, ?_⟩))
    go_ret2
    exact ⟨_, by first | rfl | (simp [errW_none, errW_some] <;> rfl) | (simp [*, errW_none, errW_some] <;> rfl), by first | exact Kd.R_nil _ _ _ _ _ | exact Kd.N_nil _ _ _ _ _ | exact Kd.V_nil _ _ _ _ _ | exact Kd.Q_nil _ _ _ _ _ | exact Kd.S_nil _ _ _ _ _, by repeat (first | (with_reducible first | exact HB.out | apply below_alloc | apply pw_below_drewN | apply below_drew1 | refine below_set ?_ GE249.out) | exact HB.out)⟩
  · replace c5 := Bool.eq_false_iff.mpr c5
    subst c5
    have H1 : ((impl_oneVersion.f a0 a1).bind fun t254 => (if t254 = true then ((impl_inRange.f a2_0 0 65535).bind fun t255 => (if t255 = true then ((impl_inRange.f a2_1 0 65535).bind fun t256 => (if t256 = true then (impl_UdpBytes.j0 k a0 a1 (decide ((l2_2.length : Int) > 1492)) a2_0 a2_1 l2_2) else (impl_UdpBytes.j0 k a0 a1 true a2_0 a2_1 l2_2))) else (impl_UdpBytes.j0 k a0 a1 true a2_0 a2_1 l2_2))) else (impl_UdpBytes.j0 k a0 a1 true a2_0 a2_1 l2_2))) = some (r1, r2) := by rw [if_neg (show ¬ (false = true) by decide)] at H; exact H
    clear H
    have H := H1
    clear H1
    have HC10 := Aside0.mk H
    clear H
    go_enter Try.func34, Try.ntmps34
    go_upto_region 3 with (first | ((with_reducible refine gate_dst (N := 5) rfl ?_); refine box_event ?hg (N := 5) ?hd (cs := #[.int .i64 a2_0, .int .i64 a2_1, .slice A2_2 l2_2.length c2_2]) (t := 52) ?hr ?_; (case hd => rfl); (case hg => rfl); (case hr => first | (go_simp; done) | (go_simp; rfl)); intro gb249 hg w11 hbox hb; have n0_ := Aside0.mk (below_step (by repeat (first | (with_reducible first | exact HB.out | apply below_alloc | apply pw_below_drewN | apply below_drew1) | exact HB.out)) hb); have n1_ := Aside0.mk (hbox); have n2_ := Aside0.mk ((by rw [hg]; exact (below_size (by repeat (first | (with_reducible first | exact HB.out | apply below_alloc | apply pw_below_drewN | apply below_drew1) | exact HB.out))) : w.heap.size ≤ gb249)); have n3_ := Aside0.mk ((by rw [hg]; exact (below_size (by repeat (first | (with_reducible first | exact HB.out | apply below_alloc | apply pw_below_drewN | apply below_drew1) | exact HB.out))) : w.heap.size ≤ gb249)); clear HB; have HB := n0_; have BK249 := n1_; have GW249 := n2_; have GE249 := n3_; clear n0_ n1_ n2_ n3_; clear hb hbox hg) | ((with_reducible refine gate_dst (N := 12) rfl ?_); refine Kd.R_lit Kd.string _ 9 ?hg (N := 12) ?hd (xs := ([a0, a1] : List ByteArray)) (inner := [.string a0, .string a1]) (ok := fun _ => True) (okp := fun _ => True) ?hr ?hp (fun _ hk => hk) trivial (Below.refl _ _) (Nat.le_refl _) (by simp) ?_; (case hd => rfl); (case hg => rfl); (case hr => first | (go_simp; done) | (go_simp; rfl)); (case hp => exact (Reps.one (show Kd.M Kd.string _ _ _ a0 [.string a0] from rfl) (Reps.one (show Kd.M Kd.string _ _ _ a1 [.string a1] from rfl) (Reps.none _ _)))); intro v251 w12 ho13 hb hg_ hnew_; clear hg_ hnew_; (first | rw [← Ny250.out] at ho13 | (simp only [Int.reduceToNat] at ho13; rw [← Ny250.out] at ho13)); have n0_ := Aside0.mk (Kd.R_lower ho13 (below_size (by repeat (first | (with_reducible first | exact HB.out | apply below_alloc | apply pw_below_drewN | apply below_drew1 | refine below_set ?_ GE249.out) | exact HB.out)))); have n1_ := Aside0.mk (blk_below (g := gb249) (o := .cells #[.int .i64 a2_0, .int .i64 a2_1, .slice A2_2 l2_2.length c2_2] 52 (0, 0)) (by (with_reducible repeat (first | refine blk_drewN ?_ _ | refine blk_drew ?_ | refine blk_alloc ?_ _)); exact BK249.out) hb); have n2_ := Aside0.mk (below_step (by repeat (first | (with_reducible first | exact HB.out | apply below_alloc | apply pw_below_drewN | apply below_drew1 | refine below_set ?_ GE249.out) | exact HB.out)) hb); clear BK249; clear HB; have HO252 := n0_; have BK249 := n1_; have HB := n2_; clear n0_ n1_ n2_; clear hb ho13; obtain ⟨Ao14, co14, eo14⟩ := Kd.R_slice HO252.out; subst eo14) | ((with_reducible refine gate_callee (f := 93) rfl ?_); refine goesL_ (some 13) rfl rfl Try.func93 (by kernel_rfl) rfl #[.slice Ao14 y250.length co14] rfl (by (try simp only [List.map_toArray, List.map_cons, List.map_nil]); first | done | rfl | (simp only [List.length_drop, List.length_take]; rfl)) ?_; (with_reducible refine (impl_tooLong.calls k _ _ y250 false _ ?side1 ?side2 A4.out).mono ?_); (case side1 => repeat (first | exact (Kd.R_reads' HO252.out).2.2 | (with_reducible refine Kd.C_alloc ?_ _) | (with_reducible refine Kd.C_drewN ?_ _) | (with_reducible refine Kd.C_drew ?_))); (case side2 => exact (Kd.R_reads' HO252.out).2.1); rintro e w' ⟨rfl, ⟨nd, rfl⟩⟩; refine ⟨_, rfl, ?_⟩))
    (try simp only [Act.put, List.setIfInBounds_toArray, List.set_cons_zero, List.set_cons_succ])
    go_cut [35] (fun v35 wc => ∃ (kq : Nat) (x35_9 : Bool), v35 = .bool x35_9 ∧ Aside0 (impl_UdpBytes.j0 kq a0 a1 x35_9 a2_0 a2_1 l2_2 = some (r1, r2)) ∧ Aside0 (kq ≤ k) ∧ Aside0 (wc.heap[gb249]? = some (.cells #[.int .i64 a2_0, .int .i64 a2_1, (.slice A2_2 l2_2.length c2_2)] 52 (0, 0))) ∧ Aside0 (Below w.heap.size w wc))
    case first =>
      have H := HC10.out
      clear HC10
      replace H := Option.bind_eq_some_iff.mp H
      obtain ⟨t254, A150, H⟩ := H
      replace H : (if t254 = true then ((impl_inRange.f a2_0 0 65535).bind fun t255 => (if t255 = true then ((impl_inRange.f a2_1 0 65535).bind fun t256 => (if t256 = true then (impl_UdpBytes.j0 k a0 a1 (decide ((l2_2.length : Int) > 1492)) a2_0 a2_1 l2_2) else (impl_UdpBytes.j0 k a0 a1 true a2_0 a2_1 l2_2))) else (impl_UdpBytes.j0 k a0 a1 true a2_0 a2_1 l2_2))) else (impl_UdpBytes.j0 k a0 a1 true a2_0 a2_1 l2_2)) = some (r1, r2) := H
      have A15 := Aside0.mk A150
      clear A150
      by_cases c16 : t254 = true
      · subst c16
        have H1 : ((impl_inRange.f a2_0 0 65535).bind fun t255 => (if t255 = true then ((impl_inRange.f a2_1 0 65535).bind fun t256 => (if t256 = true then (impl_UdpBytes.j0 k a0 a1 (decide ((l2_2.length : Int) > 1492)) a2_0 a2_1 l2_2) else (impl_UdpBytes.j0 k a0 a1 true a2_0 a2_1 l2_2))) else (impl_UdpBytes.j0 k a0 a1 true a2_0 a2_1 l2_2))) = some (r1, r2) := by rw [if_pos rfl] at H; exact H
        clear H
        have H := H1
        clear H1
        replace H := Option.bind_eq_some_iff.mp H
        obtain ⟨t255, A170, H⟩ := H
        replace H : (if t255 = true then ((impl_inRange.f a2_1 0 65535).bind fun t256 => (if t256 = true then (impl_UdpBytes.j0 k a0 a1 (decide ((l2_2.length : Int) > 1492)) a2_0 a2_1 l2_2) else (impl_UdpBytes.j0 k a0 a1 true a2_0 a2_1 l2_2))) else (impl_UdpBytes.j0 k a0 a1 true a2_0 a2_1 l2_2)) = some (r1, r2) := H
        have A17 := Aside0.mk A170
        clear A170
        by_cases c18 : t255 = true
        · subst c18
          have H1 : ((impl_inRange.f a2_1 0 65535).bind fun t256 => (if t256 = true then (impl_UdpBytes.j0 k a0 a1 (decide ((l2_2.length : Int) > 1492)) a2_0 a2_1 l2_2) else (impl_UdpBytes.j0 k a0 a1 true a2_0 a2_1 l2_2))) = some (r1, r2) := by rw [if_pos rfl] at H; exact H
          clear H
          have H := H1
          clear H1
          replace H := Option.bind_eq_some_iff.mp H
          obtain ⟨t256, A190, H⟩ := H
          replace H : (if t256 = true then (impl_UdpBytes.j0 k a0 a1 (decide ((l2_2.length : Int) > 1492)) a2_0 a2_1 l2_2) else (impl_UdpBytes.j0 k a0 a1 true a2_0 a2_1 l2_2)) = some (r1, r2) := H
          have A19 := Aside0.mk A190
          clear A190
          by_cases c20 : t256 = true
          · subst c20
            have H1 : (impl_UdpBytes.j0 k a0 a1 (decide ((l2_2.length : Int) > 1492)) a2_0 a2_1 l2_2) = some (r1, r2) := by rw [if_pos rfl] at H; exact H
            clear H
            have H := H1
            clear H1
            have H' := Aside0.mk H
            clear H
            go_wp2_with (first | ((with_reducible refine gate_callee (f := 94) rfl ?_); refine goesL_ (some 16) rfl rfl Try.func94 (by kernel_rfl) rfl #[.string a0, .string a1] rfl (by (try simp only [List.map_toArray, List.map_cons, List.map_nil]); first | done | rfl | (simp only [List.length_drop, List.length_take]; rfl)) ?_; (with_reducible refine (impl_oneVersion.calls a0 a1 true _ A15.out).mono ?_); rintro e w' ⟨rfl, ⟨nd, rfl⟩⟩; refine ⟨_, rfl, ?_⟩; have hcz21_0 : w12.cell? ⟨gb249, 0, none⟩ = some (.int .i64 a2_0) := (blk_cell BK249.out 0).trans rfl; have hcz21_1 : w12.cell? ⟨gb249, 1, none⟩ = some (.int .i64 a2_1) := (blk_cell BK249.out 1).trans rfl; have hcz21_2 : w12.cell? ⟨gb249, 2, none⟩ = some (.slice A2_2 l2_2.length c2_2) := (blk_cell BK249.out 2).trans rfl; have hfz21_0 := blk_frozen BK249.out 0; have hfz21_1 := blk_frozen BK249.out 1; have hfz21_2 := blk_frozen BK249.out 2) | (go_at_call 89; (with_reducible refine (impl_inRange.calls a2_0 0 65535 true _ A17.out).mono ?_); rintro e w' ⟨rfl, ⟨nd, rfl⟩⟩) | (go_at_call 89; (with_reducible refine (impl_inRange.calls a2_1 0 65535 true _ A19.out).mono ?_); rintro e w' ⟨rfl, ⟨nd, rfl⟩⟩))
            go_meet
            case rel => exact ⟨_, (decide ((l2_2.length : Int) > 1492)), (by first | rfl | (simp; done) | (simp [*]; done)), H', ⟨by first | omega | exact Nat.le_refl _⟩, ⟨by (with_reducible repeat (first | refine blk_drewN ?_ _ | refine blk_drew ?_ | refine blk_alloc ?_ _)); exact BK249.out⟩, ⟨by repeat (first | (with_reducible first | exact HB.out | apply below_alloc | apply pw_below_drewN | apply below_drew1 | refine below_set ?_ GE249.out) | exact HB.out)⟩⟩
          · replace c20 := Bool.eq_false_iff.mpr c20
            subst c20
            have H1 : (impl_UdpBytes.j0 k a0 a1 true a2_0 a2_1 l2_2) = some (r1, r2) := by rw [if_neg (show ¬ (false = true) by decide)] at H; exact H
            clear H
            have H := H1
            clear H1
            have H' := Aside0.mk H
            clear H
            go_wp2_with (first | ((with_reducible refine gate_callee (f := 94) rfl ?_); refine goesL_ (some 16) rfl rfl Try.func94 (by kernel_rfl) rfl #[.string a0, .string a1] rfl (by (try simp only [List.map_toArray, List.map_cons, List.map_nil]); first | done | rfl | (simp only [List.length_drop, List.length_take]; rfl)) ?_; (with_reducible refine (impl_oneVersion.calls a0 a1 true _ A15.out).mono ?_); rintro e w' ⟨rfl, ⟨nd, rfl⟩⟩; refine ⟨_, rfl, ?_⟩; have hcz22_0 : w12.cell? ⟨gb249, 0, none⟩ = some (.int .i64 a2_0) := (blk_cell BK249.out 0).trans rfl; have hcz22_1 : w12.cell? ⟨gb249, 1, none⟩ = some (.int .i64 a2_1) := (blk_cell BK249.out 1).trans rfl; have hcz22_2 : w12.cell? ⟨gb249, 2, none⟩ = some (.slice A2_2 l2_2.length c2_2) := (blk_cell BK249.out 2).trans rfl; have hfz22_0 := blk_frozen BK249.out 0; have hfz22_1 := blk_frozen BK249.out 1; have hfz22_2 := blk_frozen BK249.out 2) | (go_at_call 89; (with_reducible refine (impl_inRange.calls a2_0 0 65535 true _ A17.out).mono ?_); rintro e w' ⟨rfl, ⟨nd, rfl⟩⟩) | (go_at_call 89; (with_reducible refine (impl_inRange.calls a2_1 0 65535 false _ A19.out).mono ?_); rintro e w' ⟨rfl, ⟨nd, rfl⟩⟩))
            go_meet
            case rel => exact ⟨_, (true), (by first | rfl | (simp; done) | (simp [*]; done)), H', ⟨by first | omega | exact Nat.le_refl _⟩, ⟨by (with_reducible repeat (first | refine blk_drewN ?_ _ | refine blk_drew ?_ | refine blk_alloc ?_ _)); exact BK249.out⟩, ⟨by repeat (first | (with_reducible first | exact HB.out | apply below_alloc | apply pw_below_drewN | apply below_drew1 | refine below_set ?_ GE249.out) | exact HB.out)⟩⟩
        · replace c18 := Bool.eq_false_iff.mpr c18
          subst c18
          have H1 : (impl_UdpBytes.j0 k a0 a1 true a2_0 a2_1 l2_2) = some (r1, r2) := by rw [if_neg (show ¬ (false = true) by decide)] at H; exact H
          clear H
          have H := H1
          clear H1
          have H' := Aside0.mk H
          clear H
          go_wp2_with (first | ((with_reducible refine gate_callee (f := 94) rfl ?_); refine goesL_ (some 16) rfl rfl Try.func94 (by kernel_rfl) rfl #[.string a0, .string a1] rfl (by (try simp only [List.map_toArray, List.map_cons, List.map_nil]); first | done | rfl | (simp only [List.length_drop, List.length_take]; rfl)) ?_; (with_reducible refine (impl_oneVersion.calls a0 a1 true _ A15.out).mono ?_); rintro e w' ⟨rfl, ⟨nd, rfl⟩⟩; refine ⟨_, rfl, ?_⟩; have hcz23_0 : w12.cell? ⟨gb249, 0, none⟩ = some (.int .i64 a2_0) := (blk_cell BK249.out 0).trans rfl; have hcz23_1 : w12.cell? ⟨gb249, 1, none⟩ = some (.int .i64 a2_1) := (blk_cell BK249.out 1).trans rfl; have hcz23_2 : w12.cell? ⟨gb249, 2, none⟩ = some (.slice A2_2 l2_2.length c2_2) := (blk_cell BK249.out 2).trans rfl; have hfz23_0 := blk_frozen BK249.out 0; have hfz23_1 := blk_frozen BK249.out 1; have hfz23_2 := blk_frozen BK249.out 2) | (go_at_call 89; (with_reducible refine (impl_inRange.calls a2_0 0 65535 false _ A17.out).mono ?_); rintro e w' ⟨rfl, ⟨nd, rfl⟩⟩))
          go_meet
          case rel => exact ⟨_, (true), (by first | rfl | (simp; done) | (simp [*]; done)), H', ⟨by first | omega | exact Nat.le_refl _⟩, ⟨by (with_reducible repeat (first | refine blk_drewN ?_ _ | refine blk_drew ?_ | refine blk_alloc ?_ _)); exact BK249.out⟩, ⟨by repeat (first | (with_reducible first | exact HB.out | apply below_alloc | apply pw_below_drewN | apply below_drew1 | refine below_set ?_ GE249.out) | exact HB.out)⟩⟩
      · replace c16 := Bool.eq_false_iff.mpr c16
        subst c16
        have H1 : (impl_UdpBytes.j0 k a0 a1 true a2_0 a2_1 l2_2) = some (r1, r2) := by rw [if_neg (show ¬ (false = true) by decide)] at H; exact H
        clear H
        have H := H1
        clear H1
        have H' := Aside0.mk H
        clear H
        go_wp2_with (first | ((with_reducible refine gate_callee (f := 94) rfl ?_); refine goesL_ (some 16) rfl rfl Try.func94 (by kernel_rfl) rfl #[.string a0, .string a1] rfl (by (try simp only [List.map_toArray, List.map_cons, List.map_nil]); first | done | rfl | (simp only [List.length_drop, List.length_take]; rfl)) ?_; (with_reducible refine (impl_oneVersion.calls a0 a1 false _ A15.out).mono ?_); rintro e w' ⟨rfl, ⟨nd, rfl⟩⟩; refine ⟨_, rfl, ?_⟩))
        go_meet
        case rel => exact ⟨_, (true), (by first | rfl | (simp; done) | (simp [*]; done)), H', ⟨by first | omega | exact Nat.le_refl _⟩, ⟨by (with_reducible repeat (first | refine blk_drewN ?_ _ | refine blk_drew ?_ | refine blk_alloc ?_ _)); exact BK249.out⟩, ⟨by repeat (first | (with_reducible first | exact HB.out | apply below_alloc | apply pw_below_drewN | apply below_drew1 | refine below_set ?_ GE249.out) | exact HB.out)⟩⟩
    case rest =>
      clear HC10
      try clear c1
      try clear c2
      try clear p2
      try clear c3
      try clear c5
      try clear c9
      try clear c16
      try clear c18
      try clear c20
      try clear hcz21_0
      try clear hcz21_1
      try clear hcz21_2
      try clear hcz22_0
      try clear hcz22_1
      try clear hcz22_2
      try clear hcz23_0
      try clear hcz23_1
      try clear hcz23_2
      try clear hfz21_0
      try clear hfz21_1
      try clear hfz21_2
      try clear hfz22_0
      try clear hfz22_1
      try clear hfz22_2
      try clear hfz23_0
      try clear hfz23_1
      try clear hfz23_2
      obtain ⟨kq, x35_9, rfl, HA, HJ9, BK249, HB⟩ := hcut
      cases kq with
      | zero => exact absurd HA.out (by simp [impl_UdpBytes.j0])
      | succ kj9 =>
        have H := HA.out
        clear HA
        simp only [impl_UdpBytes.j0] at H
        by_cases c24 : x35_9 = true
        · subst c24
          have H1 : (some (([] : List Int), 1)) = some (r1, r2) := by rw [if_pos rfl] at H; exact H
          clear H
          have H := H1
          clear H1
          simp only [Option.some.injEq, Prod.mk.injEq] at H
          obtain ⟨rfl, rfl⟩ := H
          go_wp2
          go_ret2
          exact ⟨_, by first | rfl | (simp [errW_none, errW_some] <;> rfl) | (simp [*, errW_none, errW_some] <;> rfl), by first | exact Kd.R_nil _ _ _ _ _ | exact Kd.N_nil _ _ _ _ _ | exact Kd.V_nil _ _ _ _ _ | exact Kd.Q_nil _ _ _ _ _ | exact Kd.S_nil _ _ _ _ _, by repeat (first | (with_reducible first | exact HB.out | apply below_alloc | apply pw_below_drewN | apply below_drew1 | refine below_set ?_ GE249.out) | exact HB.out)⟩
        · replace c24 := Bool.eq_false_iff.mpr c24
          subst c24
          have H1 : ((impl_word16.f a2_0).bind fun t257 => ((impl_word16.f a2_1).bind fun t260 => (if t257.length + t260.length < 140737488355328 then ((some (t257 ++ t260 : List Int)).bind fun y263 => ((impl_word16.f (wrap64 (8 + (l2_2.length : Int)))).bind fun t266 => (if y263.length + t266.length < 140737488355328 then ((some (y263 ++ t266 : List Int)).bind fun y269 => ((some (([0, 0] : List Int) : List Int)).bind fun y272 => (if y269.length + y272.length < 140737488355328 then ((some (y269 ++ y272 : List Int)).bind fun y275 => (if y275.length + l2_2.length < 140737488355328 then ((some (y275 ++ l2_2 : List Int)).bind fun y278 => ((impl_sumHead.f a0 a1 17 (y278.length : Int)).bind fun t281 => (if t281.length + y278.length < 140737488355328 then ((impl_checkSum.f kj9 (t281 ++ y278)).bind fun t287 => (if t287 = 0 then (if 6 ≤ (y278.length : Int) then ((impl_word16.f 65535).bind fun t292 => (some ((copyAt y278 (6 : Int).toNat t292), 0))) else (none)) else (if 6 ≤ (y278.length : Int) then ((impl_word16.f t287).bind fun t300 => (some ((copyAt y278 (6 : Int).toNat t300), 0))) else (none)))) else (none)))) else (none))) else (none)))) else (none)))) else (none)))) = some (r1, r2) := by rw [if_neg (show ¬ (false = true) by decide)] at H; exact H
          clear H
          have H := H1
          clear H1
          replace H := Option.bind_eq_some_iff.mp H
          obtain ⟨t257, A250, H⟩ := H
          replace H : ((impl_word16.f a2_1).bind fun t260 => (if t257.length + t260.length < 140737488355328 then ((some (t257 ++ t260 : List Int)).bind fun y263 => ((impl_word16.f (wrap64 (8 + (l2_2.length : Int)))).bind fun t266 => (if y263.length + t266.length < 140737488355328 then ((some (y263 ++ t266 : List Int)).bind fun y269 => ((some (([0, 0] : List Int) : List Int)).bind fun y272 => (if y269.length + y272.length < 140737488355328 then ((some (y269 ++ y272 : List Int)).bind fun y275 => (if y275.length + l2_2.length < 140737488355328 then ((some (y275 ++ l2_2 : List Int)).bind fun y278 => ((impl_sumHead.f a0 a1 17 (y278.length : Int)).bind fun t281 => (if t281.length + y278.length < 140737488355328 then ((impl_checkSum.f kj9 (t281 ++ y278)).bind fun t287 => (if t287 = 0 then (if 6 ≤ (y278.length : Int) then ((impl_word16.f 65535).bind fun t292 => (some ((copyAt y278 (6 : Int).toNat t292), 0))) else (none)) else (if 6 ≤ (y278.length : Int) then ((impl_word16.f t287).bind fun t300 => (some ((copyAt y278 (6 : Int).toNat t300), 0))) else (none)))) else (none)))) else (none))) else (none)))) else (none)))) else (none))) = some (r1, r2) := H
          have A25 := Aside0.mk A250
          clear A250
          replace H := Option.bind_eq_some_iff.mp H
          obtain ⟨t260, A260, H⟩ := H
          replace H : (if t257.length + t260.length < 140737488355328 then ((some (t257 ++ t260 : List Int)).bind fun y263 => ((impl_word16.f (wrap64 (8 + (l2_2.length : Int)))).bind fun t266 => (if y263.length + t266.length < 140737488355328 then ((some (y263 ++ t266 : List Int)).bind fun y269 => ((some (([0, 0] : List Int) : List Int)).bind fun y272 => (if y269.length + y272.length < 140737488355328 then ((some (y269 ++ y272 : List Int)).bind fun y275 => (if y275.length + l2_2.length < 140737488355328 then ((some (y275 ++ l2_2 : List Int)).bind fun y278 => ((impl_sumHead.f a0 a1 17 (y278.length : Int)).bind fun t281 => (if t281.length + y278.length < 140737488355328 then ((impl_checkSum.f kj9 (t281 ++ y278)).bind fun t287 => (if t287 = 0 then (if 6 ≤ (y278.length : Int) then ((impl_word16.f 65535).bind fun t292 => (some ((copyAt y278 (6 : Int).toNat t292), 0))) else (none)) else (if 6 ≤ (y278.length : Int) then ((impl_word16.f t287).bind fun t300 => (some ((copyAt y278 (6 : Int).toNat t300), 0))) else (none)))) else (none)))) else (none))) else (none)))) else (none)))) else (none)) = some (r1, r2) := H
          have A26 := Aside0.mk A260
          clear A260
          by_cases c27 : t257.length + t260.length < 140737488355328
          · rw [if_pos c27] at H
            have LMc27 := Aside0.mk c27
            clear c27
            obtain ⟨y263, hy263⟩ : ∃ y_ : List Int, y_ = (t257 ++ t260) := ⟨_, rfl⟩
            replace H : ((impl_word16.f (wrap64 (8 + (l2_2.length : Int)))).bind fun t266 => (if y263.length + t266.length < 140737488355328 then ((some (y263 ++ t266 : List Int)).bind fun y269 => ((some (([0, 0] : List Int) : List Int)).bind fun y272 => (if y269.length + y272.length < 140737488355328 then ((some (y269 ++ y272 : List Int)).bind fun y275 => (if y275.length + l2_2.length < 140737488355328 then ((some (y275 ++ l2_2 : List Int)).bind fun y278 => ((impl_sumHead.f a0 a1 17 (y278.length : Int)).bind fun t281 => (if t281.length + y278.length < 140737488355328 then ((impl_checkSum.f kj9 (t281 ++ y278)).bind fun t287 => (if t287 = 0 then (if 6 ≤ (y278.length : Int) then ((impl_word16.f 65535).bind fun t292 => (some ((copyAt y278 (6 : Int).toNat t292), 0))) else (none)) else (if 6 ≤ (y278.length : Int) then ((impl_word16.f t287).bind fun t300 => (some ((copyAt y278 (6 : Int).toNat t300), 0))) else (none)))) else (none)))) else (none))) else (none)))) else (none))) = some (r1, r2) := by first | (rw [hy263]; with_reducible exact H) | (have H2_ := (Option.bind_some _ _).symm.trans H; rw [hy263]; with_reducible exact H2_) | (have H2_ := (Option.bind_some _ _).symm.trans H; with_reducible exact H2_) | with_reducible exact H | (rw [hy263]; exact H) | exact H
            have Ny263 := Aside0.mk hy263
            clear hy263
            replace H := Option.bind_eq_some_iff.mp H
            obtain ⟨t266, A280, H⟩ := H
            replace H : (if y263.length + t266.length < 140737488355328 then ((some (y263 ++ t266 : List Int)).bind fun y269 => ((some (([0, 0] : List Int) : List Int)).bind fun y272 => (if y269.length + y272.length < 140737488355328 then ((some (y269 ++ y272 : List Int)).bind fun y275 => (if y275.length + l2_2.length < 140737488355328 then ((some (y275 ++ l2_2 : List Int)).bind fun y278 => ((impl_sumHead.f a0 a1 17 (y278.length : Int)).bind fun t281 => (if t281.length + y278.length < 140737488355328 then ((impl_checkSum.f kj9 (t281 ++ y278)).bind fun t287 => (if t287 = 0 then (if 6 ≤ (y278.length : Int) then ((impl_word16.f 65535).bind fun t292 => (some ((copyAt y278 (6 : Int).toNat t292), 0))) else (none)) else (if 6 ≤ (y278.length : Int) then ((impl_word16.f t287).bind fun t300 => (some ((copyAt y278 (6 : Int).toNat t300), 0))) else (none)))) else (none)))) else (none))) else (none)))) else (none)) = some (r1, r2) := H
            have A28 := Aside0.mk A280
            clear A280
            by_cases c29 : y263.length + t266.length < 140737488355328
            · rw [if_pos c29] at H
              have LMc29 := Aside0.mk c29
              clear c29
              obtain ⟨y269, hy269⟩ : ∃ y_ : List Int, y_ = (y263 ++ t266) := ⟨_, rfl⟩
              replace H : ((some (([0, 0] : List Int) : List Int)).bind fun y272 => (if y269.length + y272.length < 140737488355328 then ((some (y269 ++ y272 : List Int)).bind fun y275 => (if y275.length + l2_2.length < 140737488355328 then ((some (y275 ++ l2_2 : List Int)).bind fun y278 => ((impl_sumHead.f a0 a1 17 (y278.length : Int)).bind fun t281 => (if t281.length + y278.length < 140737488355328 then ((impl_checkSum.f kj9 (t281 ++ y278)).bind fun t287 => (if t287 = 0 then (if 6 ≤ (y278.length : Int) then ((impl_word16.f 65535).bind fun t292 => (some ((copyAt y278 (6 : Int).toNat t292), 0))) else (none)) else (if 6 ≤ (y278.length : Int) then ((impl_word16.f t287).bind fun t300 => (some ((copyAt y278 (6 : Int).toNat t300), 0))) else (none)))) else (none)))) else (none))) else (none))) = some (r1, r2) := by first | (rw [hy269]; with_reducible exact H) | (have H2_ := (Option.bind_some _ _).symm.trans H; rw [hy269]; with_reducible exact H2_) | (have H2_ := (Option.bind_some _ _).symm.trans H; with_reducible exact H2_) | with_reducible exact H | (rw [hy269]; exact H) | exact H
              have Ny269 := Aside0.mk hy269
              clear hy269
              obtain ⟨y272, hy272⟩ : ∃ y_ : List Int, y_ = (([0, 0] : List Int)) := ⟨_, rfl⟩
              replace H : (if y269.length + y272.length < 140737488355328 then ((some (y269 ++ y272 : List Int)).bind fun y275 => (if y275.length + l2_2.length < 140737488355328 then ((some (y275 ++ l2_2 : List Int)).bind fun y278 => ((impl_sumHead.f a0 a1 17 (y278.length : Int)).bind fun t281 => (if t281.length + y278.length < 140737488355328 then ((impl_checkSum.f kj9 (t281 ++ y278)).bind fun t287 => (if t287 = 0 then (if 6 ≤ (y278.length : Int) then ((impl_word16.f 65535).bind fun t292 => (some ((copyAt y278 (6 : Int).toNat t292), 0))) else (none)) else (if 6 ≤ (y278.length : Int) then ((impl_word16.f t287).bind fun t300 => (some ((copyAt y278 (6 : Int).toNat t300), 0))) else (none)))) else (none)))) else (none))) else (none)) = some (r1, r2) := by first | (rw [hy272]; with_reducible exact H) | (have H2_ := (Option.bind_some _ _).symm.trans H; rw [hy272]; with_reducible exact H2_) | (have H2_ := (Option.bind_some _ _).symm.trans H; with_reducible exact H2_) | with_reducible exact H | (rw [hy272]; exact H) | exact H
              have Ny272 := Aside0.mk hy272
              clear hy272
              by_cases c30 : y269.length + y272.length < 140737488355328
              · rw [if_pos c30] at H
                have LMc30 := Aside0.mk c30
                clear c30
                obtain ⟨y275, hy275⟩ : ∃ y_ : List Int, y_ = (y269 ++ y272) := ⟨_, rfl⟩
                replace H : (if y275.length + l2_2.length < 140737488355328 then ((some (y275 ++ l2_2 : List Int)).bind fun y278 => ((impl_sumHead.f a0 a1 17 (y278.length : Int)).bind fun t281 => (if t281.length + y278.length < 140737488355328 then ((impl_checkSum.f kj9 (t281 ++ y278)).bind fun t287 => (if t287 = 0 then (if 6 ≤ (y278.length : Int) then ((impl_word16.f 65535).bind fun t292 => (some ((copyAt y278 (6 : Int).toNat t292), 0))) else (none)) else (if 6 ≤ (y278.length : Int) then ((impl_word16.f t287).bind fun t300 => (some ((copyAt y278 (6 : Int).toNat t300), 0))) else (none)))) else (none)))) else (none)) = some (r1, r2) := by first | (rw [hy275]; with_reducible exact H) | (have H2_ := (Option.bind_some _ _).symm.trans H; rw [hy275]; with_reducible exact H2_) | (have H2_ := (Option.bind_some _ _).symm.trans H; with_reducible exact H2_) | with_reducible exact H | (rw [hy275]; exact H) | exact H
                have Ny275 := Aside0.mk hy275
                clear hy275
                by_cases c31 : y275.length + l2_2.length < 140737488355328
                · rw [if_pos c31] at H
                  have LMc31 := Aside0.mk c31
                  clear c31
                  obtain ⟨y278, hy278⟩ : ∃ y_ : List Int, y_ = (y275 ++ l2_2) := ⟨_, rfl⟩
                  replace H : ((impl_sumHead.f a0 a1 17 (y278.length : Int)).bind fun t281 => (if t281.length + y278.length < 140737488355328 then ((impl_checkSum.f kj9 (t281 ++ y278)).bind fun t287 => (if t287 = 0 then (if 6 ≤ (y278.length : Int) then ((impl_word16.f 65535).bind fun t292 => (some ((copyAt y278 (6 : Int).toNat t292), 0))) else (none)) else (if 6 ≤ (y278.length : Int) then ((impl_word16.f t287).bind fun t300 => (some ((copyAt y278 (6 : Int).toNat t300), 0))) else (none)))) else (none))) = some (r1, r2) := by first | (rw [hy278]; with_reducible exact H) | (have H2_ := (Option.bind_some _ _).symm.trans H; rw [hy278]; with_reducible exact H2_) | (have H2_ := (Option.bind_some _ _).symm.trans H; with_reducible exact H2_) | with_reducible exact H | (rw [hy278]; exact H) | exact H
                  have Ny278 := Aside0.mk hy278
                  clear hy278
                  replace H := Option.bind_eq_some_iff.mp H
                  obtain ⟨t281, A320, H⟩ := H
                  replace H : (if t281.length + y278.length < 140737488355328 then ((impl_checkSum.f kj9 (t281 ++ y278)).bind fun t287 => (if t287 = 0 then (if 6 ≤ (y278.length : Int) then ((impl_word16.f 65535).bind fun t292 => (some ((copyAt y278 (6 : Int).toNat t292), 0))) else (none)) else (if 6 ≤ (y278.length : Int) then ((impl_word16.f t287).bind fun t300 => (some ((copyAt y278 (6 : Int).toNat t300), 0))) else (none)))) else (none)) = some (r1, r2) := H
                  have A32 := Aside0.mk A320
                  clear A320
                  by_cases c33 : t281.length + y278.length < 140737488355328
                  · rw [if_pos c33] at H
                    have LMc33 := Aside0.mk c33
                    clear c33
                    obtain ⟨y284, hy284⟩ : ∃ y_ : List Int, y_ = (t281 ++ y278) := ⟨_, rfl⟩
                    replace H : ((impl_checkSum.f kj9 y284).bind fun t287 => (if t287 = 0 then (if 6 ≤ (y278.length : Int) then ((impl_word16.f 65535).bind fun t292 => (some ((copyAt y278 (6 : Int).toNat t292), 0))) else (none)) else (if 6 ≤ (y278.length : Int) then ((impl_word16.f t287).bind fun t300 => (some ((copyAt y278 (6 : Int).toNat t300), 0))) else (none)))) = some (r1, r2) := by first | (rw [hy284]; with_reducible exact H) | (have H2_ := (Option.bind_some _ _).symm.trans H; rw [hy284]; with_reducible exact H2_) | (have H2_ := (Option.bind_some _ _).symm.trans H; with_reducible exact H2_) | with_reducible exact H | (rw [hy284]; exact H) | exact H
                    have Ny284 := Aside0.mk hy284
                    clear hy284
                    replace H := Option.bind_eq_some_iff.mp H
                    obtain ⟨t287, A340, H⟩ := H
                    replace H : (if t287 = 0 then (if 6 ≤ (y278.length : Int) then ((impl_word16.f 65535).bind fun t292 => (some ((copyAt y278 (6 : Int).toNat t292), 0))) else (none)) else (if 6 ≤ (y278.length : Int) then ((impl_word16.f t287).bind fun t300 => (some ((copyAt y278 (6 : Int).toNat t300), 0))) else (none))) = some (r1, r2) := H
                    have A34 := Aside0.mk A340
                    clear A340
                    by_cases c35 : t287 = 0
                    · rw [if_pos c35] at H
                      have c35b0 : (t287 == 0) = true := beq_iff_eq.mpr c35
                      have c35b1 : (t287 != 0) = false := bne_eq_false_iff_eq.mpr c35
                      clear c35
                      by_cases c36 : 6 ≤ (y278.length : Int)
                      · rw [if_pos c36] at H
                        have c36b0 := eq_true c36
                        have c36b1 : decide (6 ≤ (y278.length : Int)) = true := decide_eq_true c36
                        clear c36
                        obtain ⟨y288, hy288⟩ : ∃ y_ : List Int, y_ = (y278.drop 6) := ⟨_, rfl⟩
                        replace H : ((impl_word16.f 65535).bind fun t292 => (some ((copyAt y278 (6 : Int).toNat t292), 0))) = some (r1, r2) := by first | (rw [hy288]; with_reducible exact H) | (have H2_ := (Option.bind_some _ _).symm.trans H; rw [hy288]; with_reducible exact H2_) | (have H2_ := (Option.bind_some _ _).symm.trans H; with_reducible exact H2_) | with_reducible exact H | (rw [hy288]; exact H) | exact H
                        have Ny288 := Aside0.mk hy288
                        clear hy288
                        replace H := Option.bind_eq_some_iff.mp H
                        obtain ⟨t292, A370, H⟩ := H
                        replace H : (some ((copyAt y278 (6 : Int).toNat t292), 0)) = some (r1, r2) := H
                        have A37 := Aside0.mk A370
                        clear A370
                        obtain ⟨y295, hy295⟩ : ∃ y_ : List Int, y_ = (copyAt y278 (6 : Int).toNat t292) := ⟨_, rfl⟩
                        replace H : (some (y295, 0)) = some (r1, r2) := by first | (rw [hy295]; with_reducible exact H) | (have H2_ := (Option.bind_some _ _).symm.trans H; rw [hy295]; with_reducible exact H2_) | (have H2_ := (Option.bind_some _ _).symm.trans H; with_reducible exact H2_) | with_reducible exact H | (rw [hy295]; exact H) | exact H
                        have Ny295 := Aside0.mk hy295
                        clear hy295
                        simp only [Option.some.injEq, Prod.mk.injEq] at H
                        obtain ⟨rfl, rfl⟩ := H
                        try go_wp2
                        have n0_ := Aside0.mk (blk_drew BK249.out)
                        have n1_ := Aside0.mk (below_drew1 HB.out)
                        clear BK249
                        clear HB
                        have BK249 := n0_
                        have HB := n1_
                        clear n0_ n1_
                        refine start_ (n := 8) (S := fun w' => w'.cell? ⟨gb249, 0, none⟩ = some (.int .i64 a2_0) ∧ w'.cell? ⟨gb249, 1, none⟩ = some (.int .i64 a2_1) ∧ w'.cell? ⟨gb249, 2, none⟩ = some (.slice A2_2 l2_2.length c2_2)) (ds := []) #[false, false, false, false, false, false, false, false] (by kernel_rfl) rfl rfl ⟨(blk_cell BK249.out 0).trans rfl, (blk_cell BK249.out 1).trans rfl, (blk_cell BK249.out 2).trans rfl⟩ (fun hHeld => ?_); refine with_tabW impl_UdpBytes.tab5 impl_UdpBytes.bits5 (fun HT_ HW_ => ?_)
                        generalize wc.drew = w38 at BK249 HB hHeld ⊢
                        refine pure_ (i := 0) (N := some 36) (v := ?_) (a' := ?_) #[true, false, false, false, false, false, false, false] rfl rfl (any_of HT_.out (by kernel_rfl)) (fun _ _ _ h => h) (Or.inl ⟨by rfl, ?_⟩) ?_ ?_
                        rotate_left
                        · intro w'
                          go_simp
                          with_reducible rfl
                        rotate_left
                        · simp only [Act.put, List.setIfInBounds_toArray, List.set_cons_zero, List.set_cons_succ, i64_w, i32_w]
                          rfl
                        refine pure_ (i := 3) (N := some 39) (v := ?_) (a' := ?_) #[true, false, false, true, false, false, false, false] rfl rfl (any_of HT_.out (by kernel_rfl)) (fun _ _ _ h => h) (Or.inl ⟨by rfl, ?_⟩) ?_ ?_
                        rotate_left
                        · intro w'
                          go_simp
                          with_reducible rfl
                        rotate_left
                        · simp only [Act.put, List.setIfInBounds_toArray, List.set_cons_zero, List.set_cons_succ, i64_w, i32_w]
                          rfl
                        refine take_ (i := 1) (N := some 37) (v := ?_) (a' := ?_) #[true, true, false, true, false, false, false, false] rfl rfl (take_ofW HT_.out HW_.out (by kernel_rfl)) (fun _ _ _ h => h) (Or.inl ⟨by rfl, ?_⟩) hHeld ?_ ?_
                        rotate_left
                        · rintro w' ⟨s0, s1, s2⟩
                          go_simp
                          with_reducible rfl
                        rotate_left
                        · simp only [Act.put, List.setIfInBounds_toArray, List.set_cons_zero, List.set_cons_succ, i64_w, i32_w]
                          rfl
                        refine take_ (i := 4) (N := some 40) (v := ?_) (a' := ?_) #[true, true, false, true, true, false, false, false] rfl rfl (take_ofW HT_.out HW_.out (by kernel_rfl)) (fun _ _ _ h => h) (Or.inl ⟨by rfl, ?_⟩) hHeld ?_ ?_
                        rotate_left
                        · rintro w' ⟨s0, s1, s2⟩
                          go_simp
                          with_reducible rfl
                        rotate_left
                        · simp only [Act.put, List.setIfInBounds_toArray, List.set_cons_zero, List.set_cons_succ, i64_w, i32_w]
                          rfl
                        refine one_ (i := 2) (N := some 38) #[true, true, true, true, true, false, false, false] rfl rfl (one_of HT_.out (by kernel_rfl)) (by decide) (fun K hK => ?_)
                        refine goes_ Try.func84 (by kernel_rfl) rfl #[.int .i64 a2_0] (by rfl) rfl rfl (by (try simp only [List.map_toArray, List.map_cons, List.map_nil]); first | done | rfl | (simp only [List.length_drop, List.length_take]; rfl)) ?_
                        with_reducible refine (impl_word16.calls a2_0 t257 _ A25.out).mono ?_
                        rintro e w39 ⟨v258, rfl, ho0, hb⟩
                        refine ⟨_, rfl, ?_⟩
                        have n0_ := Aside0.mk (Kd.R_lower ho0 (below_size (by repeat (first | (with_reducible first | exact HB.out | apply below_alloc | apply pw_below_drewN | apply below_drew1 | refine below_set ?_ GE249.out) | exact HB.out))))
                        have n1_ := Aside0.mk (blk_below (g := gb249) (o := .cells #[.int .i64 a2_0, .int .i64 a2_1, .slice A2_2 l2_2.length c2_2] 52 (0, 0)) (by (with_reducible repeat (first | refine blk_drewN ?_ _ | refine blk_drew ?_ | refine blk_alloc ?_ _)); exact BK249.out) hb)
                        have n2_ := Aside0.mk (below_step (by repeat (first | (with_reducible first | exact HB.out | apply below_alloc | apply pw_below_drewN | apply below_drew1 | refine below_set ?_ GE249.out) | exact HB.out)) hb)
                        clear BK249
                        clear HB
                        have HO259 := n0_
                        have BK249 := n1_
                        have HB := n2_
                        clear n0_ n1_ n2_
                        (try clear hb)
                        (try clear hb2)
                        (try clear hk)
                        (try clear hi)
                        (try clear ho0)
                        refine hK.out _ _ ⟨(blk_cell BK249.out 0).trans rfl, (blk_cell BK249.out 1).trans rfl, (blk_cell BK249.out 2).trans rfl⟩ (fun hHeld => ?_)
                        clear hK K
                        refine norm_ (a' := ?_) ?_ ?_
                        rotate_left
                        · show Act.put _ (some 38) _ = _
                          simp only [Act.put, List.setIfInBounds_toArray, List.set_cons_zero, List.set_cons_succ, i64_w, i32_w]
                          rfl
                        refine one_ (i := 5) (N := some 41) #[true, true, true, true, true, true, false, false] rfl rfl (one_of HT_.out (by kernel_rfl)) (by decide) (fun K hK => ?_)
                        refine goes_ Try.func84 (by kernel_rfl) rfl #[.int .i64 a2_1] (by rfl) rfl rfl (by (try simp only [List.map_toArray, List.map_cons, List.map_nil]); first | done | rfl | (simp only [List.length_drop, List.length_take]; rfl)) ?_
                        with_reducible refine (impl_word16.calls a2_1 t260 _ A26.out).mono ?_
                        rintro e w40 ⟨v261, rfl, ho0, hb⟩
                        refine ⟨_, rfl, ?_⟩
                        have n0_ := Aside0.mk (Kd.R_elder' (by (with_reducible repeat (first | apply Kd.R_alloc | apply Kd.R_drewN | apply Kd.R_drew)); exact HO259.out) (Kd.R_base ho0) hb)
                        have n1_ := Aside0.mk (Kd.R_lower (Kd.R_new' ho0 (Kd.R_lt (by (with_reducible repeat (first | apply Kd.R_alloc | apply Kd.R_drewN | apply Kd.R_drew)); exact HO259.out))) (below_size (by repeat (first | (with_reducible first | exact HB.out | apply below_alloc | apply pw_below_drewN | apply below_drew1 | refine below_set ?_ GE249.out) | exact HB.out))))
                        have n2_ := Aside0.mk (blk_below (g := gb249) (o := .cells #[.int .i64 a2_0, .int .i64 a2_1, .slice A2_2 l2_2.length c2_2] 52 (0, 0)) (by (with_reducible repeat (first | refine blk_drewN ?_ _ | refine blk_drew ?_ | refine blk_alloc ?_ _)); exact BK249.out) hb)
                        have n3_ := Aside0.mk (below_step (by repeat (first | (with_reducible first | exact HB.out | apply below_alloc | apply pw_below_drewN | apply below_drew1 | refine below_set ?_ GE249.out) | exact HB.out)) hb)
                        clear HO259
                        clear BK249
                        clear HB
                        have HO259 := n0_
                        have HO262 := n1_
                        have BK249 := n2_
                        have HB := n3_
                        clear n0_ n1_ n2_ n3_
                        (try clear hb)
                        (try clear hb2)
                        (try clear hk)
                        (try clear hi)
                        (try clear ho0)
                        obtain ⟨Ao42, co42, eo42⟩ := Kd.R_slice HO262.out
                        (first | subst eo42 | (injection eo42 with f1_ f2_ f3_; have f4_ := f1_.symm; have f5_ := f3_.symm; clear f1_ f2_ f3_; subst f4_; subst f5_))
                        refine hK.out _ _ ⟨(blk_cell BK249.out 0).trans rfl, (blk_cell BK249.out 1).trans rfl, (blk_cell BK249.out 2).trans rfl⟩ (fun hHeld => ?_)
                        clear hK K
                        refine norm_ (a' := ?_) ?_ ?_
                        rotate_left
                        · show Act.put _ (some 41) _ = _
                          simp only [Act.put, List.setIfInBounds_toArray, List.set_cons_zero, List.set_cons_succ, i64_w, i32_w]
                          rfl
                        refine one_ (i := 6) (N := some 42) #[true, true, true, true, true, true, true, false] rfl rfl (one_of HT_.out (by kernel_rfl)) (by decide) (fun K hK => ?_)
                        refine Kd.R_append_rows_step (Kd.int .u8) (w0 := w) w.heap.size (by rfl) (.tmp 38) (.tmp 41) 25 5 (.int .u8 0) 1 rfl Try.underlying25 info5 rfl (by decide) (by omega) v258 t257 t260 _ _ _ (fun k_ => some k_ ≠ (.slice Ao42 t260.length co42 : Value).ownBlock) (fun _ => False) rfl rfl ?aO ?aR (fun _ _ h => h) (fun _ h => h.elim) ?aF ?aB ?aS ?aL ?_
                        (case aR => repeat (first | exact (Kd.R_reads' HO262.out).2.2 | (with_reducible refine Kd.C_alloc ?_ _) | (with_reducible refine Kd.C_drewN ?_ _) | (with_reducible refine Kd.C_drew ?_)))
                        (case aB => exact (by repeat (first | (with_reducible first | exact HB.out | apply below_alloc | apply pw_below_drewN | apply below_drew1 | refine below_set ?_ GE249.out) | exact HB.out)))
                        (case aF => exact (fun k_ hk => Kd.fresh' (Kd.R_lt (by (with_reducible repeat (first | apply Kd.R_alloc | apply Kd.R_drewN | apply Kd.R_drew)); exact HO262.out)) k_ hk))
                        (case aO => exact (by (with_reducible repeat (first | apply Kd.R_alloc | apply Kd.R_drewN | apply Kd.R_drew)); (first | exact Kd.R_mono HO259.out (fun _ hk => hk.2) | exact HO259.out)))
                        (case aS => exact (below_size (by repeat (first | (with_reducible first | exact HB.out | apply below_alloc | apply pw_below_drewN | apply below_drew1 | refine below_set ?_ GE249.out) | exact HB.out))))
                        (case aL => have := LMc27.out; omega)
                        intro v264 w41 ho hb hg hat
                        rw [← Ny263.out] at ho
                        have n0_ := Aside0.mk (blk_grown (g := gb249) (o := .cells #[.int .i64 a2_0, .int .i64 a2_1, .slice A2_2 l2_2.length c2_2] 52 (0, 0)) (by (with_reducible repeat (first | refine blk_drewN ?_ _ | refine blk_drew ?_ | refine blk_alloc ?_ _)); exact BK249.out) hg (Kd.R_ne HO259.out BK249.out (by decide)))
                        have n1_ := Aside0.mk (Kd.R_after (ok := (fun _ => True)) (by (with_reducible repeat (first | apply Kd.R_alloc | apply Kd.R_drewN | apply Kd.R_drew)); (first | exact HO262.out | exact Kd.R_mono HO262.out (fun _ hk => ⟨trivial, hk⟩) | exact Kd.R_mono HO262.out (fun _ hk => by simp only [and_assoc] at hk ⊢; exact hk))) hg hat)
                        have n2_ := Aside0.mk (hb)
                        have n3_ := Aside0.mk (ho)
                        clear BK249
                        clear HO262
                        clear HB
                        clear HO259
                        have BK249 := n0_
                        have HO262 := n1_
                        have HB := n2_
                        have HO265 := n3_
                        clear n0_ n1_ n2_ n3_
                        clear ho hb hg hat
                        refine hK.out _ _ ⟨(blk_cell BK249.out 0).trans rfl, (blk_cell BK249.out 1).trans rfl, (blk_cell BK249.out 2).trans rfl⟩ (fun hHeld => ?_)
                        clear hK K
                        refine norm_ (a' := ?_) ?_ ?_
                        rotate_left
                        · show Act.put _ (some 42) _ = _
                          simp only [Act.put, List.setIfInBounds_toArray, List.set_cons_zero, List.set_cons_succ, i64_w, i32_w]
                          rfl
                        refine pure_ (i := 7) (N := some 8) (v := ?_) (a' := ?_) #[true, true, true, true, true, true, true, true] rfl rfl (any_of HT_.out (by kernel_rfl)) (fun _ _ _ h => h) (Or.inl ⟨by rfl, ?_⟩) ?_ ?_
                        rotate_left
                        · intro w'
                          go_simp
                          with_reducible rfl
                        rotate_left
                        · simp only [Act.put, List.setIfInBounds_toArray, List.set_cons_zero, List.set_cons_succ, i64_w, i32_w]
                          rfl
                        refine done_ (done_of HT_.out (by kernel_rfl)) ?_
                        have hcz43_0 : w41.cell? ⟨gb249, 0, none⟩ = some (.int .i64 a2_0) := (blk_cell BK249.out 0).trans rfl
                        have hcz43_1 : w41.cell? ⟨gb249, 1, none⟩ = some (.int .i64 a2_1) := (blk_cell BK249.out 1).trans rfl
                        have hcz43_2 : w41.cell? ⟨gb249, 2, none⟩ = some (.slice A2_2 l2_2.length c2_2) := (blk_cell BK249.out 2).trans rfl
                        have hfz43_0 := blk_frozen BK249.out 0
                        have hfz43_1 := blk_frozen BK249.out 1
                        have hfz43_2 := blk_frozen BK249.out 2
                        try go_wp2_with (first | ((with_reducible refine gate_callee (f := 84) rfl ?_); refine goesL_ (some 48) rfl rfl Try.func84 (by kernel_rfl) rfl #[.int .i64 (wrap64 (8 + (l2_2.length : Int)))] rfl (by (try simp only [List.map_toArray, List.map_cons, List.map_nil]); first | done | rfl | (simp only [List.length_drop, List.length_take]; rfl)) ?_; (with_reducible refine (impl_word16.calls (wrap64 (8 + (l2_2.length : Int))) t266 _ A28.out).mono ?_); rintro e w44 ⟨v267, rfl, ho0, hb⟩; refine ⟨_, rfl, ?_⟩; have n0_ := Aside0.mk (Kd.R_elder' (by (with_reducible repeat (first | apply Kd.R_alloc | apply Kd.R_drewN | apply Kd.R_drew)); exact HO262.out) (Kd.R_base ho0) hb); have n1_ := Aside0.mk (Kd.R_elder' (by (with_reducible repeat (first | apply Kd.R_alloc | apply Kd.R_drewN | apply Kd.R_drew)); exact HO265.out) (Kd.R_base ho0) hb); have n2_ := Aside0.mk (Kd.R_lower (Kd.R_new' (Kd.R_new' ho0 (Kd.R_lt (by (with_reducible repeat (first | apply Kd.R_alloc | apply Kd.R_drewN | apply Kd.R_drew)); exact HO262.out))) (Kd.R_lt (by (with_reducible repeat (first | apply Kd.R_alloc | apply Kd.R_drewN | apply Kd.R_drew)); exact HO265.out))) (below_size (by repeat (first | (with_reducible first | exact HB.out | apply below_alloc | apply pw_below_drewN | apply below_drew1 | refine below_set ?_ GE249.out) | exact HB.out)))); have n3_ := Aside0.mk (blk_below (g := gb249) (o := .cells #[.int .i64 a2_0, .int .i64 a2_1, .slice A2_2 l2_2.length c2_2] 52 (0, 0)) (by (with_reducible repeat (first | refine blk_drewN ?_ _ | refine blk_drew ?_ | refine blk_alloc ?_ _)); exact BK249.out) hb); have n4_ := Aside0.mk (below_step (by repeat (first | (with_reducible first | exact HB.out | apply below_alloc | apply pw_below_drewN | apply below_drew1 | refine below_set ?_ GE249.out) | exact HB.out)) hb); clear HO262; clear HO265; clear BK249; clear HB; have HO262 := n0_; have HO265 := n1_; have HO268 := n2_; have BK249 := n3_; have HB := n4_; clear n0_ n1_ n2_ n3_ n4_; (try clear hb); (try clear hb2); (try clear hk); (try clear hi); (try clear ho0); obtain ⟨Ao46, co46, eo46⟩ := Kd.R_slice HO268.out; subst eo46) | ((with_reducible refine gate_builtin (b := .append) (xs := #[.tmp 43, .tmp 48]) rfl ?_); at_builtin; refine Kd.R_append_rows (Kd.int .u8) (w0 := w) w.heap.size rfl (.tmp 43) (.tmp 48) 25 5 (.int .u8 0) 1 rfl Try.underlying25 info5 rfl (by decide) (by omega) v264 y263 t266 _ _ _ (fun k_ => some k_ ≠ (.slice Ao42 t260.length co42 : Value).ownBlock ∧ some k_ ≠ (.slice Ao46 t266.length co46 : Value).ownBlock) (fun _ => False) rfl rfl ?aO ?aR (fun _ _ h => h) (fun _ h => h.elim) ?aF ?aB ?aS ?aL ?_; (case aR => repeat (first | exact (Kd.R_reads' HO268.out).2.2 | (with_reducible refine Kd.C_alloc ?_ _) | (with_reducible refine Kd.C_drewN ?_ _) | (with_reducible refine Kd.C_drew ?_))); (case aB => exact (by repeat (first | (with_reducible first | exact HB.out | apply below_alloc | apply pw_below_drewN | apply below_drew1 | refine below_set ?_ GE249.out) | exact HB.out))); (case aF => exact (fun k_ hk => ⟨Kd.fresh' (Kd.R_lt (by (with_reducible repeat (first | apply Kd.R_alloc | apply Kd.R_drewN | apply Kd.R_drew)); exact HO262.out)) k_ hk, Kd.fresh' (Kd.R_lt (by (with_reducible repeat (first | apply Kd.R_alloc | apply Kd.R_drewN | apply Kd.R_drew)); exact HO268.out)) k_ hk⟩)); (case aO => exact (by (with_reducible repeat (first | apply Kd.R_alloc | apply Kd.R_drewN | apply Kd.R_drew)); exact HO265.out)); (case aS => exact (below_size (by repeat (first | (with_reducible first | exact HB.out | apply below_alloc | apply pw_below_drewN | apply below_drew1 | refine below_set ?_ GE249.out) | exact HB.out)))); (case aL => have := LMc29.out; omega); intro v270 w45 ho hb hg hat; rw [← Ny269.out] at ho; have n0_ := Aside0.mk (blk_grown (g := gb249) (o := .cells #[.int .i64 a2_0, .int .i64 a2_1, .slice A2_2 l2_2.length c2_2] 52 (0, 0)) (by (with_reducible repeat (first | refine blk_drewN ?_ _ | refine blk_drew ?_ | refine blk_alloc ?_ _)); exact BK249.out) hg (Kd.R_ne HO265.out BK249.out (by decide))); have n1_ := Aside0.mk (Kd.R_after (ok := (fun k_ => some k_ ≠ (.slice Ao46 t266.length co46 : Value).ownBlock)) (by (with_reducible repeat (first | apply Kd.R_alloc | apply Kd.R_drewN | apply Kd.R_drew)); exact Kd.R_mono HO262.out (fun _ hk => ⟨hk.2, hk.1.2⟩)) hg hat); have n2_ := Aside0.mk (Kd.R_after (ok := (fun k_ => some k_ ≠ (.slice Ao42 t260.length co42 : Value).ownBlock)) (by (with_reducible repeat (first | apply Kd.R_alloc | apply Kd.R_drewN | apply Kd.R_drew)); exact Kd.R_mono HO268.out (fun _ hk => ⟨hk.1.2, hk.2⟩)) hg hat); have n3_ := Aside0.mk (hb); have n4_ := Aside0.mk (ho); clear BK249; clear HO262; clear HO268; clear HB; clear HO265; have BK249 := n0_; have HO262 := n1_; have HO268 := n2_; have HB := n3_; have HO271 := n4_; clear n0_ n1_ n2_ n3_ n4_; clear ho hb hg hat) | ((with_reducible refine gate_dst (N := 51) rfl ?_); refine Kd.R_lit (Kd.int .u8) _ 5 ?hg (N := 51) ?hd (xs := ([0, 0] : List Int)) (inner := [.int .u8 0, .int .u8 0]) (ok := fun _ => True) (okp := fun _ => True) ?hr ?hp (fun _ hk => hk) trivial (Below.refl _ _) (Nat.le_refl _) (by simp) ?_; (case hd => rfl); (case hg => rfl); (case hr => first | (go_simp; done) | (go_simp; rfl)); (case hp => exact (Reps.one (show Kd.M (Kd.int .u8) _ _ _ 0 [.int .u8 0] from rfl) (Reps.one (show Kd.M (Kd.int .u8) _ _ _ 0 [.int .u8 0] from rfl) (Reps.none _ _)))); intro v273 w47 ho48 hb hg_ hnew_; clear hg_ hnew_; (first | rw [← Ny272.out] at ho48 | (simp only [Int.reduceToNat] at ho48; rw [← Ny272.out] at ho48)); have n0_ := Aside0.mk (Kd.R_elder' (by (with_reducible repeat (first | apply Kd.R_alloc | apply Kd.R_drewN | apply Kd.R_drew)); exact HO262.out) (Kd.R_base ho48) hb); have n1_ := Aside0.mk (Kd.R_elder' (by (with_reducible repeat (first | apply Kd.R_alloc | apply Kd.R_drewN | apply Kd.R_drew)); exact HO268.out) (Kd.R_base ho48) hb); have n2_ := Aside0.mk (Kd.R_elder' (by (with_reducible repeat (first | apply Kd.R_alloc | apply Kd.R_drewN | apply Kd.R_drew)); exact HO271.out) (Kd.R_base ho48) hb); have n3_ := Aside0.mk (Kd.R_lower (Kd.R_new' (Kd.R_new' (Kd.R_new' ho48 (Kd.R_lt (by (with_reducible repeat (first | apply Kd.R_alloc | apply Kd.R_drewN | apply Kd.R_drew)); exact HO262.out))) (Kd.R_lt (by (with_reducible repeat (first | apply Kd.R_alloc | apply Kd.R_drewN | apply Kd.R_drew)); exact HO268.out))) (Kd.R_lt (by (with_reducible repeat (first | apply Kd.R_alloc | apply Kd.R_drewN | apply Kd.R_drew)); exact HO271.out))) (below_size (by repeat (first | (with_reducible first | exact HB.out | apply below_alloc | apply pw_below_drewN | apply below_drew1 | refine below_set ?_ GE249.out) | exact HB.out)))); have n4_ := Aside0.mk (blk_below (g := gb249) (o := .cells #[.int .i64 a2_0, .int .i64 a2_1, .slice A2_2 l2_2.length c2_2] 52 (0, 0)) (by (with_reducible repeat (first | refine blk_drewN ?_ _ | refine blk_drew ?_ | refine blk_alloc ?_ _)); exact BK249.out) hb); have n5_ := Aside0.mk (below_step (by repeat (first | (with_reducible first | exact HB.out | apply below_alloc | apply pw_below_drewN | apply below_drew1 | refine below_set ?_ GE249.out) | exact HB.out)) hb); clear HO262; clear HO268; clear HO271; clear BK249; clear HB; have HO262 := n0_; have HO268 := n1_; have HO271 := n2_; have HO274 := n3_; have BK249 := n4_; have HB := n5_; clear n0_ n1_ n2_ n3_ n4_ n5_; clear hb ho48; obtain ⟨Ao50, co50, eo50⟩ := Kd.R_slice HO274.out; subst eo50) | ((with_reducible refine gate_builtin (b := .append) (xs := #[.tmp 50, .tmp 51]) rfl ?_); at_builtin; refine Kd.R_append_rows (Kd.int .u8) (w0 := w) w.heap.size rfl (.tmp 50) (.tmp 51) 25 5 (.int .u8 0) 1 rfl Try.underlying25 info5 rfl (by decide) (by omega) v270 y269 y272 _ _ _ (fun k_ => some k_ ≠ (.slice Ao42 t260.length co42 : Value).ownBlock ∧ some k_ ≠ (.slice Ao46 t266.length co46 : Value).ownBlock ∧ some k_ ≠ (.slice Ao50 y272.length co50 : Value).ownBlock) (fun _ => False) rfl rfl ?aO ?aR (fun _ _ h => h) (fun _ h => h.elim) ?aF ?aB ?aS ?aL ?_; (case aR => repeat (first | exact (Kd.R_reads' HO274.out).2.2 | (with_reducible refine Kd.C_alloc ?_ _) | (with_reducible refine Kd.C_drewN ?_ _) | (with_reducible refine Kd.C_drew ?_))); (case aB => exact (by repeat (first | (with_reducible first | exact HB.out | apply below_alloc | apply pw_below_drewN | apply below_drew1 | refine below_set ?_ GE249.out) | exact HB.out))); (case aF => exact (fun k_ hk => ⟨Kd.fresh' (Kd.R_lt (by (with_reducible repeat (first | apply Kd.R_alloc | apply Kd.R_drewN | apply Kd.R_drew)); exact HO262.out)) k_ hk, Kd.fresh' (Kd.R_lt (by (with_reducible repeat (first | apply Kd.R_alloc | apply Kd.R_drewN | apply Kd.R_drew)); exact HO268.out)) k_ hk, Kd.fresh' (Kd.R_lt (by (with_reducible repeat (first | apply Kd.R_alloc | apply Kd.R_drewN | apply Kd.R_drew)); exact HO274.out)) k_ hk⟩)); (case aO => exact (by (with_reducible repeat (first | apply Kd.R_alloc | apply Kd.R_drewN | apply Kd.R_drew)); exact Kd.R_mono HO271.out (fun _ hk => ⟨hk.1.1, ⟨hk.1.2, hk.2⟩⟩))); (case aS => exact (below_size (by repeat (first | (with_reducible first | exact HB.out | apply below_alloc | apply pw_below_drewN | apply below_drew1 | refine below_set ?_ GE249.out) | exact HB.out)))); (case aL => have := LMc30.out; omega); intro v276 w49 ho hb hg hat; rw [← Ny275.out] at ho; have n0_ := Aside0.mk (blk_grown (g := gb249) (o := .cells #[.int .i64 a2_0, .int .i64 a2_1, .slice A2_2 l2_2.length c2_2] 52 (0, 0)) (by (with_reducible repeat (first | refine blk_drewN ?_ _ | refine blk_drew ?_ | refine blk_alloc ?_ _)); exact BK249.out) hg (Kd.R_ne HO271.out BK249.out (by decide))); have n1_ := Aside0.mk (Kd.R_after (ok := (fun k_ => some k_ ≠ (.slice Ao46 t266.length co46 : Value).ownBlock ∧ some k_ ≠ (.slice Ao50 y272.length co50 : Value).ownBlock)) (by (with_reducible repeat (first | apply Kd.R_alloc | apply Kd.R_drewN | apply Kd.R_drew)); exact Kd.R_mono HO262.out (fun _ hk => ⟨⟨hk.1.1, hk.2⟩, hk.1.2⟩)) hg hat); have n2_ := Aside0.mk (Kd.R_after (ok := (fun k_ => some k_ ≠ (.slice Ao42 t260.length co42 : Value).ownBlock ∧ some k_ ≠ (.slice Ao50 y272.length co50 : Value).ownBlock)) (by (with_reducible repeat (first | apply Kd.R_alloc | apply Kd.R_drewN | apply Kd.R_drew)); exact Kd.R_mono HO268.out (fun _ hk => ⟨⟨hk.1.1, hk.2⟩, hk.1.2⟩)) hg hat); have n3_ := Aside0.mk (Kd.R_after (ok := (fun k_ => some k_ ≠ (.slice Ao42 t260.length co42 : Value).ownBlock ∧ some k_ ≠ (.slice Ao46 t266.length co46 : Value).ownBlock)) (by (with_reducible repeat (first | apply Kd.R_alloc | apply Kd.R_drewN | apply Kd.R_drew)); exact Kd.R_mono HO274.out (fun _ hk => ⟨⟨hk.1.1.2, hk.1.2⟩, hk.2⟩)) hg hat); have n4_ := Aside0.mk (hb); have n5_ := Aside0.mk (ho); clear BK249; clear HO262; clear HO268; clear HO274; clear HB; clear HO271; have BK249 := n0_; have HO262 := n1_; have HO268 := n2_; have HO274 := n3_; have HB := n4_; have HO277 := n5_; clear n0_ n1_ n2_ n3_ n4_ n5_; clear ho hb hg hat; have hcz51_0 : w49.cell? ⟨gb249, 0, none⟩ = some (.int .i64 a2_0) := (blk_cell BK249.out 0).trans rfl; have hcz51_1 : w49.cell? ⟨gb249, 1, none⟩ = some (.int .i64 a2_1) := (blk_cell BK249.out 1).trans rfl; have hcz51_2 : w49.cell? ⟨gb249, 2, none⟩ = some (.slice A2_2 l2_2.length c2_2) := (blk_cell BK249.out 2).trans rfl; have hfz51_0 := blk_frozen BK249.out 0; have hfz51_1 := blk_frozen BK249.out 1; have hfz51_2 := blk_frozen BK249.out 2) | ((with_reducible refine gate_builtin (b := .append) (xs := #[.tmp 53, .tmp 55]) rfl ?_); at_builtin; refine Kd.R_append_rows (Kd.int .u8) (w0 := w) w.heap.size rfl (.tmp 53) (.tmp 55) 25 5 (.int .u8 0) 1 rfl Try.underlying25 info5 rfl (by decide) (by omega) v276 y275 l2_2 _ _ _ (fun k_ => some k_ ≠ (.slice Ao42 t260.length co42 : Value).ownBlock ∧ some k_ ≠ (.slice Ao46 t266.length co46 : Value).ownBlock ∧ some k_ ≠ (.slice Ao50 y272.length co50 : Value).ownBlock) (fun _ => False) rfl rfl ?aO ?aR (fun _ _ h => h) (fun _ h => h.elim) ?aF ?aB ?aS ?aL ?_; (case aR => repeat (first | exact (Kd.C_below HR2_2.out HB.out) | (with_reducible refine Kd.C_alloc ?_ _) | (with_reducible refine Kd.C_drewN ?_ _) | (with_reducible refine Kd.C_drew ?_))); (case aB => exact (by repeat (first | (with_reducible first | exact HB.out | apply below_alloc | apply pw_below_drewN | apply below_drew1 | refine below_set ?_ GE249.out) | exact HB.out))); (case aF => exact (fun k_ hk => ⟨Kd.fresh' (Kd.R_lt (by (with_reducible repeat (first | apply Kd.R_alloc | apply Kd.R_drewN | apply Kd.R_drew)); exact HO262.out)) k_ hk, Kd.fresh' (Kd.R_lt (by (with_reducible repeat (first | apply Kd.R_alloc | apply Kd.R_drewN | apply Kd.R_drew)); exact HO268.out)) k_ hk, Kd.fresh' (Kd.R_lt (by (with_reducible repeat (first | apply Kd.R_alloc | apply Kd.R_drewN | apply Kd.R_drew)); exact HO274.out)) k_ hk⟩)); (case aO => exact (by (with_reducible repeat (first | apply Kd.R_alloc | apply Kd.R_drewN | apply Kd.R_drew)); exact HO277.out)); (case aS => exact (below_size (by repeat (first | (with_reducible first | exact HB.out | apply below_alloc | apply pw_below_drewN | apply below_drew1 | refine below_set ?_ GE249.out) | exact HB.out)))); (case aL => have := LMc31.out; omega); intro v279 w52 ho hb hg hat; rw [← Ny278.out] at ho; have n0_ := Aside0.mk (blk_grown (g := gb249) (o := .cells #[.int .i64 a2_0, .int .i64 a2_1, .slice A2_2 l2_2.length c2_2] 52 (0, 0)) (by (with_reducible repeat (first | refine blk_drewN ?_ _ | refine blk_drew ?_ | refine blk_alloc ?_ _)); exact BK249.out) hg (Kd.R_ne HO277.out BK249.out (by decide))); have n1_ := Aside0.mk (Kd.R_after (ok := (fun k_ => some k_ ≠ (.slice Ao46 t266.length co46 : Value).ownBlock ∧ some k_ ≠ (.slice Ao50 y272.length co50 : Value).ownBlock)) (by (with_reducible repeat (first | apply Kd.R_alloc | apply Kd.R_drewN | apply Kd.R_drew)); (first | exact HO262.out | exact Kd.R_mono HO262.out (fun _ hk => ⟨trivial, hk⟩) | exact Kd.R_mono HO262.out (fun _ hk => by simp only [and_assoc] at hk ⊢; exact hk))) hg hat); have n2_ := Aside0.mk (Kd.R_after (ok := (fun k_ => some k_ ≠ (.slice Ao42 t260.length co42 : Value).ownBlock ∧ some k_ ≠ (.slice Ao50 y272.length co50 : Value).ownBlock)) (by (with_reducible repeat (first | apply Kd.R_alloc | apply Kd.R_drewN | apply Kd.R_drew)); (first | exact HO268.out | exact Kd.R_mono HO268.out (fun _ hk => ⟨trivial, hk⟩) | exact Kd.R_mono HO268.out (fun _ hk => by simp only [and_assoc] at hk ⊢; exact hk))) hg hat); have n3_ := Aside0.mk (Kd.R_after (ok := (fun k_ => some k_ ≠ (.slice Ao42 t260.length co42 : Value).ownBlock ∧ some k_ ≠ (.slice Ao46 t266.length co46 : Value).ownBlock)) (by (with_reducible repeat (first | apply Kd.R_alloc | apply Kd.R_drewN | apply Kd.R_drew)); (first | exact HO274.out | exact Kd.R_mono HO274.out (fun _ hk => ⟨trivial, hk⟩) | exact Kd.R_mono HO274.out (fun _ hk => by simp only [and_assoc] at hk ⊢; exact hk))) hg hat); have n4_ := Aside0.mk (hb); have n5_ := Aside0.mk (ho); clear BK249; clear HO262; clear HO268; clear HO274; clear HB; clear HO277; have BK249 := n0_; have HO262 := n1_; have HO268 := n2_; have HO274 := n3_; have HB := n4_; have HO280 := n5_; clear n0_ n1_ n2_ n3_ n4_ n5_; clear ho hb hg hat; obtain ⟨Ao53, co53, eo53⟩ := Kd.R_slice HO280.out; subst eo53) | ((with_reducible refine gate_callee (f := 95) rfl ?_); refine goesL_ (some 61) rfl rfl Try.func95 (by kernel_rfl) rfl #[.string a0, .string a1, .int .i64 17, .int .i64 (y278.length : Int)] rfl (by (try simp only [List.map_toArray, List.map_cons, List.map_nil]); first | done | rfl | (simp only [List.length_drop, List.length_take]; rfl)) ?_; (with_reducible refine (impl_sumHead.calls a0 a1 17 (y278.length : Int) t281 _ A32.out).mono ?_); rintro e w54 ⟨v282, rfl, ho0, hb⟩; refine ⟨_, rfl, ?_⟩; have n0_ := Aside0.mk (Kd.R_elder' (by (with_reducible repeat (first | apply Kd.R_alloc | apply Kd.R_drewN | apply Kd.R_drew)); exact HO262.out) (Kd.R_base ho0) hb); have n1_ := Aside0.mk (Kd.R_elder' (by (with_reducible repeat (first | apply Kd.R_alloc | apply Kd.R_drewN | apply Kd.R_drew)); exact HO268.out) (Kd.R_base ho0) hb); have n2_ := Aside0.mk (Kd.R_elder' (by (with_reducible repeat (first | apply Kd.R_alloc | apply Kd.R_drewN | apply Kd.R_drew)); exact HO274.out) (Kd.R_base ho0) hb); have n3_ := Aside0.mk (Kd.R_elder' (by (with_reducible repeat (first | apply Kd.R_alloc | apply Kd.R_drewN | apply Kd.R_drew)); exact HO280.out) (Kd.R_base ho0) hb); have n4_ := Aside0.mk (Kd.R_lower (Kd.R_new' (Kd.R_new' (Kd.R_new' (Kd.R_new' ho0 (Kd.R_lt (by (with_reducible repeat (first | apply Kd.R_alloc | apply Kd.R_drewN | apply Kd.R_drew)); exact HO262.out))) (Kd.R_lt (by (with_reducible repeat (first | apply Kd.R_alloc | apply Kd.R_drewN | apply Kd.R_drew)); exact HO268.out))) (Kd.R_lt (by (with_reducible repeat (first | apply Kd.R_alloc | apply Kd.R_drewN | apply Kd.R_drew)); exact HO274.out))) (Kd.R_lt (by (with_reducible repeat (first | apply Kd.R_alloc | apply Kd.R_drewN | apply Kd.R_drew)); exact HO280.out))) (below_size (by repeat (first | (with_reducible first | exact HB.out | apply below_alloc | apply pw_below_drewN | apply below_drew1 | refine below_set ?_ GE249.out) | exact HB.out)))); have n5_ := Aside0.mk (blk_below (g := gb249) (o := .cells #[.int .i64 a2_0, .int .i64 a2_1, .slice A2_2 l2_2.length c2_2] 52 (0, 0)) (by (with_reducible repeat (first | refine blk_drewN ?_ _ | refine blk_drew ?_ | refine blk_alloc ?_ _)); exact BK249.out) hb); have n6_ := Aside0.mk (below_step (by repeat (first | (with_reducible first | exact HB.out | apply below_alloc | apply pw_below_drewN | apply below_drew1 | refine below_set ?_ GE249.out) | exact HB.out)) hb); clear HO262; clear HO268; clear HO274; clear HO280; clear BK249; clear HB; have HO262 := n0_; have HO268 := n1_; have HO274 := n2_; have HO280 := n3_; have HO283 := n4_; have BK249 := n5_; have HB := n6_; clear n0_ n1_ n2_ n3_ n4_ n5_ n6_; (try clear hb); (try clear hb2); (try clear hk); (try clear hi); (try clear ho0)) | ((with_reducible refine gate_builtin (b := .append) (xs := #[.tmp 61, .tmp 62]) rfl ?_); at_builtin; refine Kd.R_append_rows (Kd.int .u8) (w0 := w) w.heap.size rfl (.tmp 61) (.tmp 62) 25 5 (.int .u8 0) 1 rfl Try.underlying25 info5 rfl (by decide) (by omega) v282 t281 y278 _ _ _ (fun k_ => some k_ ≠ (.slice Ao42 t260.length co42 : Value).ownBlock ∧ some k_ ≠ (.slice Ao46 t266.length co46 : Value).ownBlock ∧ some k_ ≠ (.slice Ao50 y272.length co50 : Value).ownBlock ∧ some k_ ≠ (.slice Ao53 y278.length co53 : Value).ownBlock) (fun _ => False) rfl rfl ?aO ?aR (fun _ _ h => h) (fun _ h => h.elim) ?aF ?aB ?aS ?aL ?_; (case aR => repeat (first | exact (Kd.R_reads' HO280.out).2.2 | (with_reducible refine Kd.C_alloc ?_ _) | (with_reducible refine Kd.C_drewN ?_ _) | (with_reducible refine Kd.C_drew ?_))); (case aB => exact (by repeat (first | (with_reducible first | exact HB.out | apply below_alloc | apply pw_below_drewN | apply below_drew1 | refine below_set ?_ GE249.out) | exact HB.out))); (case aF => exact (fun k_ hk => ⟨Kd.fresh' (Kd.R_lt (by (with_reducible repeat (first | apply Kd.R_alloc | apply Kd.R_drewN | apply Kd.R_drew)); exact HO262.out)) k_ hk, Kd.fresh' (Kd.R_lt (by (with_reducible repeat (first | apply Kd.R_alloc | apply Kd.R_drewN | apply Kd.R_drew)); exact HO268.out)) k_ hk, Kd.fresh' (Kd.R_lt (by (with_reducible repeat (first | apply Kd.R_alloc | apply Kd.R_drewN | apply Kd.R_drew)); exact HO274.out)) k_ hk, Kd.fresh' (Kd.R_lt (by (with_reducible repeat (first | apply Kd.R_alloc | apply Kd.R_drewN | apply Kd.R_drew)); exact HO280.out)) k_ hk⟩)); (case aO => exact (by (with_reducible repeat (first | apply Kd.R_alloc | apply Kd.R_drewN | apply Kd.R_drew)); exact Kd.R_mono HO283.out (fun _ hk => ⟨hk.1.1.1.2, ⟨hk.1.1.2, ⟨hk.1.2, hk.2⟩⟩⟩))); (case aS => exact (below_size (by repeat (first | (with_reducible first | exact HB.out | apply below_alloc | apply pw_below_drewN | apply below_drew1 | refine below_set ?_ GE249.out) | exact HB.out)))); (case aL => have := LMc33.out; omega); intro v285 w55 ho hb hg hat; rw [← Ny284.out] at ho; have n0_ := Aside0.mk (blk_grown (g := gb249) (o := .cells #[.int .i64 a2_0, .int .i64 a2_1, .slice A2_2 l2_2.length c2_2] 52 (0, 0)) (by (with_reducible repeat (first | refine blk_drewN ?_ _ | refine blk_drew ?_ | refine blk_alloc ?_ _)); exact BK249.out) hg (Kd.R_ne HO283.out BK249.out (by decide))); have n1_ := Aside0.mk (Kd.R_after (ok := (fun k_ => some k_ ≠ (.slice Ao46 t266.length co46 : Value).ownBlock ∧ some k_ ≠ (.slice Ao50 y272.length co50 : Value).ownBlock ∧ some k_ ≠ (.slice Ao53 y278.length co53 : Value).ownBlock)) (by (with_reducible repeat (first | apply Kd.R_alloc | apply Kd.R_drewN | apply Kd.R_drew)); exact Kd.R_mono HO262.out (fun _ hk => ⟨⟨hk.1.1.1, ⟨hk.1.1.2, hk.1.2⟩⟩, hk.2⟩)) hg hat); have n2_ := Aside0.mk (Kd.R_after (ok := (fun k_ => some k_ ≠ (.slice Ao42 t260.length co42 : Value).ownBlock ∧ some k_ ≠ (.slice Ao50 y272.length co50 : Value).ownBlock ∧ some k_ ≠ (.slice Ao53 y278.length co53 : Value).ownBlock)) (by (with_reducible repeat (first | apply Kd.R_alloc | apply Kd.R_drewN | apply Kd.R_drew)); exact Kd.R_mono HO268.out (fun _ hk => ⟨⟨hk.1.1.1, ⟨hk.1.1.2, hk.1.2⟩⟩, hk.2⟩)) hg hat); have n3_ := Aside0.mk (Kd.R_after (ok := (fun k_ => some k_ ≠ (.slice Ao42 t260.length co42 : Value).ownBlock ∧ some k_ ≠ (.slice Ao46 t266.length co46 : Value).ownBlock ∧ some k_ ≠ (.slice Ao53 y278.length co53 : Value).ownBlock)) (by (with_reducible repeat (first | apply Kd.R_alloc | apply Kd.R_drewN | apply Kd.R_drew)); exact Kd.R_mono HO274.out (fun _ hk => ⟨⟨hk.1.1.1, ⟨hk.1.1.2, hk.1.2⟩⟩, hk.2⟩)) hg hat); have n4_ := Aside0.mk (Kd.R_after (ok := (fun k_ => some k_ ≠ (.slice Ao42 t260.length co42 : Value).ownBlock ∧ some k_ ≠ (.slice Ao46 t266.length co46 : Value).ownBlock ∧ some k_ ≠ (.slice Ao50 y272.length co50 : Value).ownBlock)) (by (with_reducible repeat (first | apply Kd.R_alloc | apply Kd.R_drewN | apply Kd.R_drew)); (first | exact HO280.out | exact Kd.R_mono HO280.out (fun _ hk => ⟨trivial, hk⟩) | exact Kd.R_mono HO280.out (fun _ hk => by simp only [and_assoc] at hk ⊢; exact hk))) hg hat); have n5_ := Aside0.mk (hb); have n6_ := Aside0.mk (ho); clear BK249; clear HO262; clear HO268; clear HO274; clear HO280; clear HB; clear HO283; have BK249 := n0_; have HO262 := n1_; have HO268 := n2_; have HO274 := n3_; have HO280 := n4_; have HB := n5_; have HO286 := n6_; clear n0_ n1_ n2_ n3_ n4_ n5_ n6_; clear ho hb hg hat; obtain ⟨Ao56, co56, eo56⟩ := Kd.R_slice HO286.out; subst eo56) | ((with_reducible refine gate_callee (f := 85) rfl ?_); refine goesL_ (some 64) rfl rfl Try.func85 (by kernel_rfl) rfl #[.slice Ao56 y284.length co56] rfl (by (try simp only [List.map_toArray, List.map_cons, List.map_nil]); first | done | rfl | (simp only [List.length_drop, List.length_take]; rfl)) ?_; (with_reducible refine (impl_checkSum.calls kj9 _ _ y284 t287 _ ?side1 ?side2 A34.out).mono ?_); (case side1 => repeat (first | exact (Kd.R_reads' HO286.out).2.2 | (with_reducible refine Kd.C_alloc ?_ _) | (with_reducible refine Kd.C_drewN ?_ _) | (with_reducible refine Kd.C_drew ?_))); (case side2 => exact (Kd.R_reads' HO286.out).2.1); rintro e w' ⟨rfl, ⟨nd, rfl⟩⟩; refine ⟨_, rfl, ?_⟩))
                        (try (rw [drewN_self w55]; generalize hq_ : World.drewN w55 _ = w55; have n0_ : Aside0 (Kd.R (Kd.int .u8) 5 w55 w.heap.size (fun k_ => ((some k_ ≠ (.slice Ao46 t266.length co46 : Value).ownBlock ∧ (some k_ ≠ (.slice Ao50 y272.length co50 : Value).ownBlock ∧ some k_ ≠ (.slice Ao53 y278.length co53 : Value).ownBlock)) ∧ some k_ ≠ (.slice Ao56 y284.length co56 : Value).ownBlock)) (.slice Ao42 t260.length co42) t260) := ⟨by rw [← hq_]; exact (by (with_reducible repeat (first | apply Kd.R_alloc | apply Kd.R_drewN | apply Kd.R_drew)); exact HO262.out)⟩; have n1_ : Aside0 (Kd.R (Kd.int .u8) 5 w55 w.heap.size (fun k_ => ((some k_ ≠ (.slice Ao42 t260.length co42 : Value).ownBlock ∧ (some k_ ≠ (.slice Ao50 y272.length co50 : Value).ownBlock ∧ some k_ ≠ (.slice Ao53 y278.length co53 : Value).ownBlock)) ∧ some k_ ≠ (.slice Ao56 y284.length co56 : Value).ownBlock)) (.slice Ao46 t266.length co46) t266) := ⟨by rw [← hq_]; exact (by (with_reducible repeat (first | apply Kd.R_alloc | apply Kd.R_drewN | apply Kd.R_drew)); exact HO268.out)⟩; have n2_ : Aside0 (Kd.R (Kd.int .u8) 5 w55 w.heap.size (fun k_ => ((some k_ ≠ (.slice Ao42 t260.length co42 : Value).ownBlock ∧ (some k_ ≠ (.slice Ao46 t266.length co46 : Value).ownBlock ∧ some k_ ≠ (.slice Ao53 y278.length co53 : Value).ownBlock)) ∧ some k_ ≠ (.slice Ao56 y284.length co56 : Value).ownBlock)) (.slice Ao50 y272.length co50) y272) := ⟨by rw [← hq_]; exact (by (with_reducible repeat (first | apply Kd.R_alloc | apply Kd.R_drewN | apply Kd.R_drew)); exact HO274.out)⟩; have n3_ : Aside0 (Kd.R (Kd.int .u8) 5 w55 w.heap.size (fun k_ => ((some k_ ≠ (.slice Ao42 t260.length co42 : Value).ownBlock ∧ (some k_ ≠ (.slice Ao46 t266.length co46 : Value).ownBlock ∧ some k_ ≠ (.slice Ao50 y272.length co50 : Value).ownBlock)) ∧ some k_ ≠ (.slice Ao56 y284.length co56 : Value).ownBlock)) (.slice Ao53 y278.length co53) y278) := ⟨by rw [← hq_]; exact (by (with_reducible repeat (first | apply Kd.R_alloc | apply Kd.R_drewN | apply Kd.R_drew)); exact HO280.out)⟩; have n4_ : Aside0 (Kd.R (Kd.int .u8) 5 w55 w.heap.size (fun k_ => (some k_ ≠ (.slice Ao42 t260.length co42 : Value).ownBlock ∧ (some k_ ≠ (.slice Ao46 t266.length co46 : Value).ownBlock ∧ (some k_ ≠ (.slice Ao50 y272.length co50 : Value).ownBlock ∧ some k_ ≠ (.slice Ao53 y278.length co53 : Value).ownBlock)))) (.slice Ao56 y284.length co56) y284) := ⟨by rw [← hq_]; exact (by (with_reducible repeat (first | apply Kd.R_alloc | apply Kd.R_drewN | apply Kd.R_drew)); exact HO286.out)⟩; have n5_ : Aside0 (w55.heap[gb249]? = some (.cells #[.int .i64 a2_0, .int .i64 a2_1, .slice A2_2 l2_2.length c2_2] 52 (0, 0))) := ⟨by rw [← hq_]; exact (by (with_reducible repeat (first | refine blk_drewN ?_ _ | refine blk_drew ?_ | refine blk_alloc ?_ _)); exact BK249.out)⟩; have n6_ : Aside0 (Below w.heap.size w w55) := ⟨by rw [← hq_]; exact (by repeat (first | (with_reducible first | exact HB.out | apply below_alloc | apply pw_below_drewN | apply below_drew1 | refine below_set ?_ GE249.out) | exact HB.out))⟩; clear HO262 HO268 HO274 HO280 HO286 BK249 HB hq_; have HO262 := n0_; have HO268 := n1_; have HO274 := n2_; have HO280 := n3_; have HO286 := n4_; have BK249 := n5_; have HB := n6_; clear n0_ n1_ n2_ n3_ n4_ n5_ n6_))
                        have n0_ := Aside0.mk (Kd.R_drew HO262.out)
                        have n1_ := Aside0.mk (Kd.R_drew HO268.out)
                        have n2_ := Aside0.mk (Kd.R_drew HO274.out)
                        have n3_ := Aside0.mk (Kd.R_drew HO280.out)
                        have n4_ := Aside0.mk (Kd.R_drew HO286.out)
                        have n5_ := Aside0.mk (blk_drew BK249.out)
                        have n6_ := Aside0.mk (below_drew1 HB.out)
                        clear HO262
                        clear HO268
                        clear HO274
                        clear HO280
                        clear HO286
                        clear BK249
                        clear HB
                        have HO262 := n0_
                        have HO268 := n1_
                        have HO274 := n2_
                        have HO280 := n3_
                        have HO286 := n4_
                        have BK249 := n5_
                        have HB := n6_
                        clear n0_ n1_ n2_ n3_ n4_ n5_ n6_
                        obtain ⟨go58, co58, eo58, gb58, gl58, cl58, HG58⟩ := Kd.R_form HO280.out (by have hh_ : (6 : Int) ≤ (y278.length : Int) := of_decide_eq_true (by first | (with_reducible assumption) | assumption); have hn1_ := (Kd.R_reads' HO280.out).1; omega)
                        (first | cases eo58 | (injection eo58 with ea_ en_ ec_; (first | subst ea_ | (injection ea_ with ea_; subst ea_)); subst ec_; clear en_))
                        have GB58 := Aside0.mk gb58
                        have GG58 := Aside0.mk HG58
                        clear gb58 gl58 HG58
                        have q58 : (6 : Int) ≤ ((y278.length : Int) : Int) := of_decide_eq_true (by first | (with_reducible assumption) | assumption)
                        obtain ⟨i058, hi058, _, hsz58, _⟩ := info_parts info5
                        have hroom58 : y278.length ≤ co53 := (Kd.R_reads' HO280.out).2.1
                        have hC58 : Kd.C (Kd.int .u8) _ (some ⟨go58, 0, none⟩) y278.length y278 := (Kd.R_reads' HO280.out).2.2
                        have hcut58 := cut_from (P := Try.prog) 25 5 .i64 Try.underlying25 hi058 1 hsz58 (some ⟨go58, 0, none⟩) y278.length co53 6 (by omega) q58
                        have hr58 := Kd.C_drop (m := (6 : Int).toNat) (c := co53) hC58 (by omega) hroom58
                        obtain ⟨A58, hA58⟩ : ∃ A1, A1 = (if co53 = (6 : Int).toNat then (some ⟨go58, 0, none⟩) else ((some ⟨go58, 0, none⟩) : Option Addr).map (·.add ((6 : Int).toNat * 1))) := ⟨_, rfl⟩
                        obtain ⟨c58, hc58⟩ : ∃ c1, c1 = co53 - (6 : Int).toNat := ⟨_, rfl⟩
                        have hy58 : y288.length = y278.length - (6 : Int).toNat := (by rw [Ny288.out, List.length_drop] <;> omega)
                        rw [show (y278).drop (6 : Int).toNat = y288 from Ny288.out.symm] at hr58
                        replace hr58 : Kd.C (Kd.int .u8) _ A58 y288.length y288 := (by rw [hA58]; exact hr58)
                        rw [← hy58, ← hA58, ← hc58] at hcut58
                        have HR291 := Aside0.mk hr58
                        have HC291 := Aside0.mk (show y288.length ≤ c58 from by rw [hy58, hc58]; exact Nat.sub_le_sub_right hroom58 _)
                        clear hr58 hC58 hroom58 hi058 hsz58 hc58
                        have KY58 := Aside0.mk hy58
                        have KA58 := Aside0.mk hA58
                        clear hy58 hA58
                        have KL58 := Aside0.mk (show 6 ≤ y278.length from by omega)
                        replace q58 := eq_true q58
                        refine start_ (n := 5) (S := fun w' => True) (ds := []) #[false, false, false, false, false] (by kernel_rfl) rfl rfl trivial (fun hHeld => ?_)
                        generalize w55.drew = w57 at HO262 HO268 HO274 HO280 HO286 BK249 HB GG58 HR291 hHeld ⊢
                        refine pure_ (i := 0) (N := some 67) (v := ?_) (a' := ?_) #[true, false, false, false, false] rfl rfl (by kernel_rfl) (fun _ _ _ h => h) (Or.inl ⟨by rfl, ?_⟩) ?_ ?_
                        rotate_left
                        · intro w'
                          go_simp
                          with_reducible rfl
                        rotate_left
                        · simp only [Act.put, List.setIfInBounds_toArray, List.set_cons_zero, List.set_cons_succ, i64_w, i32_w]
                          rfl
                        refine pure_ (i := 1) (N := some 68) (v := ?_) (a' := ?_) #[true, true, false, false, false] rfl rfl (by kernel_rfl) (fun _ _ _ h => h) (Or.inl ⟨by rfl, ?_⟩) ?_ ?_
                        rotate_left
                        · intro w'
                          go_simp
                          with_reducible rfl
                        rotate_left
                        · simp only [Act.put, List.setIfInBounds_toArray, List.set_cons_zero, List.set_cons_succ, i64_w, i32_w]
                          rfl
                        refine pure_ (i := 2) (N := some 69) (v := ?_) (a' := ?_) #[true, true, true, false, false] rfl rfl (by kernel_rfl) (fun _ _ _ h => h) (Or.inl ⟨by rfl, ?_⟩) ?_ ?_
                        rotate_left
                        · intro w'
                          go_simp
                          with_reducible rfl
                        rotate_left
                        · simp only [Act.put, List.setIfInBounds_toArray, List.set_cons_zero, List.set_cons_succ, i64_w, i32_w]
                          rfl
                        refine one_ (i := 3) (N := some 70) #[true, true, true, true, false] rfl rfl (by kernel_rfl) (by decide) (fun K hK => ?_)
                        refine goes_ Try.func84 (by kernel_rfl) rfl #[.int .i64 65535] (by rfl) rfl rfl (by (try simp only [List.map_toArray, List.map_cons, List.map_nil]); first | done | rfl | (simp only [List.length_drop, List.length_take]; rfl)) ?_
                        with_reducible refine (impl_word16.calls 65535 t292 _ A37.out).mono ?_
                        rintro e w59 ⟨v293, rfl, ho0, hb⟩
                        refine ⟨_, rfl, ?_⟩
                        have n0_ := Aside0.mk (Kd.R_elder' (by (with_reducible repeat (first | apply Kd.R_alloc | apply Kd.R_drewN | apply Kd.R_drew)); exact HO262.out) (Kd.R_base ho0) hb)
                        have n1_ := Aside0.mk (Kd.R_elder' (by (with_reducible repeat (first | apply Kd.R_alloc | apply Kd.R_drewN | apply Kd.R_drew)); exact HO268.out) (Kd.R_base ho0) hb)
                        have n2_ := Aside0.mk (Kd.R_elder' (by (with_reducible repeat (first | apply Kd.R_alloc | apply Kd.R_drewN | apply Kd.R_drew)); exact HO274.out) (Kd.R_base ho0) hb)
                        have n3_ := Aside0.mk (Kd.R_elder' (by (with_reducible repeat (first | apply Kd.R_alloc | apply Kd.R_drewN | apply Kd.R_drew)); exact HO280.out) (Kd.R_base ho0) hb)
                        have n4_ := Aside0.mk (Kd.R_elder' (by (with_reducible repeat (first | apply Kd.R_alloc | apply Kd.R_drewN | apply Kd.R_drew)); exact HO286.out) (Kd.R_base ho0) hb)
                        have n5_ := Aside0.mk (Kd.R_lower (Kd.R_new' (Kd.R_new' (Kd.R_new' (Kd.R_new' (Kd.R_new' ho0 (Kd.R_lt (by (with_reducible repeat (first | apply Kd.R_alloc | apply Kd.R_drewN | apply Kd.R_drew)); exact HO262.out))) (Kd.R_lt (by (with_reducible repeat (first | apply Kd.R_alloc | apply Kd.R_drewN | apply Kd.R_drew)); exact HO268.out))) (Kd.R_lt (by (with_reducible repeat (first | apply Kd.R_alloc | apply Kd.R_drewN | apply Kd.R_drew)); exact HO274.out))) (Kd.R_lt (by (with_reducible repeat (first | apply Kd.R_alloc | apply Kd.R_drewN | apply Kd.R_drew)); exact HO280.out))) (Kd.R_lt (by (with_reducible repeat (first | apply Kd.R_alloc | apply Kd.R_drewN | apply Kd.R_drew)); exact HO286.out))) (below_size (by repeat (first | (with_reducible first | exact HB.out | apply below_alloc | apply pw_below_drewN | apply below_drew1 | refine below_set ?_ GE249.out) | exact HB.out))))
                        have n6_ := Aside0.mk (blk_below (g := gb249) (o := .cells #[.int .i64 a2_0, .int .i64 a2_1, .slice A2_2 l2_2.length c2_2] 52 (0, 0)) (by (with_reducible repeat (first | refine blk_drewN ?_ _ | refine blk_drew ?_ | refine blk_alloc ?_ _)); exact BK249.out) hb)
                        have n7_ := Aside0.mk (Kd.C_below (by repeat (first | (with_reducible exact HR291.out) | (with_reducible refine Kd.C_alloc ?_ _) | (with_reducible refine Kd.C_drewN ?_ _) | (with_reducible refine Kd.C_drew ?_) | exact HR291.out)) hb)
                        have n8_ := Aside0.mk (below_step (by repeat (first | (with_reducible first | exact HB.out | apply below_alloc | apply pw_below_drewN | apply below_drew1 | refine below_set ?_ GE249.out) | exact HB.out)) hb)
                        clear HO262
                        clear HO268
                        clear HO274
                        clear HO280
                        clear HO286
                        clear BK249
                        clear HR291
                        clear HB
                        have HO262 := n0_
                        have HO268 := n1_
                        have HO274 := n2_
                        have HO280 := n3_
                        have HO286 := n4_
                        have HO294 := n5_
                        have BK249 := n6_
                        have HR291 := n7_
                        have HB := n8_
                        clear n0_ n1_ n2_ n3_ n4_ n5_ n6_ n7_ n8_
                        (try clear hb)
                        (try clear hb2)
                        (try clear hk)
                        (try clear hi)
                        (try clear ho0)
                        obtain ⟨Ao62, co62, eo62⟩ := Kd.R_slice HO294.out
                        (first | subst eo62 | (injection eo62 with f1_ f2_ f3_; have f4_ := f1_.symm; have f5_ := f3_.symm; clear f1_ f2_ f3_; subst f4_; subst f5_))
                        have n_ := Aside0.mk (Kd.R_mono (ok' := (fun k_ => some k_ ≠ (.slice Ao42 t260.length co42 : Value).ownBlock ∧ some k_ ≠ (.slice Ao46 t266.length co46 : Value).ownBlock ∧ some k_ ≠ (.slice Ao50 y272.length co50 : Value).ownBlock ∧ some k_ ≠ (.slice Ao56 y284.length co56 : Value).ownBlock ∧ some k_ ≠ (.slice Ao62 t292.length co62 : Value).ownBlock)) HO280.out (fun k_ hk => ⟨hk.1.1.1, ⟨hk.1.1.2.1, ⟨hk.1.1.2.2, ⟨hk.1.2, hk.2⟩⟩⟩⟩))
                        clear HO280
                        have HO280 := n_
                        clear n_
                        refine hK.out _ _ trivial (fun hHeld => ?_)
                        clear hK K
                        refine norm_ (a' := ?_) ?_ ?_
                        rotate_left
                        · show Act.put _ (some 70) _ = _
                          simp only [Act.put, List.setIfInBounds_toArray, List.set_cons_zero, List.set_cons_succ, i64_w, i32_w]
                          rfl
                        refine one_ (i := 4) (N := some 71) #[true, true, true, true, true] rfl rfl (by kernel_rfl) (by decide) (fun K hK => ?_)
                        have hh_ : (6 : Int) ≤ (y278.length : Int) := of_decide_eq_true (by first | (with_reducible assumption) | assumption)
                        have hn1_ := (Kd.R_reads' HO280.out).1
                        refine Kd.R_copycut_step (w0 := w) w.heap.size (by rfl) (.tmp 68) (.tmp 70) 25 25 5 rfl Try.underlying25 (by kernel_rfl) (g := go58) (n := y278.length) (c := co53) (ys := t292) (6 : Int).toNat rfl rfl ?hA ?hm (by (with_reducible repeat (first | apply Kd.R_alloc | apply Kd.R_drewN | apply Kd.R_drew)); exact HO280.out) ?aR ?hk (by repeat (first | (with_reducible first | exact HB.out | apply below_alloc | apply pw_below_drewN | apply below_drew1 | refine below_set ?_ GE249.out) | exact HB.out)) (below_size (by repeat (first | (with_reducible first | exact HB.out | apply below_alloc | apply pw_below_drewN | apply below_drew1 | refine below_set ?_ GE249.out) | exact HB.out))) ?_
                        (case aR => repeat (first | exact (Kd.R_reads' HO294.out).2.2 | (with_reducible refine Kd.C_alloc ?_ _) | (with_reducible refine Kd.C_drewN ?_ _) | (with_reducible refine Kd.C_drew ?_)))
                        (case hA => exact KA58.out)
                        (case hm => exact KY58.out)
                        (case hk => omega)
                        intro w60 ho hb hg
                        clear hh_ hn1_
                        rw [← Ny295.out] at ho
                        have n0_ := Aside0.mk (blk_grown (g := gb249) (o := .cells #[.int .i64 a2_0, .int .i64 a2_1, .slice A2_2 l2_2.length c2_2] 52 (0, 0)) (by (with_reducible repeat (first | refine blk_drewN ?_ _ | refine blk_drew ?_ | refine blk_alloc ?_ _)); exact BK249.out) hg (Kd.R_ne HO280.out BK249.out (by decide)))
                        have n1_ := Aside0.mk (Kd.R_after (v := (.slice (some ⟨go58, 0, none⟩) y278.length co53)) (v1 := .slice (some ⟨go58, 0, none⟩) y278.length co53) (ok := (fun k_ => some k_ ≠ (.slice Ao46 t266.length co46 : Value).ownBlock ∧ some k_ ≠ (.slice Ao50 y272.length co50 : Value).ownBlock ∧ some k_ ≠ (.slice Ao56 y284.length co56 : Value).ownBlock ∧ some k_ ≠ (.slice Ao62 t292.length co62 : Value).ownBlock)) (by (with_reducible repeat (first | apply Kd.R_alloc | apply Kd.R_drewN | apply Kd.R_drew)); exact Kd.R_mono HO262.out (fun _ hk => ⟨⟨hk.1.1.1, ⟨hk.1.1.2.1, ⟨hk.1.2, hk.2⟩⟩⟩, hk.1.1.2.2⟩)) hg (.inl rfl))
                        have n2_ := Aside0.mk (Kd.R_after (v := (.slice (some ⟨go58, 0, none⟩) y278.length co53)) (v1 := .slice (some ⟨go58, 0, none⟩) y278.length co53) (ok := (fun k_ => some k_ ≠ (.slice Ao42 t260.length co42 : Value).ownBlock ∧ some k_ ≠ (.slice Ao50 y272.length co50 : Value).ownBlock ∧ some k_ ≠ (.slice Ao56 y284.length co56 : Value).ownBlock ∧ some k_ ≠ (.slice Ao62 t292.length co62 : Value).ownBlock)) (by (with_reducible repeat (first | apply Kd.R_alloc | apply Kd.R_drewN | apply Kd.R_drew)); exact Kd.R_mono HO268.out (fun _ hk => ⟨⟨hk.1.1.1, ⟨hk.1.1.2.1, ⟨hk.1.2, hk.2⟩⟩⟩, hk.1.1.2.2⟩)) hg (.inl rfl))
                        have n3_ := Aside0.mk (Kd.R_after (v := (.slice (some ⟨go58, 0, none⟩) y278.length co53)) (v1 := .slice (some ⟨go58, 0, none⟩) y278.length co53) (ok := (fun k_ => some k_ ≠ (.slice Ao42 t260.length co42 : Value).ownBlock ∧ some k_ ≠ (.slice Ao46 t266.length co46 : Value).ownBlock ∧ some k_ ≠ (.slice Ao56 y284.length co56 : Value).ownBlock ∧ some k_ ≠ (.slice Ao62 t292.length co62 : Value).ownBlock)) (by (with_reducible repeat (first | apply Kd.R_alloc | apply Kd.R_drewN | apply Kd.R_drew)); exact Kd.R_mono HO274.out (fun _ hk => ⟨⟨hk.1.1.1, ⟨hk.1.1.2.1, ⟨hk.1.2, hk.2⟩⟩⟩, hk.1.1.2.2⟩)) hg (.inl rfl))
                        have n4_ := Aside0.mk (ho)
                        have n5_ := Aside0.mk (Kd.R_after (v := (.slice (some ⟨go58, 0, none⟩) y278.length co53)) (v1 := .slice (some ⟨go58, 0, none⟩) y278.length co53) (ok := (fun k_ => some k_ ≠ (.slice Ao42 t260.length co42 : Value).ownBlock ∧ some k_ ≠ (.slice Ao46 t266.length co46 : Value).ownBlock ∧ some k_ ≠ (.slice Ao50 y272.length co50 : Value).ownBlock ∧ some k_ ≠ (.slice Ao62 t292.length co62 : Value).ownBlock)) (by (with_reducible repeat (first | apply Kd.R_alloc | apply Kd.R_drewN | apply Kd.R_drew)); exact Kd.R_mono HO286.out (fun _ hk => ⟨⟨hk.1.1, ⟨hk.1.2.1, ⟨hk.1.2.2.1, hk.2⟩⟩⟩, hk.1.2.2.2⟩)) hg (.inl rfl))
                        have n6_ := Aside0.mk (Kd.R_after (v := (.slice (some ⟨go58, 0, none⟩) y278.length co53)) (v1 := .slice (some ⟨go58, 0, none⟩) y278.length co53) (ok := (fun k_ => some k_ ≠ (.slice Ao42 t260.length co42 : Value).ownBlock ∧ some k_ ≠ (.slice Ao46 t266.length co46 : Value).ownBlock ∧ some k_ ≠ (.slice Ao50 y272.length co50 : Value).ownBlock ∧ some k_ ≠ (.slice Ao56 y284.length co56 : Value).ownBlock)) (by (with_reducible repeat (first | apply Kd.R_alloc | apply Kd.R_drewN | apply Kd.R_drew)); exact Kd.R_mono HO294.out (fun _ hk => ⟨⟨hk.1.1.1.1.2, ⟨hk.1.1.1.2, ⟨hk.1.1.2, hk.2⟩⟩⟩, hk.1.2⟩)) hg (.inl rfl))
                        have n7_ := Aside0.mk (hb)
                        clear BK249
                        clear HO262
                        clear HO268
                        clear HO274
                        clear HO280
                        clear HO286
                        clear HO294
                        clear HB
                        have BK249 := n0_
                        have HO262 := n1_
                        have HO268 := n2_
                        have HO274 := n3_
                        have HO280 := n4_
                        have HO286 := n5_
                        have HO294 := n6_
                        have HB := n7_
                        clear n0_ n1_ n2_ n3_ n4_ n5_ n6_ n7_
                        clear ho hb hg
                        refine hK.out _ _ trivial (fun hHeld => ?_)
                        clear hK K
                        refine norm_ (a' := ?_) ?_ ?_
                        rotate_left
                        · show Act.put _ (some 71) _ = _
                          simp only [Act.put, List.setIfInBounds_toArray, List.set_cons_zero, List.set_cons_succ, i64_w, i32_w]
                          rfl
                        refine done_ (by kernel_rfl) ?_
                        try go_wp2
                        go_ret2
                        exact ⟨_, by first | rfl | (simp [errW_none, errW_some] <;> rfl) | (simp [*, errW_none, errW_some] <;> rfl), by (with_reducible repeat (first | apply Kd.R_alloc | apply Kd.R_drewN | apply Kd.R_drew)); exact Kd.R_mono HO280.out (fun _ hk => trivial), by repeat (first | (with_reducible first | exact HB.out | apply below_alloc | apply pw_below_drewN | apply below_drew1 | refine below_set ?_ GE249.out) | exact HB.out)⟩
                      · rw [if_neg c36] at H
                        exact absurd H (by simp)
                    · rw [if_neg c35] at H
                      have c35b0 : (t287 == 0) = false := beq_eq_false_iff_ne.mpr c35
                      have c35b1 : (t287 != 0) = true := bne_iff_ne.mpr c35
                      by_cases c63 : 6 ≤ (y278.length : Int)
                      · rw [if_pos c63] at H
                        have c63b0 := eq_true c63
                        have c63b1 : decide (6 ≤ (y278.length : Int)) = true := decide_eq_true c63
                        clear c63
                        obtain ⟨y296, hy296⟩ : ∃ y_ : List Int, y_ = (y278.drop 6) := ⟨_, rfl⟩
                        replace H : ((impl_word16.f t287).bind fun t300 => (some ((copyAt y278 (6 : Int).toNat t300), 0))) = some (r1, r2) := by first | (rw [hy296]; with_reducible exact H) | (have H2_ := (Option.bind_some _ _).symm.trans H; rw [hy296]; with_reducible exact H2_) | (have H2_ := (Option.bind_some _ _).symm.trans H; with_reducible exact H2_) | with_reducible exact H | (rw [hy296]; exact H) | exact H
                        have Ny296 := Aside0.mk hy296
                        clear hy296
                        replace H := Option.bind_eq_some_iff.mp H
                        obtain ⟨t300, A640, H⟩ := H
                        replace H : (some ((copyAt y278 (6 : Int).toNat t300), 0)) = some (r1, r2) := H
                        have A64 := Aside0.mk A640
                        clear A640
                        obtain ⟨y303, hy303⟩ : ∃ y_ : List Int, y_ = (copyAt y278 (6 : Int).toNat t300) := ⟨_, rfl⟩
                        replace H : (some (y303, 0)) = some (r1, r2) := by first | (rw [hy303]; with_reducible exact H) | (have H2_ := (Option.bind_some _ _).symm.trans H; rw [hy303]; with_reducible exact H2_) | (have H2_ := (Option.bind_some _ _).symm.trans H; with_reducible exact H2_) | with_reducible exact H | (rw [hy303]; exact H) | exact H
                        have Ny303 := Aside0.mk hy303
                        clear hy303
                        simp only [Option.some.injEq, Prod.mk.injEq] at H
                        obtain ⟨rfl, rfl⟩ := H
                        try go_wp2
                        have n0_ := Aside0.mk (blk_drew BK249.out)
                        have n1_ := Aside0.mk (below_drew1 HB.out)
                        clear BK249
                        clear HB
                        have BK249 := n0_
                        have HB := n1_
                        clear n0_ n1_
                        refine start_ (n := 8) (S := fun w' => w'.cell? ⟨gb249, 0, none⟩ = some (.int .i64 a2_0) ∧ w'.cell? ⟨gb249, 1, none⟩ = some (.int .i64 a2_1) ∧ w'.cell? ⟨gb249, 2, none⟩ = some (.slice A2_2 l2_2.length c2_2)) (ds := []) #[false, false, false, false, false, false, false, false] (by kernel_rfl) rfl rfl ⟨(blk_cell BK249.out 0).trans rfl, (blk_cell BK249.out 1).trans rfl, (blk_cell BK249.out 2).trans rfl⟩ (fun hHeld => ?_); refine with_tabW impl_UdpBytes.tab5 impl_UdpBytes.bits5 (fun HT_ HW_ => ?_)
                        generalize wc.drew = w65 at BK249 HB hHeld ⊢
                        refine pure_ (i := 0) (N := some 36) (v := ?_) (a' := ?_) #[true, false, false, false, false, false, false, false] rfl rfl (any_of HT_.out (by kernel_rfl)) (fun _ _ _ h => h) (Or.inl ⟨by rfl, ?_⟩) ?_ ?_
                        rotate_left
                        · intro w'
                          go_simp
                          with_reducible rfl
                        rotate_left
                        · simp only [Act.put, List.setIfInBounds_toArray, List.set_cons_zero, List.set_cons_succ, i64_w, i32_w]
                          rfl
                        refine pure_ (i := 3) (N := some 39) (v := ?_) (a' := ?_) #[true, false, false, true, false, false, false, false] rfl rfl (any_of HT_.out (by kernel_rfl)) (fun _ _ _ h => h) (Or.inl ⟨by rfl, ?_⟩) ?_ ?_
                        rotate_left
                        · intro w'
                          go_simp
                          with_reducible rfl
                        rotate_left
                        · simp only [Act.put, List.setIfInBounds_toArray, List.set_cons_zero, List.set_cons_succ, i64_w, i32_w]
                          rfl
                        refine take_ (i := 1) (N := some 37) (v := ?_) (a' := ?_) #[true, true, false, true, false, false, false, false] rfl rfl (take_ofW HT_.out HW_.out (by kernel_rfl)) (fun _ _ _ h => h) (Or.inl ⟨by rfl, ?_⟩) hHeld ?_ ?_
                        rotate_left
                        · rintro w' ⟨s0, s1, s2⟩
                          go_simp
                          with_reducible rfl
                        rotate_left
                        · simp only [Act.put, List.setIfInBounds_toArray, List.set_cons_zero, List.set_cons_succ, i64_w, i32_w]
                          rfl
                        refine take_ (i := 4) (N := some 40) (v := ?_) (a' := ?_) #[true, true, false, true, true, false, false, false] rfl rfl (take_ofW HT_.out HW_.out (by kernel_rfl)) (fun _ _ _ h => h) (Or.inl ⟨by rfl, ?_⟩) hHeld ?_ ?_
                        rotate_left
                        · rintro w' ⟨s0, s1, s2⟩
                          go_simp
                          with_reducible rfl
                        rotate_left
                        · simp only [Act.put, List.setIfInBounds_toArray, List.set_cons_zero, List.set_cons_succ, i64_w, i32_w]
                          rfl
                        refine one_ (i := 2) (N := some 38) #[true, true, true, true, true, false, false, false] rfl rfl (one_of HT_.out (by kernel_rfl)) (by decide) (fun K hK => ?_)
                        refine goes_ Try.func84 (by kernel_rfl) rfl #[.int .i64 a2_0] (by rfl) rfl rfl (by (try simp only [List.map_toArray, List.map_cons, List.map_nil]); first | done | rfl | (simp only [List.length_drop, List.length_take]; rfl)) ?_
                        with_reducible refine (impl_word16.calls a2_0 t257 _ A25.out).mono ?_
                        rintro e w66 ⟨v258, rfl, ho0, hb⟩
                        refine ⟨_, rfl, ?_⟩
                        have n0_ := Aside0.mk (Kd.R_lower ho0 (below_size (by repeat (first | (with_reducible first | exact HB.out | apply below_alloc | apply pw_below_drewN | apply below_drew1 | refine below_set ?_ GE249.out) | exact HB.out))))
                        have n1_ := Aside0.mk (blk_below (g := gb249) (o := .cells #[.int .i64 a2_0, .int .i64 a2_1, .slice A2_2 l2_2.length c2_2] 52 (0, 0)) (by (with_reducible repeat (first | refine blk_drewN ?_ _ | refine blk_drew ?_ | refine blk_alloc ?_ _)); exact BK249.out) hb)
                        have n2_ := Aside0.mk (below_step (by repeat (first | (with_reducible first | exact HB.out | apply below_alloc | apply pw_below_drewN | apply below_drew1 | refine below_set ?_ GE249.out) | exact HB.out)) hb)
                        clear BK249
                        clear HB
                        have HO259 := n0_
                        have BK249 := n1_
                        have HB := n2_
                        clear n0_ n1_ n2_
                        (try clear hb)
                        (try clear hb2)
                        (try clear hk)
                        (try clear hi)
                        (try clear ho0)
                        refine hK.out _ _ ⟨(blk_cell BK249.out 0).trans rfl, (blk_cell BK249.out 1).trans rfl, (blk_cell BK249.out 2).trans rfl⟩ (fun hHeld => ?_)
                        clear hK K
                        refine norm_ (a' := ?_) ?_ ?_
                        rotate_left
                        · show Act.put _ (some 38) _ = _
                          simp only [Act.put, List.setIfInBounds_toArray, List.set_cons_zero, List.set_cons_succ, i64_w, i32_w]
                          rfl
                        refine one_ (i := 5) (N := some 41) #[true, true, true, true, true, true, false, false] rfl rfl (one_of HT_.out (by kernel_rfl)) (by decide) (fun K hK => ?_)
                        refine goes_ Try.func84 (by kernel_rfl) rfl #[.int .i64 a2_1] (by rfl) rfl rfl (by (try simp only [List.map_toArray, List.map_cons, List.map_nil]); first | done | rfl | (simp only [List.length_drop, List.length_take]; rfl)) ?_
                        with_reducible refine (impl_word16.calls a2_1 t260 _ A26.out).mono ?_
                        rintro e w67 ⟨v261, rfl, ho0, hb⟩
                        refine ⟨_, rfl, ?_⟩
                        have n0_ := Aside0.mk (Kd.R_elder' (by (with_reducible repeat (first | apply Kd.R_alloc | apply Kd.R_drewN | apply Kd.R_drew)); exact HO259.out) (Kd.R_base ho0) hb)
                        have n1_ := Aside0.mk (Kd.R_lower (Kd.R_new' ho0 (Kd.R_lt (by (with_reducible repeat (first | apply Kd.R_alloc | apply Kd.R_drewN | apply Kd.R_drew)); exact HO259.out))) (below_size (by repeat (first | (with_reducible first | exact HB.out | apply below_alloc | apply pw_below_drewN | apply below_drew1 | refine below_set ?_ GE249.out) | exact HB.out))))
                        have n2_ := Aside0.mk (blk_below (g := gb249) (o := .cells #[.int .i64 a2_0, .int .i64 a2_1, .slice A2_2 l2_2.length c2_2] 52 (0, 0)) (by (with_reducible repeat (first | refine blk_drewN ?_ _ | refine blk_drew ?_ | refine blk_alloc ?_ _)); exact BK249.out) hb)
                        have n3_ := Aside0.mk (below_step (by repeat (first | (with_reducible first | exact HB.out | apply below_alloc | apply pw_below_drewN | apply below_drew1 | refine below_set ?_ GE249.out) | exact HB.out)) hb)
                        clear HO259
                        clear BK249
                        clear HB
                        have HO259 := n0_
                        have HO262 := n1_
                        have BK249 := n2_
                        have HB := n3_
                        clear n0_ n1_ n2_ n3_
                        (try clear hb)
                        (try clear hb2)
                        (try clear hk)
                        (try clear hi)
                        (try clear ho0)
                        obtain ⟨Ao69, co69, eo69⟩ := Kd.R_slice HO262.out
                        (first | subst eo69 | (injection eo69 with f1_ f2_ f3_; have f4_ := f1_.symm; have f5_ := f3_.symm; clear f1_ f2_ f3_; subst f4_; subst f5_))
                        refine hK.out _ _ ⟨(blk_cell BK249.out 0).trans rfl, (blk_cell BK249.out 1).trans rfl, (blk_cell BK249.out 2).trans rfl⟩ (fun hHeld => ?_)
                        clear hK K
                        refine norm_ (a' := ?_) ?_ ?_
                        rotate_left
                        · show Act.put _ (some 41) _ = _
                          simp only [Act.put, List.setIfInBounds_toArray, List.set_cons_zero, List.set_cons_succ, i64_w, i32_w]
                          rfl
                        refine one_ (i := 6) (N := some 42) #[true, true, true, true, true, true, true, false] rfl rfl (one_of HT_.out (by kernel_rfl)) (by decide) (fun K hK => ?_)
                        refine Kd.R_append_rows_step (Kd.int .u8) (w0 := w) w.heap.size (by rfl) (.tmp 38) (.tmp 41) 25 5 (.int .u8 0) 1 rfl Try.underlying25 info5 rfl (by decide) (by omega) v258 t257 t260 _ _ _ (fun k_ => some k_ ≠ (.slice Ao69 t260.length co69 : Value).ownBlock) (fun _ => False) rfl rfl ?aO ?aR (fun _ _ h => h) (fun _ h => h.elim) ?aF ?aB ?aS ?aL ?_
                        (case aR => repeat (first | exact (Kd.R_reads' HO262.out).2.2 | (with_reducible refine Kd.C_alloc ?_ _) | (with_reducible refine Kd.C_drewN ?_ _) | (with_reducible refine Kd.C_drew ?_)))
                        (case aB => exact (by repeat (first | (with_reducible first | exact HB.out | apply below_alloc | apply pw_below_drewN | apply below_drew1 | refine below_set ?_ GE249.out) | exact HB.out)))
                        (case aF => exact (fun k_ hk => Kd.fresh' (Kd.R_lt (by (with_reducible repeat (first | apply Kd.R_alloc | apply Kd.R_drewN | apply Kd.R_drew)); exact HO262.out)) k_ hk))
                        (case aO => exact (by (with_reducible repeat (first | apply Kd.R_alloc | apply Kd.R_drewN | apply Kd.R_drew)); (first | exact Kd.R_mono HO259.out (fun _ hk => hk.2) | exact HO259.out)))
                        (case aS => exact (below_size (by repeat (first | (with_reducible first | exact HB.out | apply below_alloc | apply pw_below_drewN | apply below_drew1 | refine below_set ?_ GE249.out) | exact HB.out))))
                        (case aL => have := LMc27.out; omega)
                        intro v264 w68 ho hb hg hat
                        rw [← Ny263.out] at ho
                        have n0_ := Aside0.mk (blk_grown (g := gb249) (o := .cells #[.int .i64 a2_0, .int .i64 a2_1, .slice A2_2 l2_2.length c2_2] 52 (0, 0)) (by (with_reducible repeat (first | refine blk_drewN ?_ _ | refine blk_drew ?_ | refine blk_alloc ?_ _)); exact BK249.out) hg (Kd.R_ne HO259.out BK249.out (by decide)))
                        have n1_ := Aside0.mk (Kd.R_after (ok := (fun _ => True)) (by (with_reducible repeat (first | apply Kd.R_alloc | apply Kd.R_drewN | apply Kd.R_drew)); (first | exact HO262.out | exact Kd.R_mono HO262.out (fun _ hk => ⟨trivial, hk⟩) | exact Kd.R_mono HO262.out (fun _ hk => by simp only [and_assoc] at hk ⊢; exact hk))) hg hat)
                        have n2_ := Aside0.mk (hb)
                        have n3_ := Aside0.mk (ho)
                        clear BK249
                        clear HO262
                        clear HB
                        clear HO259
                        have BK249 := n0_
                        have HO262 := n1_
                        have HB := n2_
                        have HO265 := n3_
                        clear n0_ n1_ n2_ n3_
                        clear ho hb hg hat
                        refine hK.out _ _ ⟨(blk_cell BK249.out 0).trans rfl, (blk_cell BK249.out 1).trans rfl, (blk_cell BK249.out 2).trans rfl⟩ (fun hHeld => ?_)
                        clear hK K
                        refine norm_ (a' := ?_) ?_ ?_
                        rotate_left
                        · show Act.put _ (some 42) _ = _
                          simp only [Act.put, List.setIfInBounds_toArray, List.set_cons_zero, List.set_cons_succ, i64_w, i32_w]
                          rfl
                        refine pure_ (i := 7) (N := some 8) (v := ?_) (a' := ?_) #[true, true, true, true, true, true, true, true] rfl rfl (any_of HT_.out (by kernel_rfl)) (fun _ _ _ h => h) (Or.inl ⟨by rfl, ?_⟩) ?_ ?_
                        rotate_left
                        · intro w'
                          go_simp
                          with_reducible rfl
                        rotate_left
                        · simp only [Act.put, List.setIfInBounds_toArray, List.set_cons_zero, List.set_cons_succ, i64_w, i32_w]
                          rfl
                        refine done_ (done_of HT_.out (by kernel_rfl)) ?_
                        have hcz70_0 : w68.cell? ⟨gb249, 0, none⟩ = some (.int .i64 a2_0) := (blk_cell BK249.out 0).trans rfl
                        have hcz70_1 : w68.cell? ⟨gb249, 1, none⟩ = some (.int .i64 a2_1) := (blk_cell BK249.out 1).trans rfl
                        have hcz70_2 : w68.cell? ⟨gb249, 2, none⟩ = some (.slice A2_2 l2_2.length c2_2) := (blk_cell BK249.out 2).trans rfl
                        have hfz70_0 := blk_frozen BK249.out 0
                        have hfz70_1 := blk_frozen BK249.out 1
                        have hfz70_2 := blk_frozen BK249.out 2
                        try go_wp2_with (first | ((with_reducible refine gate_callee (f := 84) rfl ?_); refine goesL_ (some 48) rfl rfl Try.func84 (by kernel_rfl) rfl #[.int .i64 (wrap64 (8 + (l2_2.length : Int)))] rfl (by (try simp only [List.map_toArray, List.map_cons, List.map_nil]); first | done | rfl | (simp only [List.length_drop, List.length_take]; rfl)) ?_; (with_reducible refine (impl_word16.calls (wrap64 (8 + (l2_2.length : Int))) t266 _ A28.out).mono ?_); rintro e w71 ⟨v267, rfl, ho0, hb⟩; refine ⟨_, rfl, ?_⟩; have n0_ := Aside0.mk (Kd.R_elder' (by (with_reducible repeat (first | apply Kd.R_alloc | apply Kd.R_drewN | apply Kd.R_drew)); exact HO262.out) (Kd.R_base ho0) hb); have n1_ := Aside0.mk (Kd.R_elder' (by (with_reducible repeat (first | apply Kd.R_alloc | apply Kd.R_drewN | apply Kd.R_drew)); exact HO265.out) (Kd.R_base ho0) hb); have n2_ := Aside0.mk (Kd.R_lower (Kd.R_new' (Kd.R_new' ho0 (Kd.R_lt (by (with_reducible repeat (first | apply Kd.R_alloc | apply Kd.R_drewN | apply Kd.R_drew)); exact HO262.out))) (Kd.R_lt (by (with_reducible repeat (first | apply Kd.R_alloc | apply Kd.R_drewN | apply Kd.R_drew)); exact HO265.out))) (below_size (by repeat (first | (with_reducible first | exact HB.out | apply below_alloc | apply pw_below_drewN | apply below_drew1 | refine below_set ?_ GE249.out) | exact HB.out)))); have n3_ := Aside0.mk (blk_below (g := gb249) (o := .cells #[.int .i64 a2_0, .int .i64 a2_1, .slice A2_2 l2_2.length c2_2] 52 (0, 0)) (by (with_reducible repeat (first | refine blk_drewN ?_ _ | refine blk_drew ?_ | refine blk_alloc ?_ _)); exact BK249.out) hb); have n4_ := Aside0.mk (below_step (by repeat (first | (with_reducible first | exact HB.out | apply below_alloc | apply pw_below_drewN | apply below_drew1 | refine below_set ?_ GE249.out) | exact HB.out)) hb); clear HO262; clear HO265; clear BK249; clear HB; have HO262 := n0_; have HO265 := n1_; have HO268 := n2_; have BK249 := n3_; have HB := n4_; clear n0_ n1_ n2_ n3_ n4_; (try clear hb); (try clear hb2); (try clear hk); (try clear hi); (try clear ho0); obtain ⟨Ao73, co73, eo73⟩ := Kd.R_slice HO268.out; subst eo73) | ((with_reducible refine gate_builtin (b := .append) (xs := #[.tmp 43, .tmp 48]) rfl ?_); at_builtin; refine Kd.R_append_rows (Kd.int .u8) (w0 := w) w.heap.size rfl (.tmp 43) (.tmp 48) 25 5 (.int .u8 0) 1 rfl Try.underlying25 info5 rfl (by decide) (by omega) v264 y263 t266 _ _ _ (fun k_ => some k_ ≠ (.slice Ao69 t260.length co69 : Value).ownBlock ∧ some k_ ≠ (.slice Ao73 t266.length co73 : Value).ownBlock) (fun _ => False) rfl rfl ?aO ?aR (fun _ _ h => h) (fun _ h => h.elim) ?aF ?aB ?aS ?aL ?_; (case aR => repeat (first | exact (Kd.R_reads' HO268.out).2.2 | (with_reducible refine Kd.C_alloc ?_ _) | (with_reducible refine Kd.C_drewN ?_ _) | (with_reducible refine Kd.C_drew ?_))); (case aB => exact (by repeat (first | (with_reducible first | exact HB.out | apply below_alloc | apply pw_below_drewN | apply below_drew1 | refine below_set ?_ GE249.out) | exact HB.out))); (case aF => exact (fun k_ hk => ⟨Kd.fresh' (Kd.R_lt (by (with_reducible repeat (first | apply Kd.R_alloc | apply Kd.R_drewN | apply Kd.R_drew)); exact HO262.out)) k_ hk, Kd.fresh' (Kd.R_lt (by (with_reducible repeat (first | apply Kd.R_alloc | apply Kd.R_drewN | apply Kd.R_drew)); exact HO268.out)) k_ hk⟩)); (case aO => exact (by (with_reducible repeat (first | apply Kd.R_alloc | apply Kd.R_drewN | apply Kd.R_drew)); exact HO265.out)); (case aS => exact (below_size (by repeat (first | (with_reducible first | exact HB.out | apply below_alloc | apply pw_below_drewN | apply below_drew1 | refine below_set ?_ GE249.out) | exact HB.out)))); (case aL => have := LMc29.out; omega); intro v270 w72 ho hb hg hat; rw [← Ny269.out] at ho; have n0_ := Aside0.mk (blk_grown (g := gb249) (o := .cells #[.int .i64 a2_0, .int .i64 a2_1, .slice A2_2 l2_2.length c2_2] 52 (0, 0)) (by (with_reducible repeat (first | refine blk_drewN ?_ _ | refine blk_drew ?_ | refine blk_alloc ?_ _)); exact BK249.out) hg (Kd.R_ne HO265.out BK249.out (by decide))); have n1_ := Aside0.mk (Kd.R_after (ok := (fun k_ => some k_ ≠ (.slice Ao73 t266.length co73 : Value).ownBlock)) (by (with_reducible repeat (first | apply Kd.R_alloc | apply Kd.R_drewN | apply Kd.R_drew)); exact Kd.R_mono HO262.out (fun _ hk => ⟨hk.2, hk.1.2⟩)) hg hat); have n2_ := Aside0.mk (Kd.R_after (ok := (fun k_ => some k_ ≠ (.slice Ao69 t260.length co69 : Value).ownBlock)) (by (with_reducible repeat (first | apply Kd.R_alloc | apply Kd.R_drewN | apply Kd.R_drew)); exact Kd.R_mono HO268.out (fun _ hk => ⟨hk.1.2, hk.2⟩)) hg hat); have n3_ := Aside0.mk (hb); have n4_ := Aside0.mk (ho); clear BK249; clear HO262; clear HO268; clear HB; clear HO265; have BK249 := n0_; have HO262 := n1_; have HO268 := n2_; have HB := n3_; have HO271 := n4_; clear n0_ n1_ n2_ n3_ n4_; clear ho hb hg hat) | ((with_reducible refine gate_dst (N := 51) rfl ?_); refine Kd.R_lit (Kd.int .u8) _ 5 ?hg (N := 51) ?hd (xs := ([0, 0] : List Int)) (inner := [.int .u8 0, .int .u8 0]) (ok := fun _ => True) (okp := fun _ => True) ?hr ?hp (fun _ hk => hk) trivial (Below.refl _ _) (Nat.le_refl _) (by simp) ?_; (case hd => rfl); (case hg => rfl); (case hr => first | (go_simp; done) | (go_simp; rfl)); (case hp => exact (Reps.one (show Kd.M (Kd.int .u8) _ _ _ 0 [.int .u8 0] from rfl) (Reps.one (show Kd.M (Kd.int .u8) _ _ _ 0 [.int .u8 0] from rfl) (Reps.none _ _)))); intro v273 w74 ho75 hb hg_ hnew_; clear hg_ hnew_; (first | rw [← Ny272.out] at ho75 | (simp only [Int.reduceToNat] at ho75; rw [← Ny272.out] at ho75)); have n0_ := Aside0.mk (Kd.R_elder' (by (with_reducible repeat (first | apply Kd.R_alloc | apply Kd.R_drewN | apply Kd.R_drew)); exact HO262.out) (Kd.R_base ho75) hb); have n1_ := Aside0.mk (Kd.R_elder' (by (with_reducible repeat (first | apply Kd.R_alloc | apply Kd.R_drewN | apply Kd.R_drew)); exact HO268.out) (Kd.R_base ho75) hb); have n2_ := Aside0.mk (Kd.R_elder' (by (with_reducible repeat (first | apply Kd.R_alloc | apply Kd.R_drewN | apply Kd.R_drew)); exact HO271.out) (Kd.R_base ho75) hb); have n3_ := Aside0.mk (Kd.R_lower (Kd.R_new' (Kd.R_new' (Kd.R_new' ho75 (Kd.R_lt (by (with_reducible repeat (first | apply Kd.R_alloc | apply Kd.R_drewN | apply Kd.R_drew)); exact HO262.out))) (Kd.R_lt (by (with_reducible repeat (first | apply Kd.R_alloc | apply Kd.R_drewN | apply Kd.R_drew)); exact HO268.out))) (Kd.R_lt (by (with_reducible repeat (first | apply Kd.R_alloc | apply Kd.R_drewN | apply Kd.R_drew)); exact HO271.out))) (below_size (by repeat (first | (with_reducible first | exact HB.out | apply below_alloc | apply pw_below_drewN | apply below_drew1 | refine below_set ?_ GE249.out) | exact HB.out)))); have n4_ := Aside0.mk (blk_below (g := gb249) (o := .cells #[.int .i64 a2_0, .int .i64 a2_1, .slice A2_2 l2_2.length c2_2] 52 (0, 0)) (by (with_reducible repeat (first | refine blk_drewN ?_ _ | refine blk_drew ?_ | refine blk_alloc ?_ _)); exact BK249.out) hb); have n5_ := Aside0.mk (below_step (by repeat (first | (with_reducible first | exact HB.out | apply below_alloc | apply pw_below_drewN | apply below_drew1 | refine below_set ?_ GE249.out) | exact HB.out)) hb); clear HO262; clear HO268; clear HO271; clear BK249; clear HB; have HO262 := n0_; have HO268 := n1_; have HO271 := n2_; have HO274 := n3_; have BK249 := n4_; have HB := n5_; clear n0_ n1_ n2_ n3_ n4_ n5_; clear hb ho75; obtain ⟨Ao77, co77, eo77⟩ := Kd.R_slice HO274.out; subst eo77) | ((with_reducible refine gate_builtin (b := .append) (xs := #[.tmp 50, .tmp 51]) rfl ?_); at_builtin; refine Kd.R_append_rows (Kd.int .u8) (w0 := w) w.heap.size rfl (.tmp 50) (.tmp 51) 25 5 (.int .u8 0) 1 rfl Try.underlying25 info5 rfl (by decide) (by omega) v270 y269 y272 _ _ _ (fun k_ => some k_ ≠ (.slice Ao69 t260.length co69 : Value).ownBlock ∧ some k_ ≠ (.slice Ao73 t266.length co73 : Value).ownBlock ∧ some k_ ≠ (.slice Ao77 y272.length co77 : Value).ownBlock) (fun _ => False) rfl rfl ?aO ?aR (fun _ _ h => h) (fun _ h => h.elim) ?aF ?aB ?aS ?aL ?_; (case aR => repeat (first | exact (Kd.R_reads' HO274.out).2.2 | (with_reducible refine Kd.C_alloc ?_ _) | (with_reducible refine Kd.C_drewN ?_ _) | (with_reducible refine Kd.C_drew ?_))); (case aB => exact (by repeat (first | (with_reducible first | exact HB.out | apply below_alloc | apply pw_below_drewN | apply below_drew1 | refine below_set ?_ GE249.out) | exact HB.out))); (case aF => exact (fun k_ hk => ⟨Kd.fresh' (Kd.R_lt (by (with_reducible repeat (first | apply Kd.R_alloc | apply Kd.R_drewN | apply Kd.R_drew)); exact HO262.out)) k_ hk, Kd.fresh' (Kd.R_lt (by (with_reducible repeat (first | apply Kd.R_alloc | apply Kd.R_drewN | apply Kd.R_drew)); exact HO268.out)) k_ hk, Kd.fresh' (Kd.R_lt (by (with_reducible repeat (first | apply Kd.R_alloc | apply Kd.R_drewN | apply Kd.R_drew)); exact HO274.out)) k_ hk⟩)); (case aO => exact (by (with_reducible repeat (first | apply Kd.R_alloc | apply Kd.R_drewN | apply Kd.R_drew)); exact Kd.R_mono HO271.out (fun _ hk => ⟨hk.1.1, ⟨hk.1.2, hk.2⟩⟩))); (case aS => exact (below_size (by repeat (first | (with_reducible first | exact HB.out | apply below_alloc | apply pw_below_drewN | apply below_drew1 | refine below_set ?_ GE249.out) | exact HB.out)))); (case aL => have := LMc30.out; omega); intro v276 w76 ho hb hg hat; rw [← Ny275.out] at ho; have n0_ := Aside0.mk (blk_grown (g := gb249) (o := .cells #[.int .i64 a2_0, .int .i64 a2_1, .slice A2_2 l2_2.length c2_2] 52 (0, 0)) (by (with_reducible repeat (first | refine blk_drewN ?_ _ | refine blk_drew ?_ | refine blk_alloc ?_ _)); exact BK249.out) hg (Kd.R_ne HO271.out BK249.out (by decide))); have n1_ := Aside0.mk (Kd.R_after (ok := (fun k_ => some k_ ≠ (.slice Ao73 t266.length co73 : Value).ownBlock ∧ some k_ ≠ (.slice Ao77 y272.length co77 : Value).ownBlock)) (by (with_reducible repeat (first | apply Kd.R_alloc | apply Kd.R_drewN | apply Kd.R_drew)); exact Kd.R_mono HO262.out (fun _ hk => ⟨⟨hk.1.1, hk.2⟩, hk.1.2⟩)) hg hat); have n2_ := Aside0.mk (Kd.R_after (ok := (fun k_ => some k_ ≠ (.slice Ao69 t260.length co69 : Value).ownBlock ∧ some k_ ≠ (.slice Ao77 y272.length co77 : Value).ownBlock)) (by (with_reducible repeat (first | apply Kd.R_alloc | apply Kd.R_drewN | apply Kd.R_drew)); exact Kd.R_mono HO268.out (fun _ hk => ⟨⟨hk.1.1, hk.2⟩, hk.1.2⟩)) hg hat); have n3_ := Aside0.mk (Kd.R_after (ok := (fun k_ => some k_ ≠ (.slice Ao69 t260.length co69 : Value).ownBlock ∧ some k_ ≠ (.slice Ao73 t266.length co73 : Value).ownBlock)) (by (with_reducible repeat (first | apply Kd.R_alloc | apply Kd.R_drewN | apply Kd.R_drew)); exact Kd.R_mono HO274.out (fun _ hk => ⟨⟨hk.1.1.2, hk.1.2⟩, hk.2⟩)) hg hat); have n4_ := Aside0.mk (hb); have n5_ := Aside0.mk (ho); clear BK249; clear HO262; clear HO268; clear HO274; clear HB; clear HO271; have BK249 := n0_; have HO262 := n1_; have HO268 := n2_; have HO274 := n3_; have HB := n4_; have HO277 := n5_; clear n0_ n1_ n2_ n3_ n4_ n5_; clear ho hb hg hat; have hcz78_0 : w76.cell? ⟨gb249, 0, none⟩ = some (.int .i64 a2_0) := (blk_cell BK249.out 0).trans rfl; have hcz78_1 : w76.cell? ⟨gb249, 1, none⟩ = some (.int .i64 a2_1) := (blk_cell BK249.out 1).trans rfl; have hcz78_2 : w76.cell? ⟨gb249, 2, none⟩ = some (.slice A2_2 l2_2.length c2_2) := (blk_cell BK249.out 2).trans rfl; have hfz78_0 := blk_frozen BK249.out 0; have hfz78_1 := blk_frozen BK249.out 1; have hfz78_2 := blk_frozen BK249.out 2) | ((with_reducible refine gate_builtin (b := .append) (xs := #[.tmp 53, .tmp 55]) rfl ?_); at_builtin; refine Kd.R_append_rows (Kd.int .u8) (w0 := w) w.heap.size rfl (.tmp 53) (.tmp 55) 25 5 (.int .u8 0) 1 rfl Try.underlying25 info5 rfl (by decide) (by omega) v276 y275 l2_2 _ _ _ (fun k_ => some k_ ≠ (.slice Ao69 t260.length co69 : Value).ownBlock ∧ some k_ ≠ (.slice Ao73 t266.length co73 : Value).ownBlock ∧ some k_ ≠ (.slice Ao77 y272.length co77 : Value).ownBlock) (fun _ => False) rfl rfl ?aO ?aR (fun _ _ h => h) (fun _ h => h.elim) ?aF ?aB ?aS ?aL ?_; (case aR => repeat (first | exact (Kd.C_below HR2_2.out HB.out) | (with_reducible refine Kd.C_alloc ?_ _) | (with_reducible refine Kd.C_drewN ?_ _) | (with_reducible refine Kd.C_drew ?_))); (case aB => exact (by repeat (first | (with_reducible first | exact HB.out | apply below_alloc | apply pw_below_drewN | apply below_drew1 | refine below_set ?_ GE249.out) | exact HB.out))); (case aF => exact (fun k_ hk => ⟨Kd.fresh' (Kd.R_lt (by (with_reducible repeat (first | apply Kd.R_alloc | apply Kd.R_drewN | apply Kd.R_drew)); exact HO262.out)) k_ hk, Kd.fresh' (Kd.R_lt (by (with_reducible repeat (first | apply Kd.R_alloc | apply Kd.R_drewN | apply Kd.R_drew)); exact HO268.out)) k_ hk, Kd.fresh' (Kd.R_lt (by (with_reducible repeat (first | apply Kd.R_alloc | apply Kd.R_drewN | apply Kd.R_drew)); exact HO274.out)) k_ hk⟩)); (case aO => exact (by (with_reducible repeat (first | apply Kd.R_alloc | apply Kd.R_drewN | apply Kd.R_drew)); exact HO277.out)); (case aS => exact (below_size (by repeat (first | (with_reducible first | exact HB.out | apply below_alloc | apply pw_below_drewN | apply below_drew1 | refine below_set ?_ GE249.out) | exact HB.out)))); (case aL => have := LMc31.out; omega); intro v279 w79 ho hb hg hat; rw [← Ny278.out] at ho; have n0_ := Aside0.mk (blk_grown (g := gb249) (o := .cells #[.int .i64 a2_0, .int .i64 a2_1, .slice A2_2 l2_2.length c2_2] 52 (0, 0)) (by (with_reducible repeat (first | refine blk_drewN ?_ _ | refine blk_drew ?_ | refine blk_alloc ?_ _)); exact BK249.out) hg (Kd.R_ne HO277.out BK249.out (by decide))); have n1_ := Aside0.mk (Kd.R_after (ok := (fun k_ => some k_ ≠ (.slice Ao73 t266.length co73 : Value).ownBlock ∧ some k_ ≠ (.slice Ao77 y272.length co77 : Value).ownBlock)) (by (with_reducible repeat (first | apply Kd.R_alloc | apply Kd.R_drewN | apply Kd.R_drew)); (first | exact HO262.out | exact Kd.R_mono HO262.out (fun _ hk => ⟨trivial, hk⟩) | exact Kd.R_mono HO262.out (fun _ hk => by simp only [and_assoc] at hk ⊢; exact hk))) hg hat); have n2_ := Aside0.mk (Kd.R_after (ok := (fun k_ => some k_ ≠ (.slice Ao69 t260.length co69 : Value).ownBlock ∧ some k_ ≠ (.slice Ao77 y272.length co77 : Value).ownBlock)) (by (with_reducible repeat (first | apply Kd.R_alloc | apply Kd.R_drewN | apply Kd.R_drew)); (first | exact HO268.out | exact Kd.R_mono HO268.out (fun _ hk => ⟨trivial, hk⟩) | exact Kd.R_mono HO268.out (fun _ hk => by simp only [and_assoc] at hk ⊢; exact hk))) hg hat); have n3_ := Aside0.mk (Kd.R_after (ok := (fun k_ => some k_ ≠ (.slice Ao69 t260.length co69 : Value).ownBlock ∧ some k_ ≠ (.slice Ao73 t266.length co73 : Value).ownBlock)) (by (with_reducible repeat (first | apply Kd.R_alloc | apply Kd.R_drewN | apply Kd.R_drew)); (first | exact HO274.out | exact Kd.R_mono HO274.out (fun _ hk => ⟨trivial, hk⟩) | exact Kd.R_mono HO274.out (fun _ hk => by simp only [and_assoc] at hk ⊢; exact hk))) hg hat); have n4_ := Aside0.mk (hb); have n5_ := Aside0.mk (ho); clear BK249; clear HO262; clear HO268; clear HO274; clear HB; clear HO277; have BK249 := n0_; have HO262 := n1_; have HO268 := n2_; have HO274 := n3_; have HB := n4_; have HO280 := n5_; clear n0_ n1_ n2_ n3_ n4_ n5_; clear ho hb hg hat; obtain ⟨Ao80, co80, eo80⟩ := Kd.R_slice HO280.out; subst eo80) | ((with_reducible refine gate_callee (f := 95) rfl ?_); refine goesL_ (some 61) rfl rfl Try.func95 (by kernel_rfl) rfl #[.string a0, .string a1, .int .i64 17, .int .i64 (y278.length : Int)] rfl (by (try simp only [List.map_toArray, List.map_cons, List.map_nil]); first | done | rfl | (simp only [List.length_drop, List.length_take]; rfl)) ?_; (with_reducible refine (impl_sumHead.calls a0 a1 17 (y278.length : Int) t281 _ A32.out).mono ?_); rintro e w81 ⟨v282, rfl, ho0, hb⟩; refine ⟨_, rfl, ?_⟩; have n0_ := Aside0.mk (Kd.R_elder' (by (with_reducible repeat (first | apply Kd.R_alloc | apply Kd.R_drewN | apply Kd.R_drew)); exact HO262.out) (Kd.R_base ho0) hb); have n1_ := Aside0.mk (Kd.R_elder' (by (with_reducible repeat (first | apply Kd.R_alloc | apply Kd.R_drewN | apply Kd.R_drew)); exact HO268.out) (Kd.R_base ho0) hb); have n2_ := Aside0.mk (Kd.R_elder' (by (with_reducible repeat (first | apply Kd.R_alloc | apply Kd.R_drewN | apply Kd.R_drew)); exact HO274.out) (Kd.R_base ho0) hb); have n3_ := Aside0.mk (Kd.R_elder' (by (with_reducible repeat (first | apply Kd.R_alloc | apply Kd.R_drewN | apply Kd.R_drew)); exact HO280.out) (Kd.R_base ho0) hb); have n4_ := Aside0.mk (Kd.R_lower (Kd.R_new' (Kd.R_new' (Kd.R_new' (Kd.R_new' ho0 (Kd.R_lt (by (with_reducible repeat (first | apply Kd.R_alloc | apply Kd.R_drewN | apply Kd.R_drew)); exact HO262.out))) (Kd.R_lt (by (with_reducible repeat (first | apply Kd.R_alloc | apply Kd.R_drewN | apply Kd.R_drew)); exact HO268.out))) (Kd.R_lt (by (with_reducible repeat (first | apply Kd.R_alloc | apply Kd.R_drewN | apply Kd.R_drew)); exact HO274.out))) (Kd.R_lt (by (with_reducible repeat (first | apply Kd.R_alloc | apply Kd.R_drewN | apply Kd.R_drew)); exact HO280.out))) (below_size (by repeat (first | (with_reducible first | exact HB.out | apply below_alloc | apply pw_below_drewN | apply below_drew1 | refine below_set ?_ GE249.out) | exact HB.out)))); have n5_ := Aside0.mk (blk_below (g := gb249) (o := .cells #[.int .i64 a2_0, .int .i64 a2_1, .slice A2_2 l2_2.length c2_2] 52 (0, 0)) (by (with_reducible repeat (first | refine blk_drewN ?_ _ | refine blk_drew ?_ | refine blk_alloc ?_ _)); exact BK249.out) hb); have n6_ := Aside0.mk (below_step (by repeat (first | (with_reducible first | exact HB.out | apply below_alloc | apply pw_below_drewN | apply below_drew1 | refine below_set ?_ GE249.out) | exact HB.out)) hb); clear HO262; clear HO268; clear HO274; clear HO280; clear BK249; clear HB; have HO262 := n0_; have HO268 := n1_; have HO274 := n2_; have HO280 := n3_; have HO283 := n4_; have BK249 := n5_; have HB := n6_; clear n0_ n1_ n2_ n3_ n4_ n5_ n6_; (try clear hb); (try clear hb2); (try clear hk); (try clear hi); (try clear ho0)) | ((with_reducible refine gate_builtin (b := .append) (xs := #[.tmp 61, .tmp 62]) rfl ?_); at_builtin; refine Kd.R_append_rows (Kd.int .u8) (w0 := w) w.heap.size rfl (.tmp 61) (.tmp 62) 25 5 (.int .u8 0) 1 rfl Try.underlying25 info5 rfl (by decide) (by omega) v282 t281 y278 _ _ _ (fun k_ => some k_ ≠ (.slice Ao69 t260.length co69 : Value).ownBlock ∧ some k_ ≠ (.slice Ao73 t266.length co73 : Value).ownBlock ∧ some k_ ≠ (.slice Ao77 y272.length co77 : Value).ownBlock ∧ some k_ ≠ (.slice Ao80 y278.length co80 : Value).ownBlock) (fun _ => False) rfl rfl ?aO ?aR (fun _ _ h => h) (fun _ h => h.elim) ?aF ?aB ?aS ?aL ?_; (case aR => repeat (first | exact (Kd.R_reads' HO280.out).2.2 | (with_reducible refine Kd.C_alloc ?_ _) | (with_reducible refine Kd.C_drewN ?_ _) | (with_reducible refine Kd.C_drew ?_))); (case aB => exact (by repeat (first | (with_reducible first | exact HB.out | apply below_alloc | apply pw_below_drewN | apply below_drew1 | refine below_set ?_ GE249.out) | exact HB.out))); (case aF => exact (fun k_ hk => ⟨Kd.fresh' (Kd.R_lt (by (with_reducible repeat (first | apply Kd.R_alloc | apply Kd.R_drewN | apply Kd.R_drew)); exact HO262.out)) k_ hk, Kd.fresh' (Kd.R_lt (by (with_reducible repeat (first | apply Kd.R_alloc | apply Kd.R_drewN | apply Kd.R_drew)); exact HO268.out)) k_ hk, Kd.fresh' (Kd.R_lt (by (with_reducible repeat (first | apply Kd.R_alloc | apply Kd.R_drewN | apply Kd.R_drew)); exact HO274.out)) k_ hk, Kd.fresh' (Kd.R_lt (by (with_reducible repeat (first | apply Kd.R_alloc | apply Kd.R_drewN | apply Kd.R_drew)); exact HO280.out)) k_ hk⟩)); (case aO => exact (by (with_reducible repeat (first | apply Kd.R_alloc | apply Kd.R_drewN | apply Kd.R_drew)); exact Kd.R_mono HO283.out (fun _ hk => ⟨hk.1.1.1.2, ⟨hk.1.1.2, ⟨hk.1.2, hk.2⟩⟩⟩))); (case aS => exact (below_size (by repeat (first | (with_reducible first | exact HB.out | apply below_alloc | apply pw_below_drewN | apply below_drew1 | refine below_set ?_ GE249.out) | exact HB.out)))); (case aL => have := LMc33.out; omega); intro v285 w82 ho hb hg hat; rw [← Ny284.out] at ho; have n0_ := Aside0.mk (blk_grown (g := gb249) (o := .cells #[.int .i64 a2_0, .int .i64 a2_1, .slice A2_2 l2_2.length c2_2] 52 (0, 0)) (by (with_reducible repeat (first | refine blk_drewN ?_ _ | refine blk_drew ?_ | refine blk_alloc ?_ _)); exact BK249.out) hg (Kd.R_ne HO283.out BK249.out (by decide))); have n1_ := Aside0.mk (Kd.R_after (ok := (fun k_ => some k_ ≠ (.slice Ao73 t266.length co73 : Value).ownBlock ∧ some k_ ≠ (.slice Ao77 y272.length co77 : Value).ownBlock ∧ some k_ ≠ (.slice Ao80 y278.length co80 : Value).ownBlock)) (by (with_reducible repeat (first | apply Kd.R_alloc | apply Kd.R_drewN | apply Kd.R_drew)); exact Kd.R_mono HO262.out (fun _ hk => ⟨⟨hk.1.1.1, ⟨hk.1.1.2, hk.1.2⟩⟩, hk.2⟩)) hg hat); have n2_ := Aside0.mk (Kd.R_after (ok := (fun k_ => some k_ ≠ (.slice Ao69 t260.length co69 : Value).ownBlock ∧ some k_ ≠ (.slice Ao77 y272.length co77 : Value).ownBlock ∧ some k_ ≠ (.slice Ao80 y278.length co80 : Value).ownBlock)) (by (with_reducible repeat (first | apply Kd.R_alloc | apply Kd.R_drewN | apply Kd.R_drew)); exact Kd.R_mono HO268.out (fun _ hk => ⟨⟨hk.1.1.1, ⟨hk.1.1.2, hk.1.2⟩⟩, hk.2⟩)) hg hat); have n3_ := Aside0.mk (Kd.R_after (ok := (fun k_ => some k_ ≠ (.slice Ao69 t260.length co69 : Value).ownBlock ∧ some k_ ≠ (.slice Ao73 t266.length co73 : Value).ownBlock ∧ some k_ ≠ (.slice Ao80 y278.length co80 : Value).ownBlock)) (by (with_reducible repeat (first | apply Kd.R_alloc | apply Kd.R_drewN | apply Kd.R_drew)); exact Kd.R_mono HO274.out (fun _ hk => ⟨⟨hk.1.1.1, ⟨hk.1.1.2, hk.1.2⟩⟩, hk.2⟩)) hg hat); have n4_ := Aside0.mk (Kd.R_after (ok := (fun k_ => some k_ ≠ (.slice Ao69 t260.length co69 : Value).ownBlock ∧ some k_ ≠ (.slice Ao73 t266.length co73 : Value).ownBlock ∧ some k_ ≠ (.slice Ao77 y272.length co77 : Value).ownBlock)) (by (with_reducible repeat (first | apply Kd.R_alloc | apply Kd.R_drewN | apply Kd.R_drew)); (first | exact HO280.out | exact Kd.R_mono HO280.out (fun _ hk => ⟨trivial, hk⟩) | exact Kd.R_mono HO280.out (fun _ hk => by simp only [and_assoc] at hk ⊢; exact hk))) hg hat); have n5_ := Aside0.mk (hb); have n6_ := Aside0.mk (ho); clear BK249; clear HO262; clear HO268; clear HO274; clear HO280; clear HB; clear HO283; have BK249 := n0_; have HO262 := n1_; have HO268 := n2_; have HO274 := n3_; have HO280 := n4_; have HB := n5_; have HO286 := n6_; clear n0_ n1_ n2_ n3_ n4_ n5_ n6_; clear ho hb hg hat; obtain ⟨Ao83, co83, eo83⟩ := Kd.R_slice HO286.out; subst eo83) | ((with_reducible refine gate_callee (f := 85) rfl ?_); refine goesL_ (some 64) rfl rfl Try.func85 (by kernel_rfl) rfl #[.slice Ao83 y284.length co83] rfl (by (try simp only [List.map_toArray, List.map_cons, List.map_nil]); first | done | rfl | (simp only [List.length_drop, List.length_take]; rfl)) ?_; (with_reducible refine (impl_checkSum.calls kj9 _ _ y284 t287 _ ?side1 ?side2 A34.out).mono ?_); (case side1 => repeat (first | exact (Kd.R_reads' HO286.out).2.2 | (with_reducible refine Kd.C_alloc ?_ _) | (with_reducible refine Kd.C_drewN ?_ _) | (with_reducible refine Kd.C_drew ?_))); (case side2 => exact (Kd.R_reads' HO286.out).2.1); rintro e w' ⟨rfl, ⟨nd, rfl⟩⟩; refine ⟨_, rfl, ?_⟩))
                        (try (rw [drewN_self w82]; generalize hq_ : World.drewN w82 _ = w82; have n0_ : Aside0 (Kd.R (Kd.int .u8) 5 w82 w.heap.size (fun k_ => ((some k_ ≠ (.slice Ao73 t266.length co73 : Value).ownBlock ∧ (some k_ ≠ (.slice Ao77 y272.length co77 : Value).ownBlock ∧ some k_ ≠ (.slice Ao80 y278.length co80 : Value).ownBlock)) ∧ some k_ ≠ (.slice Ao83 y284.length co83 : Value).ownBlock)) (.slice Ao69 t260.length co69) t260) := ⟨by rw [← hq_]; exact (by (with_reducible repeat (first | apply Kd.R_alloc | apply Kd.R_drewN | apply Kd.R_drew)); exact HO262.out)⟩; have n1_ : Aside0 (Kd.R (Kd.int .u8) 5 w82 w.heap.size (fun k_ => ((some k_ ≠ (.slice Ao69 t260.length co69 : Value).ownBlock ∧ (some k_ ≠ (.slice Ao77 y272.length co77 : Value).ownBlock ∧ some k_ ≠ (.slice Ao80 y278.length co80 : Value).ownBlock)) ∧ some k_ ≠ (.slice Ao83 y284.length co83 : Value).ownBlock)) (.slice Ao73 t266.length co73) t266) := ⟨by rw [← hq_]; exact (by (with_reducible repeat (first | apply Kd.R_alloc | apply Kd.R_drewN | apply Kd.R_drew)); exact HO268.out)⟩; have n2_ : Aside0 (Kd.R (Kd.int .u8) 5 w82 w.heap.size (fun k_ => ((some k_ ≠ (.slice Ao69 t260.length co69 : Value).ownBlock ∧ (some k_ ≠ (.slice Ao73 t266.length co73 : Value).ownBlock ∧ some k_ ≠ (.slice Ao80 y278.length co80 : Value).ownBlock)) ∧ some k_ ≠ (.slice Ao83 y284.length co83 : Value).ownBlock)) (.slice Ao77 y272.length co77) y272) := ⟨by rw [← hq_]; exact (by (with_reducible repeat (first | apply Kd.R_alloc | apply Kd.R_drewN | apply Kd.R_drew)); exact HO274.out)⟩; have n3_ : Aside0 (Kd.R (Kd.int .u8) 5 w82 w.heap.size (fun k_ => ((some k_ ≠ (.slice Ao69 t260.length co69 : Value).ownBlock ∧ (some k_ ≠ (.slice Ao73 t266.length co73 : Value).ownBlock ∧ some k_ ≠ (.slice Ao77 y272.length co77 : Value).ownBlock)) ∧ some k_ ≠ (.slice Ao83 y284.length co83 : Value).ownBlock)) (.slice Ao80 y278.length co80) y278) := ⟨by rw [← hq_]; exact (by (with_reducible repeat (first | apply Kd.R_alloc | apply Kd.R_drewN | apply Kd.R_drew)); exact HO280.out)⟩; have n4_ : Aside0 (Kd.R (Kd.int .u8) 5 w82 w.heap.size (fun k_ => (some k_ ≠ (.slice Ao69 t260.length co69 : Value).ownBlock ∧ (some k_ ≠ (.slice Ao73 t266.length co73 : Value).ownBlock ∧ (some k_ ≠ (.slice Ao77 y272.length co77 : Value).ownBlock ∧ some k_ ≠ (.slice Ao80 y278.length co80 : Value).ownBlock)))) (.slice Ao83 y284.length co83) y284) := ⟨by rw [← hq_]; exact (by (with_reducible repeat (first | apply Kd.R_alloc | apply Kd.R_drewN | apply Kd.R_drew)); exact HO286.out)⟩; have n5_ : Aside0 (w82.heap[gb249]? = some (.cells #[.int .i64 a2_0, .int .i64 a2_1, .slice A2_2 l2_2.length c2_2] 52 (0, 0))) := ⟨by rw [← hq_]; exact (by (with_reducible repeat (first | refine blk_drewN ?_ _ | refine blk_drew ?_ | refine blk_alloc ?_ _)); exact BK249.out)⟩; have n6_ : Aside0 (Below w.heap.size w w82) := ⟨by rw [← hq_]; exact (by repeat (first | (with_reducible first | exact HB.out | apply below_alloc | apply pw_below_drewN | apply below_drew1 | refine below_set ?_ GE249.out) | exact HB.out))⟩; clear HO262 HO268 HO274 HO280 HO286 BK249 HB hq_; have HO262 := n0_; have HO268 := n1_; have HO274 := n2_; have HO280 := n3_; have HO286 := n4_; have BK249 := n5_; have HB := n6_; clear n0_ n1_ n2_ n3_ n4_ n5_ n6_))
                        have n0_ := Aside0.mk (Kd.R_drew HO262.out)
                        have n1_ := Aside0.mk (Kd.R_drew HO268.out)
                        have n2_ := Aside0.mk (Kd.R_drew HO274.out)
                        have n3_ := Aside0.mk (Kd.R_drew HO280.out)
                        have n4_ := Aside0.mk (Kd.R_drew HO286.out)
                        have n5_ := Aside0.mk (blk_drew BK249.out)
                        have n6_ := Aside0.mk (below_drew1 HB.out)
                        clear HO262
                        clear HO268
                        clear HO274
                        clear HO280
                        clear HO286
                        clear BK249
                        clear HB
                        have HO262 := n0_
                        have HO268 := n1_
                        have HO274 := n2_
                        have HO280 := n3_
                        have HO286 := n4_
                        have BK249 := n5_
                        have HB := n6_
                        clear n0_ n1_ n2_ n3_ n4_ n5_ n6_
                        obtain ⟨go85, co85, eo85, gb85, gl85, cl85, HG85⟩ := Kd.R_form HO280.out (by have hh_ : (6 : Int) ≤ (y278.length : Int) := of_decide_eq_true (by first | (with_reducible assumption) | assumption); have hn1_ := (Kd.R_reads' HO280.out).1; omega)
                        (first | cases eo85 | (injection eo85 with ea_ en_ ec_; (first | subst ea_ | (injection ea_ with ea_; subst ea_)); subst ec_; clear en_))
                        have GB85 := Aside0.mk gb85
                        have GG85 := Aside0.mk HG85
                        clear gb85 gl85 HG85
                        have q85 : (6 : Int) ≤ ((y278.length : Int) : Int) := of_decide_eq_true (by first | (with_reducible assumption) | assumption)
                        obtain ⟨i085, hi085, _, hsz85, _⟩ := info_parts info5
                        have hroom85 : y278.length ≤ co80 := (Kd.R_reads' HO280.out).2.1
                        have hC85 : Kd.C (Kd.int .u8) _ (some ⟨go85, 0, none⟩) y278.length y278 := (Kd.R_reads' HO280.out).2.2
                        have hcut85 := cut_from (P := Try.prog) 25 5 .i64 Try.underlying25 hi085 1 hsz85 (some ⟨go85, 0, none⟩) y278.length co80 6 (by omega) q85
                        have hr85 := Kd.C_drop (m := (6 : Int).toNat) (c := co80) hC85 (by omega) hroom85
                        obtain ⟨A85, hA85⟩ : ∃ A1, A1 = (if co80 = (6 : Int).toNat then (some ⟨go85, 0, none⟩) else ((some ⟨go85, 0, none⟩) : Option Addr).map (·.add ((6 : Int).toNat * 1))) := ⟨_, rfl⟩
                        obtain ⟨c85, hc85⟩ : ∃ c1, c1 = co80 - (6 : Int).toNat := ⟨_, rfl⟩
                        have hy85 : y296.length = y278.length - (6 : Int).toNat := (by rw [Ny296.out, List.length_drop] <;> omega)
                        rw [show (y278).drop (6 : Int).toNat = y296 from Ny296.out.symm] at hr85
                        replace hr85 : Kd.C (Kd.int .u8) _ A85 y296.length y296 := (by rw [hA85]; exact hr85)
                        rw [← hy85, ← hA85, ← hc85] at hcut85
                        have HR299 := Aside0.mk hr85
                        have HC299 := Aside0.mk (show y296.length ≤ c85 from by rw [hy85, hc85]; exact Nat.sub_le_sub_right hroom85 _)
                        clear hr85 hC85 hroom85 hi085 hsz85 hc85
                        have KY85 := Aside0.mk hy85
                        have KA85 := Aside0.mk hA85
                        clear hy85 hA85
                        have KL85 := Aside0.mk (show 6 ≤ y278.length from by omega)
                        replace q85 := eq_true q85
                        refine start_ (n := 5) (S := fun w' => True) (ds := []) #[false, false, false, false, false] (by kernel_rfl) rfl rfl trivial (fun hHeld => ?_)
                        generalize w82.drew = w84 at HO262 HO268 HO274 HO280 HO286 BK249 HB GG85 HR299 hHeld ⊢
                        refine pure_ (i := 0) (N := some 67) (v := ?_) (a' := ?_) #[true, false, false, false, false] rfl rfl (by kernel_rfl) (fun _ _ _ h => h) (Or.inl ⟨by rfl, ?_⟩) ?_ ?_
                        rotate_left
                        · intro w'
                          go_simp
                          with_reducible rfl
                        rotate_left
                        · simp only [Act.put, List.setIfInBounds_toArray, List.set_cons_zero, List.set_cons_succ, i64_w, i32_w]
                          rfl
                        refine pure_ (i := 1) (N := some 68) (v := ?_) (a' := ?_) #[true, true, false, false, false] rfl rfl (by kernel_rfl) (fun _ _ _ h => h) (Or.inl ⟨by rfl, ?_⟩) ?_ ?_
                        rotate_left
                        · intro w'
                          go_simp
                          with_reducible rfl
                        rotate_left
                        · simp only [Act.put, List.setIfInBounds_toArray, List.set_cons_zero, List.set_cons_succ, i64_w, i32_w]
                          rfl
                        refine pure_ (i := 2) (N := some 69) (v := ?_) (a' := ?_) #[true, true, true, false, false] rfl rfl (by kernel_rfl) (fun _ _ _ h => h) (Or.inl ⟨by rfl, ?_⟩) ?_ ?_
                        rotate_left
                        · intro w'
                          go_simp
                          with_reducible rfl
                        rotate_left
                        · simp only [Act.put, List.setIfInBounds_toArray, List.set_cons_zero, List.set_cons_succ, i64_w, i32_w]
                          rfl
                        refine one_ (i := 3) (N := some 70) #[true, true, true, true, false] rfl rfl (by kernel_rfl) (by decide) (fun K hK => ?_)
                        refine goes_ Try.func84 (by kernel_rfl) rfl #[.int .i64 t287] (by rfl) rfl rfl (by (try simp only [List.map_toArray, List.map_cons, List.map_nil]); first | done | rfl | (simp only [List.length_drop, List.length_take]; rfl)) ?_
                        with_reducible refine (impl_word16.calls t287 t300 _ A64.out).mono ?_
                        rintro e w86 ⟨v301, rfl, ho0, hb⟩
                        refine ⟨_, rfl, ?_⟩
                        have n0_ := Aside0.mk (Kd.R_elder' (by (with_reducible repeat (first | apply Kd.R_alloc | apply Kd.R_drewN | apply Kd.R_drew)); exact HO262.out) (Kd.R_base ho0) hb)
                        have n1_ := Aside0.mk (Kd.R_elder' (by (with_reducible repeat (first | apply Kd.R_alloc | apply Kd.R_drewN | apply Kd.R_drew)); exact HO268.out) (Kd.R_base ho0) hb)
                        have n2_ := Aside0.mk (Kd.R_elder' (by (with_reducible repeat (first | apply Kd.R_alloc | apply Kd.R_drewN | apply Kd.R_drew)); exact HO274.out) (Kd.R_base ho0) hb)
                        have n3_ := Aside0.mk (Kd.R_elder' (by (with_reducible repeat (first | apply Kd.R_alloc | apply Kd.R_drewN | apply Kd.R_drew)); exact HO280.out) (Kd.R_base ho0) hb)
                        have n4_ := Aside0.mk (Kd.R_elder' (by (with_reducible repeat (first | apply Kd.R_alloc | apply Kd.R_drewN | apply Kd.R_drew)); exact HO286.out) (Kd.R_base ho0) hb)
                        have n5_ := Aside0.mk (Kd.R_lower (Kd.R_new' (Kd.R_new' (Kd.R_new' (Kd.R_new' (Kd.R_new' ho0 (Kd.R_lt (by (with_reducible repeat (first | apply Kd.R_alloc | apply Kd.R_drewN | apply Kd.R_drew)); exact HO262.out))) (Kd.R_lt (by (with_reducible repeat (first | apply Kd.R_alloc | apply Kd.R_drewN | apply Kd.R_drew)); exact HO268.out))) (Kd.R_lt (by (with_reducible repeat (first | apply Kd.R_alloc | apply Kd.R_drewN | apply Kd.R_drew)); exact HO274.out))) (Kd.R_lt (by (with_reducible repeat (first | apply Kd.R_alloc | apply Kd.R_drewN | apply Kd.R_drew)); exact HO280.out))) (Kd.R_lt (by (with_reducible repeat (first | apply Kd.R_alloc | apply Kd.R_drewN | apply Kd.R_drew)); exact HO286.out))) (below_size (by repeat (first | (with_reducible first | exact HB.out | apply below_alloc | apply pw_below_drewN | apply below_drew1 | refine below_set ?_ GE249.out) | exact HB.out))))
                        have n6_ := Aside0.mk (blk_below (g := gb249) (o := .cells #[.int .i64 a2_0, .int .i64 a2_1, .slice A2_2 l2_2.length c2_2] 52 (0, 0)) (by (with_reducible repeat (first | refine blk_drewN ?_ _ | refine blk_drew ?_ | refine blk_alloc ?_ _)); exact BK249.out) hb)
                        have n7_ := Aside0.mk (Kd.C_below (by repeat (first | (with_reducible exact HR299.out) | (with_reducible refine Kd.C_alloc ?_ _) | (with_reducible refine Kd.C_drewN ?_ _) | (with_reducible refine Kd.C_drew ?_) | exact HR299.out)) hb)
                        have n8_ := Aside0.mk (below_step (by repeat (first | (with_reducible first | exact HB.out | apply below_alloc | apply pw_below_drewN | apply below_drew1 | refine below_set ?_ GE249.out) | exact HB.out)) hb)
                        clear HO262
                        clear HO268
                        clear HO274
                        clear HO280
                        clear HO286
                        clear BK249
                        clear HR299
                        clear HB
                        have HO262 := n0_
                        have HO268 := n1_
                        have HO274 := n2_
                        have HO280 := n3_
                        have HO286 := n4_
                        have HO302 := n5_
                        have BK249 := n6_
                        have HR299 := n7_
                        have HB := n8_
                        clear n0_ n1_ n2_ n3_ n4_ n5_ n6_ n7_ n8_
                        (try clear hb)
                        (try clear hb2)
                        (try clear hk)
                        (try clear hi)
                        (try clear ho0)
                        obtain ⟨Ao89, co89, eo89⟩ := Kd.R_slice HO302.out
                        (first | subst eo89 | (injection eo89 with f1_ f2_ f3_; have f4_ := f1_.symm; have f5_ := f3_.symm; clear f1_ f2_ f3_; subst f4_; subst f5_))
                        have n_ := Aside0.mk (Kd.R_mono (ok' := (fun k_ => some k_ ≠ (.slice Ao69 t260.length co69 : Value).ownBlock ∧ some k_ ≠ (.slice Ao73 t266.length co73 : Value).ownBlock ∧ some k_ ≠ (.slice Ao77 y272.length co77 : Value).ownBlock ∧ some k_ ≠ (.slice Ao83 y284.length co83 : Value).ownBlock ∧ some k_ ≠ (.slice Ao89 t300.length co89 : Value).ownBlock)) HO280.out (fun k_ hk => ⟨hk.1.1.1, ⟨hk.1.1.2.1, ⟨hk.1.1.2.2, ⟨hk.1.2, hk.2⟩⟩⟩⟩))
                        clear HO280
                        have HO280 := n_
                        clear n_
                        refine hK.out _ _ trivial (fun hHeld => ?_)
                        clear hK K
                        refine norm_ (a' := ?_) ?_ ?_
                        rotate_left
                        · show Act.put _ (some 70) _ = _
                          simp only [Act.put, List.setIfInBounds_toArray, List.set_cons_zero, List.set_cons_succ, i64_w, i32_w]
                          rfl
                        refine one_ (i := 4) (N := some 71) #[true, true, true, true, true] rfl rfl (by kernel_rfl) (by decide) (fun K hK => ?_)
                        have hh_ : (6 : Int) ≤ (y278.length : Int) := of_decide_eq_true (by first | (with_reducible assumption) | assumption)
                        have hn1_ := (Kd.R_reads' HO280.out).1
                        refine Kd.R_copycut_step (w0 := w) w.heap.size (by rfl) (.tmp 68) (.tmp 70) 25 25 5 rfl Try.underlying25 (by kernel_rfl) (g := go85) (n := y278.length) (c := co80) (ys := t300) (6 : Int).toNat rfl rfl ?hA ?hm (by (with_reducible repeat (first | apply Kd.R_alloc | apply Kd.R_drewN | apply Kd.R_drew)); exact HO280.out) ?aR ?hk (by repeat (first | (with_reducible first | exact HB.out | apply below_alloc | apply pw_below_drewN | apply below_drew1 | refine below_set ?_ GE249.out) | exact HB.out)) (below_size (by repeat (first | (with_reducible first | exact HB.out | apply below_alloc | apply pw_below_drewN | apply below_drew1 | refine below_set ?_ GE249.out) | exact HB.out))) ?_
                        (case aR => repeat (first | exact (Kd.R_reads' HO302.out).2.2 | (with_reducible refine Kd.C_alloc ?_ _) | (with_reducible refine Kd.C_drewN ?_ _) | (with_reducible refine Kd.C_drew ?_)))
                        (case hA => exact KA85.out)
                        (case hm => exact KY85.out)
                        (case hk => omega)
                        intro w87 ho hb hg
                        clear hh_ hn1_
                        rw [← Ny303.out] at ho
                        have n0_ := Aside0.mk (blk_grown (g := gb249) (o := .cells #[.int .i64 a2_0, .int .i64 a2_1, .slice A2_2 l2_2.length c2_2] 52 (0, 0)) (by (with_reducible repeat (first | refine blk_drewN ?_ _ | refine blk_drew ?_ | refine blk_alloc ?_ _)); exact BK249.out) hg (Kd.R_ne HO280.out BK249.out (by decide)))
                        have n1_ := Aside0.mk (Kd.R_after (v := (.slice (some ⟨go85, 0, none⟩) y278.length co80)) (v1 := .slice (some ⟨go85, 0, none⟩) y278.length co80) (ok := (fun k_ => some k_ ≠ (.slice Ao73 t266.length co73 : Value).ownBlock ∧ some k_ ≠ (.slice Ao77 y272.length co77 : Value).ownBlock ∧ some k_ ≠ (.slice Ao83 y284.length co83 : Value).ownBlock ∧ some k_ ≠ (.slice Ao89 t300.length co89 : Value).ownBlock)) (by (with_reducible repeat (first | apply Kd.R_alloc | apply Kd.R_drewN | apply Kd.R_drew)); exact Kd.R_mono HO262.out (fun _ hk => ⟨⟨hk.1.1.1, ⟨hk.1.1.2.1, ⟨hk.1.2, hk.2⟩⟩⟩, hk.1.1.2.2⟩)) hg (.inl rfl))
                        have n2_ := Aside0.mk (Kd.R_after (v := (.slice (some ⟨go85, 0, none⟩) y278.length co80)) (v1 := .slice (some ⟨go85, 0, none⟩) y278.length co80) (ok := (fun k_ => some k_ ≠ (.slice Ao69 t260.length co69 : Value).ownBlock ∧ some k_ ≠ (.slice Ao77 y272.length co77 : Value).ownBlock ∧ some k_ ≠ (.slice Ao83 y284.length co83 : Value).ownBlock ∧ some k_ ≠ (.slice Ao89 t300.length co89 : Value).ownBlock)) (by (with_reducible repeat (first | apply Kd.R_alloc | apply Kd.R_drewN | apply Kd.R_drew)); exact Kd.R_mono HO268.out (fun _ hk => ⟨⟨hk.1.1.1, ⟨hk.1.1.2.1, ⟨hk.1.2, hk.2⟩⟩⟩, hk.1.1.2.2⟩)) hg (.inl rfl))
                        have n3_ := Aside0.mk (Kd.R_after (v := (.slice (some ⟨go85, 0, none⟩) y278.length co80)) (v1 := .slice (some ⟨go85, 0, none⟩) y278.length co80) (ok := (fun k_ => some k_ ≠ (.slice Ao69 t260.length co69 : Value).ownBlock ∧ some k_ ≠ (.slice Ao73 t266.length co73 : Value).ownBlock ∧ some k_ ≠ (.slice Ao83 y284.length co83 : Value).ownBlock ∧ some k_ ≠ (.slice Ao89 t300.length co89 : Value).ownBlock)) (by (with_reducible repeat (first | apply Kd.R_alloc | apply Kd.R_drewN | apply Kd.R_drew)); exact Kd.R_mono HO274.out (fun _ hk => ⟨⟨hk.1.1.1, ⟨hk.1.1.2.1, ⟨hk.1.2, hk.2⟩⟩⟩, hk.1.1.2.2⟩)) hg (.inl rfl))
                        have n4_ := Aside0.mk (ho)
                        have n5_ := Aside0.mk (Kd.R_after (v := (.slice (some ⟨go85, 0, none⟩) y278.length co80)) (v1 := .slice (some ⟨go85, 0, none⟩) y278.length co80) (ok := (fun k_ => some k_ ≠ (.slice Ao69 t260.length co69 : Value).ownBlock ∧ some k_ ≠ (.slice Ao73 t266.length co73 : Value).ownBlock ∧ some k_ ≠ (.slice Ao77 y272.length co77 : Value).ownBlock ∧ some k_ ≠ (.slice Ao89 t300.length co89 : Value).ownBlock)) (by (with_reducible repeat (first | apply Kd.R_alloc | apply Kd.R_drewN | apply Kd.R_drew)); exact Kd.R_mono HO286.out (fun _ hk => ⟨⟨hk.1.1, ⟨hk.1.2.1, ⟨hk.1.2.2.1, hk.2⟩⟩⟩, hk.1.2.2.2⟩)) hg (.inl rfl))
                        have n6_ := Aside0.mk (Kd.R_after (v := (.slice (some ⟨go85, 0, none⟩) y278.length co80)) (v1 := .slice (some ⟨go85, 0, none⟩) y278.length co80) (ok := (fun k_ => some k_ ≠ (.slice Ao69 t260.length co69 : Value).ownBlock ∧ some k_ ≠ (.slice Ao73 t266.length co73 : Value).ownBlock ∧ some k_ ≠ (.slice Ao77 y272.length co77 : Value).ownBlock ∧ some k_ ≠ (.slice Ao83 y284.length co83 : Value).ownBlock)) (by (with_reducible repeat (first | apply Kd.R_alloc | apply Kd.R_drewN | apply Kd.R_drew)); exact Kd.R_mono HO302.out (fun _ hk => ⟨⟨hk.1.1.1.1.2, ⟨hk.1.1.1.2, ⟨hk.1.1.2, hk.2⟩⟩⟩, hk.1.2⟩)) hg (.inl rfl))
                        have n7_ := Aside0.mk (hb)
                        clear BK249
                        clear HO262
                        clear HO268
                        clear HO274
                        clear HO280
                        clear HO286
                        clear HO302
                        clear HB
                        have BK249 := n0_
                        have HO262 := n1_
                        have HO268 := n2_
                        have HO274 := n3_
                        have HO280 := n4_
                        have HO286 := n5_
                        have HO302 := n6_
                        have HB := n7_
                        clear n0_ n1_ n2_ n3_ n4_ n5_ n6_ n7_
                        clear ho hb hg
                        refine hK.out _ _ trivial (fun hHeld => ?_)
                        clear hK K
                        refine norm_ (a' := ?_) ?_ ?_
                        rotate_left
                        · show Act.put _ (some 71) _ = _
                          simp only [Act.put, List.setIfInBounds_toArray, List.set_cons_zero, List.set_cons_succ, i64_w, i32_w]
                          rfl
                        refine done_ (by kernel_rfl) ?_
                        try go_wp2
                        go_ret2
                        exact ⟨_, by first | rfl | (simp [errW_none, errW_some] <;> rfl) | (simp [*, errW_none, errW_some] <;> rfl), by (with_reducible repeat (first | apply Kd.R_alloc | apply Kd.R_drewN | apply Kd.R_drew)); exact Kd.R_mono HO280.out (fun _ hk => trivial), by repeat (first | (with_reducible first | exact HB.out | apply below_alloc | apply pw_below_drewN | apply below_drew1 | refine below_set ?_ GE249.out) | exact HB.out)⟩
                      · rw [if_neg c63] at H
                        exact absurd H (by simp)
                  · rw [if_neg c33] at H
                    exact absurd H (by simp)
                · rw [if_neg c31] at H
                  exact absurd H (by simp)
              · rw [if_neg c30] at H
                exact absurd H (by simp)
            · rw [if_neg c29] at H
              exact absurd H (by simp)
          · rw [if_neg c27] at H
            exact absurd H (by simp)

end Go.Proofs.Ytjfpkfophfelmaa.QFnUdp

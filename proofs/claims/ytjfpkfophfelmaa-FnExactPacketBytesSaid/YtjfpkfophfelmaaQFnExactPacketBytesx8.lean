-- written by a program of this session
import Derived.Test.YtjfpkfophfelmaaQFnExactPacketBytesx0
import Derived.Test.YtjfpkfophfelmaaQFnExactPacketBytesx7
namespace Go.Proofs.Ytjfpkfophfelmaa.QFnExactPacketBytes
open Go.RowKit Go.Proofs.YtjfpkfophfelmaaV.PrintWords Go.Proofs.YtjfpkfophfelmaaV.PrintLast Go.Proofs.YtjfpkfophfelmaaV.PrintMore
attribute [local go_sem] max2_int min2_int max_two min_two max_three min_three max_four min_four   -- for this text's walks alone
set_option linter.unusedVariables false
set_option linter.unusedSimpArgs false

/-! ### impl_packetBytes: function 113 -/
mutual
def impl_packetBytes.j0 : Nat → Int → Int → ByteArray → ByteArray → Int → Int → Int → Int → Bool → Bool → List Int → Option (List Int)
  | 0, _, _, _, _, _, _, _, _, _, _, _ => none
  | k + 1, x4, x214000, x214001, x214002, x214003, x214004, x214005, x214006, x214007, x214008, x214009 => if x214007 = true then (impl_packetBytes.j1 k (wrap64 (x4 + 8192)) x214000 x214001 x214002 x214003 x214004 x214005 x214006 x214007 x214008 x214009) else (impl_packetBytes.j1 k x4 x214000 x214001 x214002 x214003 x214004 x214005 x214006 x214007 x214008 x214009)
def impl_packetBytes.j1 : Nat → Int → Int → ByteArray → ByteArray → Int → Int → Int → Int → Bool → Bool → List Int → Option (List Int)
  | 0, _, _, _, _, _, _, _, _, _, _, _ => none
  | k + 1, x4, x214000, x214001, x214002, x214003, x214004, x214005, x214006, x214007, x214008, x214009 => (some (([69, 0] : List Int) : List Int)).bind fun y238 => ((impl_word16.f (wrap64 (20 + (x214009.length : Int)))).bind fun t241 => (if y238.length + t241.length < 140737488355328 then ((some (y238 ++ t241 : List Int)).bind fun y244 => ((impl_word16.f x214005).bind fun t247 => (if y244.length + t247.length < 140737488355328 then ((some (y244 ++ t247 : List Int)).bind fun y250 => ((impl_word16.f x4).bind fun t253 => (if y250.length + t253.length < 140737488355328 then ((some (y250 ++ t253 : List Int)).bind fun y256 => ((some (([(x214003) % 256, (x214004) % 256, 0, 0] : List Int) : List Int)).bind fun y259 => (if y256.length + y259.length < 140737488355328 then ((some (y256 ++ y259 : List Int)).bind fun y262 => (if y262.length + x214001.size < 140737488355328 then ((some (y262 ++ bytesOf x214001 : List Int)).bind fun y265 => (if y265.length + x214002.size < 140737488355328 then ((some (y265 ++ bytesOf x214002 : List Int)).bind fun y268 => (if 10 ≤ (y268.length : Int) then ((impl_checkSum.f k y268).bind fun t275 => ((impl_word16.f t275).bind fun t276 => ((some (copyAt y268 (10 : Int).toNat t276 : List Int)).bind fun y279 => (if y279.length + x214009.length < 140737488355328 then (some (y279 ++ x214009)) else (none))))) else (none))) else (none))) else (none))) else (none)))) else (none)))) else (none)))) else (none)))
end
def impl_packetBytes.f (k : Nat) (a0_0 : Int) (a0_1 : ByteArray) (a0_2 : ByteArray) (a0_3 : Int) (a0_4 : Int) (a0_5 : Int) (a0_6 : Int) (a0_7 : Bool) (a0_8 : Bool) (l0_9 : List Int) : Option (List Int) := if a0_0 = 6 then ((some (([96, 0, 0, 0] : List Int) : List Int)).bind fun y214 => ((impl_word16.f (l0_9.length : Int)).bind fun t217 => (if y214.length + t217.length < 140737488355328 then ((some (y214 ++ t217 : List Int)).bind fun y220 => ((some (([(a0_4) % 256, (a0_3) % 256] : List Int) : List Int)).bind fun y223 => (if y220.length + y223.length < 140737488355328 then ((some (y220 ++ y223 : List Int)).bind fun y226 => (if y226.length + a0_1.size < 140737488355328 then ((some (y226 ++ bytesOf a0_1 : List Int)).bind fun y229 => (if y229.length + a0_2.size < 140737488355328 then ((some (y229 ++ bytesOf a0_2 : List Int)).bind fun y232 => (if y232.length + l0_9.length < 140737488355328 then (some (y232 ++ l0_9)) else (none))) else (none))) else (none))) else (none)))) else (none)))) else (if a0_8 = true then (impl_packetBytes.j0 k (wrap64 (a0_6 + 16384)) a0_0 a0_1 a0_2 a0_3 a0_4 a0_5 a0_6 a0_7 a0_8 l0_9) else (impl_packetBytes.j0 k a0_6 a0_0 a0_1 a0_2 a0_3 a0_4 a0_5 a0_6 a0_7 a0_8 l0_9))
theorem impl_packetBytes.mono_l : ∀ k, (∀ y0 y1 y2 y3 y4 y5 y6 y7 y8 y9 y10, LeO (impl_packetBytes.j0 k y0 y1 y2 y3 y4 y5 y6 y7 y8 y9 y10) (impl_packetBytes.j0 (k + 1) y0 y1 y2 y3 y4 y5 y6 y7 y8 y9 y10)) ∧ (∀ y0 y1 y2 y3 y4 y5 y6 y7 y8 y9 y10, LeO (impl_packetBytes.j1 k y0 y1 y2 y3 y4 y5 y6 y7 y8 y9 y10) (impl_packetBytes.j1 (k + 1) y0 y1 y2 y3 y4 y5 y6 y7 y8 y9 y10))
  | 0 => ⟨fun _ _ _ _ _ _ _ _ _ _ _ r h => by simp [impl_packetBytes.j0] at h, fun _ _ _ _ _ _ _ _ _ _ _ r h => by simp [impl_packetBytes.j1] at h⟩
  | k + 1 => by
    obtain ⟨ih0, ih1⟩ := impl_packetBytes.mono_l k
    refine ⟨?_, ?_⟩
    · intro y0 y1 y2 y3 y4 y5 y6 y7 y8 y9 y10
      unfold impl_packetBytes.j0
      repeat' first
      | (with_reducible exact ih0 _ _ _ _ _ _ _ _ _ _ _)
      | (with_reducible exact ih1 _ _ _ _ _ _ _ _ _ _ _)
      | (with_reducible exact impl_checkSum.mono _ _)
      | (with_reducible exact LeO.refl _)
      | (with_reducible exact LeO.none _)
      | (with_reducible refine LeO.ite ?_ ?_)
      | (with_reducible refine LeO.bind ?_ (fun _ => ?_))
      | exact ih0 _ _ _ _ _ _ _ _ _ _ _
      | exact ih1 _ _ _ _ _ _ _ _ _ _ _
      | exact impl_checkSum.mono _ _
      | exact LeO.none _
      | refine LeO.ite ?_ ?_
      | refine LeO.bind ?_ (fun _ => ?_)
    · intro y0 y1 y2 y3 y4 y5 y6 y7 y8 y9 y10
      unfold impl_packetBytes.j1
      repeat' first
      | (with_reducible exact ih0 _ _ _ _ _ _ _ _ _ _ _)
      | (with_reducible exact ih1 _ _ _ _ _ _ _ _ _ _ _)
      | (with_reducible exact impl_checkSum.mono _ _)
      | (with_reducible exact LeO.refl _)
      | (with_reducible exact LeO.none _)
      | (with_reducible refine LeO.ite ?_ ?_)
      | (with_reducible refine LeO.bind ?_ (fun _ => ?_))
      | exact ih0 _ _ _ _ _ _ _ _ _ _ _
      | exact ih1 _ _ _ _ _ _ _ _ _ _ _
      | exact impl_checkSum.mono _ _
      | exact LeO.none _
      | refine LeO.ite ?_ ?_
      | refine LeO.bind ?_ (fun _ => ?_)
theorem impl_packetBytes.mono : ∀ a0 a1 a2 a3 a4 a5 a6 a7 a8 a9 k, LeO (impl_packetBytes.f k a0 a1 a2 a3 a4 a5 a6 a7 a8 a9) (impl_packetBytes.f (k + 1) a0 a1 a2 a3 a4 a5 a6 a7 a8 a9) := by
  intro a0 a1 a2 a3 a4 a5 a6 a7 a8 a9 k
  obtain ⟨ih0, ih1⟩ := impl_packetBytes.mono_l k
  unfold impl_packetBytes.f
  repeat' first
      | (with_reducible exact ih0 _ _ _ _ _ _ _ _ _ _ _)
      | (with_reducible exact ih1 _ _ _ _ _ _ _ _ _ _ _)
      | (with_reducible exact impl_checkSum.mono _ _)
      | (with_reducible exact LeO.refl _)
      | (with_reducible exact LeO.none _)
      | (with_reducible refine LeO.ite ?_ ?_)
      | (with_reducible refine LeO.bind ?_ (fun _ => ?_))
      | exact ih0 _ _ _ _ _ _ _ _ _ _ _
      | exact ih1 _ _ _ _ _ _ _ _ _ _ _
      | exact impl_checkSum.mono _ _
      | exact LeO.none _
      | refine LeO.ite ?_ ?_
      | refine LeO.bind ?_ (fun _ => ?_)
set_option maxHeartbeats 8000000 in
set_option maxRecDepth 100000 in
theorem impl_packetBytes.calls (k : Nat) (a0_0 : Int) (a0_1 : ByteArray) (a0_2 : ByteArray) (a0_3 : Int) (a0_4 : Int) (a0_5 : Int) (a0_6 : Int) (a0_7 : Bool) (a0_8 : Bool) (A0_9 : Option Addr) (c0_9 : Nat) (l0_9 : List Int) (r : List Int) (w : World) (hr0_9 : Kd.C (Kd.int .u8) w A0_9 l0_9.length l0_9) (hc0_9 : l0_9.length ≤ c0_9) (h : impl_packetBytes.f k a0_0 a0_1 a0_2 a0_3 a0_4 a0_5 a0_6 a0_7 a0_8 l0_9 = some r) :
    Calls Try.prog 113 #[.agg #[.int .i64 a0_0, .string a0_1, .string a0_2, .int .i64 a0_3, .int .i64 a0_4, .int .i64 a0_5, .int .i64 a0_6, .bool a0_7, .bool a0_8, .slice A0_9 l0_9.length c0_9]] w fun e w' => ∃ v0_ : Value, e = .returned (v0_) ∧ Kd.R (Kd.int .u8) 5 w' w.heap.size (fun _ => True) v0_ r ∧ Below w.heap.size w w' := by
  have hu67 := Try.underlying67
  have HR0_9 := Aside0.mk hr0_9
  have HC0_9 := Aside0.mk hc0_9
  clear hr0_9 hc0_9
  have HB := Aside0.mk (Below.refl w.heap.size w)
  have H : (if a0_0 = 6 then ((some (([96, 0, 0, 0] : List Int) : List Int)).bind fun y214 => ((impl_word16.f (l0_9.length : Int)).bind fun t217 => (if y214.length + t217.length < 140737488355328 then ((some (y214 ++ t217 : List Int)).bind fun y220 => ((some (([(a0_4) % 256, (a0_3) % 256] : List Int) : List Int)).bind fun y223 => (if y220.length + y223.length < 140737488355328 then ((some (y220 ++ y223 : List Int)).bind fun y226 => (if y226.length + a0_1.size < 140737488355328 then ((some (y226 ++ bytesOf a0_1 : List Int)).bind fun y229 => (if y229.length + a0_2.size < 140737488355328 then ((some (y229 ++ bytesOf a0_2 : List Int)).bind fun y232 => (if y232.length + l0_9.length < 140737488355328 then (some (y232 ++ l0_9)) else (none))) else (none))) else (none))) else (none)))) else (none)))) else (if a0_8 = true then (impl_packetBytes.j0 k (wrap64 (a0_6 + 16384)) a0_0 a0_1 a0_2 a0_3 a0_4 a0_5 a0_6 a0_7 a0_8 l0_9) else (impl_packetBytes.j0 k a0_6 a0_0 a0_1 a0_2 a0_3 a0_4 a0_5 a0_6 a0_7 a0_8 l0_9))) = some r := h
  clear h
  by_cases c2 : a0_0 = 6
  · rw [if_pos c2] at H
    have c2b0 : (a0_0 == 6) = true := beq_iff_eq.mpr c2
    have c2b1 : (a0_0 != 6) = false := bne_eq_false_iff_eq.mpr c2
    clear c2
    obtain ⟨y214, hy214⟩ : ∃ y_ : List Int, y_ = (([96, 0, 0, 0] : List Int)) := ⟨_, rfl⟩
    replace H : ((impl_word16.f (l0_9.length : Int)).bind fun t217 => (if y214.length + t217.length < 140737488355328 then ((some (y214 ++ t217 : List Int)).bind fun y220 => ((some (([(a0_4) % 256, (a0_3) % 256] : List Int) : List Int)).bind fun y223 => (if y220.length + y223.length < 140737488355328 then ((some (y220 ++ y223 : List Int)).bind fun y226 => (if y226.length + a0_1.size < 140737488355328 then ((some (y226 ++ bytesOf a0_1 : List Int)).bind fun y229 => (if y229.length + a0_2.size < 140737488355328 then ((some (y229 ++ bytesOf a0_2 : List Int)).bind fun y232 => (if y232.length + l0_9.length < 140737488355328 then (some (y232 ++ l0_9)) else (none))) else (none))) else (none))) else (none)))) else (none))) = some r := by first | (rw [hy214]; with_reducible exact H) | (have H2_ := (Option.bind_some _ _).symm.trans H; rw [hy214]; with_reducible exact H2_) | (have H2_ := (Option.bind_some _ _).symm.trans H; with_reducible exact H2_) | with_reducible exact H | (rw [hy214]; exact H) | exact H
    have Ny214 := Aside0.mk hy214
    clear hy214
    replace H := Option.bind_eq_some_iff.mp H
    obtain ⟨t217, A30, H⟩ := H
    replace H : (if y214.length + t217.length < 140737488355328 then ((some (y214 ++ t217 : List Int)).bind fun y220 => ((some (([(a0_4) % 256, (a0_3) % 256] : List Int) : List Int)).bind fun y223 => (if y220.length + y223.length < 140737488355328 then ((some (y220 ++ y223 : List Int)).bind fun y226 => (if y226.length + a0_1.size < 140737488355328 then ((some (y226 ++ bytesOf a0_1 : List Int)).bind fun y229 => (if y229.length + a0_2.size < 140737488355328 then ((some (y229 ++ bytesOf a0_2 : List Int)).bind fun y232 => (if y232.length + l0_9.length < 140737488355328 then (some (y232 ++ l0_9)) else (none))) else (none))) else (none))) else (none)))) else (none)) = some r := H
    have A3 := Aside0.mk A30
    clear A30
    by_cases c4 : y214.length + t217.length < 140737488355328
    · rw [if_pos c4] at H
      have LMc4 := Aside0.mk c4
      clear c4
      obtain ⟨y220, hy220⟩ : ∃ y_ : List Int, y_ = (y214 ++ t217) := ⟨_, rfl⟩
      replace H : ((some (([(a0_4) % 256, (a0_3) % 256] : List Int) : List Int)).bind fun y223 => (if y220.length + y223.length < 140737488355328 then ((some (y220 ++ y223 : List Int)).bind fun y226 => (if y226.length + a0_1.size < 140737488355328 then ((some (y226 ++ bytesOf a0_1 : List Int)).bind fun y229 => (if y229.length + a0_2.size < 140737488355328 then ((some (y229 ++ bytesOf a0_2 : List Int)).bind fun y232 => (if y232.length + l0_9.length < 140737488355328 then (some (y232 ++ l0_9)) else (none))) else (none))) else (none))) else (none))) = some r := by first | (rw [hy220]; with_reducible exact H) | (have H2_ := (Option.bind_some _ _).symm.trans H; rw [hy220]; with_reducible exact H2_) | (have H2_ := (Option.bind_some _ _).symm.trans H; with_reducible exact H2_) | with_reducible exact H | (rw [hy220]; exact H) | exact H
      have Ny220 := Aside0.mk hy220
      clear hy220
      obtain ⟨y223, hy223⟩ : ∃ y_ : List Int, y_ = (([(a0_4) % 256, (a0_3) % 256] : List Int)) := ⟨_, rfl⟩
      replace H : (if y220.length + y223.length < 140737488355328 then ((some (y220 ++ y223 : List Int)).bind fun y226 => (if y226.length + a0_1.size < 140737488355328 then ((some (y226 ++ bytesOf a0_1 : List Int)).bind fun y229 => (if y229.length + a0_2.size < 140737488355328 then ((some (y229 ++ bytesOf a0_2 : List Int)).bind fun y232 => (if y232.length + l0_9.length < 140737488355328 then (some (y232 ++ l0_9)) else (none))) else (none))) else (none))) else (none)) = some r := by first | (rw [hy223]; with_reducible exact H) | (have H2_ := (Option.bind_some _ _).symm.trans H; rw [hy223]; with_reducible exact H2_) | (have H2_ := (Option.bind_some _ _).symm.trans H; with_reducible exact H2_) | with_reducible exact H | (rw [hy223]; exact H) | exact H
      have Ny223 := Aside0.mk hy223
      clear hy223
      by_cases c5 : y220.length + y223.length < 140737488355328
      · rw [if_pos c5] at H
        have LMc5 := Aside0.mk c5
        clear c5
        obtain ⟨y226, hy226⟩ : ∃ y_ : List Int, y_ = (y220 ++ y223) := ⟨_, rfl⟩
        replace H : (if y226.length + a0_1.size < 140737488355328 then ((some (y226 ++ bytesOf a0_1 : List Int)).bind fun y229 => (if y229.length + a0_2.size < 140737488355328 then ((some (y229 ++ bytesOf a0_2 : List Int)).bind fun y232 => (if y232.length + l0_9.length < 140737488355328 then (some (y232 ++ l0_9)) else (none))) else (none))) else (none)) = some r := by first | (rw [hy226]; with_reducible exact H) | (have H2_ := (Option.bind_some _ _).symm.trans H; rw [hy226]; with_reducible exact H2_) | (have H2_ := (Option.bind_some _ _).symm.trans H; with_reducible exact H2_) | with_reducible exact H | (rw [hy226]; exact H) | exact H
        have Ny226 := Aside0.mk hy226
        clear hy226
        by_cases c6 : y226.length + a0_1.size < 140737488355328
        · rw [if_pos c6] at H
          have LMc6 := Aside0.mk c6
          clear c6
          obtain ⟨y229, hy229⟩ : ∃ y_ : List Int, y_ = (y226 ++ bytesOf a0_1) := ⟨_, rfl⟩
          replace H : (if y229.length + a0_2.size < 140737488355328 then ((some (y229 ++ bytesOf a0_2 : List Int)).bind fun y232 => (if y232.length + l0_9.length < 140737488355328 then (some (y232 ++ l0_9)) else (none))) else (none)) = some r := by first | (rw [hy229]; with_reducible exact H) | (have H2_ := (Option.bind_some _ _).symm.trans H; rw [hy229]; with_reducible exact H2_) | (have H2_ := (Option.bind_some _ _).symm.trans H; with_reducible exact H2_) | with_reducible exact H | (rw [hy229]; exact H) | exact H
          have Ny229 := Aside0.mk hy229
          clear hy229
          by_cases c7 : y229.length + a0_2.size < 140737488355328
          · rw [if_pos c7] at H
            have LMc7 := Aside0.mk c7
            clear c7
            obtain ⟨y232, hy232⟩ : ∃ y_ : List Int, y_ = (y229 ++ bytesOf a0_2) := ⟨_, rfl⟩
            replace H : (if y232.length + l0_9.length < 140737488355328 then (some (y232 ++ l0_9)) else (none)) = some r := by first | (rw [hy232]; with_reducible exact H) | (have H2_ := (Option.bind_some _ _).symm.trans H; rw [hy232]; with_reducible exact H2_) | (have H2_ := (Option.bind_some _ _).symm.trans H; with_reducible exact H2_) | with_reducible exact H | (rw [hy232]; exact H) | exact H
            have Ny232 := Aside0.mk hy232
            clear hy232
            by_cases c8 : y232.length + l0_9.length < 140737488355328
            · rw [if_pos c8] at H
              have LMc8 := Aside0.mk c8
              clear c8
              obtain ⟨y235, hy235⟩ : ∃ y_ : List Int, y_ = (y232 ++ l0_9) := ⟨_, rfl⟩
              replace H : (some y235) = some r := by first | (rw [hy235]; with_reducible exact H) | (have H2_ := (Option.bind_some _ _).symm.trans H; rw [hy235]; with_reducible exact H2_) | (have H2_ := (Option.bind_some _ _).symm.trans H; with_reducible exact H2_) | with_reducible exact H | (rw [hy235]; exact H) | exact H
              have Ny235 := Aside0.mk hy235
              clear hy235
              obtain rfl := Option.some.inj H
              go_enter Try.func113, Try.ntmps113
              go_wp2_with (first | ((with_reducible refine gate_dst (N := 1) rfl ?_); refine box_event ?hg (N := 1) ?hd (cs := #[.int .i64 a0_0, .string a0_1, .string a0_2, .int .i64 a0_3, .int .i64 a0_4, .int .i64 a0_5, .int .i64 a0_6, .bool a0_7, .bool a0_8, .slice A0_9 l0_9.length c0_9]) (t := 67) ?hr ?_; (case hd => rfl); (case hg => rfl); (case hr => first | (go_simp; done) | (go_simp; rfl)); intro gb213 hg w9 hbox hb; have n0_ := Aside0.mk (below_step (by repeat (first | (with_reducible first | exact HB.out | apply below_alloc | apply pw_below_drewN | apply below_drew1) | exact HB.out)) hb); have n1_ := Aside0.mk (hbox); have n2_ := Aside0.mk ((by rw [hg]; exact (below_size (by repeat (first | (with_reducible first | exact HB.out | apply below_alloc | apply pw_below_drewN | apply below_drew1) | exact HB.out))) : w.heap.size ≤ gb213)); have n3_ := Aside0.mk ((by rw [hg]; exact (below_size (by repeat (first | (with_reducible first | exact HB.out | apply below_alloc | apply pw_below_drewN | apply below_drew1) | exact HB.out))) : w.heap.size ≤ gb213)); clear HB; have HB := n0_; have BK213 := n1_; have GW213 := n2_; have GE213 := n3_; clear n0_ n1_ n2_ n3_; clear hb hbox hg; have hcz10_0 : w9.cell? ⟨gb213, 0, none⟩ = some (.int .i64 a0_0) := (blk_cell BK213.out 0).trans rfl; have hcz10_1 : w9.cell? ⟨gb213, 1, none⟩ = some (.string a0_1) := (blk_cell BK213.out 1).trans rfl; have hcz10_2 : w9.cell? ⟨gb213, 2, none⟩ = some (.string a0_2) := (blk_cell BK213.out 2).trans rfl; have hcz10_3 : w9.cell? ⟨gb213, 3, none⟩ = some (.int .i64 a0_3) := (blk_cell BK213.out 3).trans rfl; have hcz10_4 : w9.cell? ⟨gb213, 4, none⟩ = some (.int .i64 a0_4) := (blk_cell BK213.out 4).trans rfl; have hcz10_5 : w9.cell? ⟨gb213, 5, none⟩ = some (.int .i64 a0_5) := (blk_cell BK213.out 5).trans rfl; have hcz10_6 : w9.cell? ⟨gb213, 6, none⟩ = some (.int .i64 a0_6) := (blk_cell BK213.out 6).trans rfl; have hcz10_7 : w9.cell? ⟨gb213, 7, none⟩ = some (.bool a0_7) := (blk_cell BK213.out 7).trans rfl; have hcz10_8 : w9.cell? ⟨gb213, 8, none⟩ = some (.bool a0_8) := (blk_cell BK213.out 8).trans rfl; have hcz10_9 : w9.cell? ⟨gb213, 9, none⟩ = some (.slice A0_9 l0_9.length c0_9) := (blk_cell BK213.out 9).trans rfl; have hfz10_0 := blk_frozen BK213.out 0; have hfz10_1 := blk_frozen BK213.out 1; have hfz10_2 := blk_frozen BK213.out 2; have hfz10_3 := blk_frozen BK213.out 3; have hfz10_4 := blk_frozen BK213.out 4; have hfz10_5 := blk_frozen BK213.out 5; have hfz10_6 := blk_frozen BK213.out 6; have hfz10_7 := blk_frozen BK213.out 7; have hfz10_8 := blk_frozen BK213.out 8; have hfz10_9 := blk_frozen BK213.out 9) | ((with_reducible refine gate_dst (N := 9) rfl ?_); refine Kd.R_lit (Kd.int .u8) _ 5 ?hg (N := 9) ?hd (xs := ([96, 0, 0, 0] : List Int)) (inner := [.int .u8 96, .int .u8 0, .int .u8 0, .int .u8 0]) (ok := fun _ => True) (okp := fun _ => True) ?hr ?hp (fun _ hk => hk) trivial (Below.refl _ _) (Nat.le_refl _) (by simp) ?_; (case hd => rfl); (case hg => rfl); (case hr => first | (go_simp; done) | (go_simp; rfl)); (case hp => exact (Reps.one (show Kd.M (Kd.int .u8) _ _ _ 96 [.int .u8 96] from rfl) (Reps.one (show Kd.M (Kd.int .u8) _ _ _ 0 [.int .u8 0] from rfl) (Reps.one (show Kd.M (Kd.int .u8) _ _ _ 0 [.int .u8 0] from rfl) (Reps.one (show Kd.M (Kd.int .u8) _ _ _ 0 [.int .u8 0] from rfl) (Reps.none _ _)))))); intro v215 w11 ho12 hb hg_ hnew_; clear hg_ hnew_; (first | rw [← Ny214.out] at ho12 | (simp only [Int.reduceToNat] at ho12; rw [← Ny214.out] at ho12)); have n0_ := Aside0.mk (Kd.R_lower ho12 (below_size (by repeat (first | (with_reducible first | exact HB.out | apply below_alloc | apply pw_below_drewN | apply below_drew1 | refine below_set ?_ GE213.out) | exact HB.out)))); have n1_ := Aside0.mk (blk_below (g := gb213) (o := .cells #[.int .i64 a0_0, .string a0_1, .string a0_2, .int .i64 a0_3, .int .i64 a0_4, .int .i64 a0_5, .int .i64 a0_6, .bool a0_7, .bool a0_8, .slice A0_9 l0_9.length c0_9] 67 (0, 0)) (by (with_reducible repeat (first | refine blk_drewN ?_ _ | refine blk_drew ?_ | refine blk_alloc ?_ _)); exact BK213.out) hb); have n2_ := Aside0.mk (below_step (by repeat (first | (with_reducible first | exact HB.out | apply below_alloc | apply pw_below_drewN | apply below_drew1 | refine below_set ?_ GE213.out) | exact HB.out)) hb); clear BK213; clear HB; have HO216 := n0_; have BK213 := n1_; have HB := n2_; clear n0_ n1_ n2_; clear hb ho12; have hcz13_0 : w11.cell? ⟨gb213, 0, none⟩ = some (.int .i64 a0_0) := (blk_cell BK213.out 0).trans rfl; have hcz13_1 : w11.cell? ⟨gb213, 1, none⟩ = some (.string a0_1) := (blk_cell BK213.out 1).trans rfl; have hcz13_2 : w11.cell? ⟨gb213, 2, none⟩ = some (.string a0_2) := (blk_cell BK213.out 2).trans rfl; have hcz13_3 : w11.cell? ⟨gb213, 3, none⟩ = some (.int .i64 a0_3) := (blk_cell BK213.out 3).trans rfl; have hcz13_4 : w11.cell? ⟨gb213, 4, none⟩ = some (.int .i64 a0_4) := (blk_cell BK213.out 4).trans rfl; have hcz13_5 : w11.cell? ⟨gb213, 5, none⟩ = some (.int .i64 a0_5) := (blk_cell BK213.out 5).trans rfl; have hcz13_6 : w11.cell? ⟨gb213, 6, none⟩ = some (.int .i64 a0_6) := (blk_cell BK213.out 6).trans rfl; have hcz13_7 : w11.cell? ⟨gb213, 7, none⟩ = some (.bool a0_7) := (blk_cell BK213.out 7).trans rfl; have hcz13_8 : w11.cell? ⟨gb213, 8, none⟩ = some (.bool a0_8) := (blk_cell BK213.out 8).trans rfl; have hcz13_9 : w11.cell? ⟨gb213, 9, none⟩ = some (.slice A0_9 l0_9.length c0_9) := (blk_cell BK213.out 9).trans rfl; have hfz13_0 := blk_frozen BK213.out 0; have hfz13_1 := blk_frozen BK213.out 1; have hfz13_2 := blk_frozen BK213.out 2; have hfz13_3 := blk_frozen BK213.out 3; have hfz13_4 := blk_frozen BK213.out 4; have hfz13_5 := blk_frozen BK213.out 5; have hfz13_6 := blk_frozen BK213.out 6; have hfz13_7 := blk_frozen BK213.out 7; have hfz13_8 := blk_frozen BK213.out 8; have hfz13_9 := blk_frozen BK213.out 9) | ((with_reducible refine gate_callee (f := 84) rfl ?_); refine goesL_ (some 14) rfl rfl Try.func84 (by kernel_rfl) rfl #[.int .i64 (l0_9.length : Int)] rfl (by (try simp only [List.map_toArray, List.map_cons, List.map_nil]); first | done | rfl | (simp only [List.length_drop, List.length_take]; rfl)) ?_; (with_reducible refine (impl_word16.calls (l0_9.length : Int) t217 _ A3.out).mono ?_); rintro e w14 ⟨v218, rfl, ho0, hb⟩; refine ⟨_, rfl, ?_⟩; have n0_ := Aside0.mk (Kd.R_elder' (by (with_reducible repeat (first | apply Kd.R_alloc | apply Kd.R_drewN | apply Kd.R_drew)); exact HO216.out) (Kd.R_base ho0) hb); have n1_ := Aside0.mk (Kd.R_lower (Kd.R_new' ho0 (Kd.R_lt (by (with_reducible repeat (first | apply Kd.R_alloc | apply Kd.R_drewN | apply Kd.R_drew)); exact HO216.out))) (below_size (by repeat (first | (with_reducible first | exact HB.out | apply below_alloc | apply pw_below_drewN | apply below_drew1 | refine below_set ?_ GE213.out) | exact HB.out)))); have n2_ := Aside0.mk (blk_below (g := gb213) (o := .cells #[.int .i64 a0_0, .string a0_1, .string a0_2, .int .i64 a0_3, .int .i64 a0_4, .int .i64 a0_5, .int .i64 a0_6, .bool a0_7, .bool a0_8, .slice A0_9 l0_9.length c0_9] 67 (0, 0)) (by (with_reducible repeat (first | refine blk_drewN ?_ _ | refine blk_drew ?_ | refine blk_alloc ?_ _)); exact BK213.out) hb); have n3_ := Aside0.mk (below_step (by repeat (first | (with_reducible first | exact HB.out | apply below_alloc | apply pw_below_drewN | apply below_drew1 | refine below_set ?_ GE213.out) | exact HB.out)) hb); clear HO216; clear BK213; clear HB; have HO216 := n0_; have HO219 := n1_; have BK213 := n2_; have HB := n3_; clear n0_ n1_ n2_ n3_; (try clear hb); (try clear hb2); (try clear hk); (try clear hi); (try clear ho0); obtain ⟨Ao16, co16, eo16⟩ := Kd.R_slice HO219.out; subst eo16) | ((with_reducible refine gate_builtin (b := .append) (xs := #[.tmp 10, .tmp 14]) rfl ?_); at_builtin; refine Kd.R_append_rows (Kd.int .u8) (w0 := w) w.heap.size rfl (.tmp 10) (.tmp 14) 25 5 (.int .u8 0) 1 rfl Try.underlying25 info5 rfl (by decide) (by omega) v215 y214 t217 _ _ _ (fun k_ => some k_ ≠ (.slice Ao16 t217.length co16 : Value).ownBlock) (fun _ => False) rfl rfl ?aO ?aR (fun _ _ h => h) (fun _ h => h.elim) ?aF ?aB ?aS ?aL ?_; (case aR => repeat (first | exact (Kd.R_reads' HO219.out).2.2 | (with_reducible refine Kd.C_alloc ?_ _) | (with_reducible refine Kd.C_drewN ?_ _) | (with_reducible refine Kd.C_drew ?_))); (case aB => exact (by repeat (first | (with_reducible first | exact HB.out | apply below_alloc | apply pw_below_drewN | apply below_drew1 | refine below_set ?_ GE213.out) | exact HB.out))); (case aF => exact (fun k_ hk => Kd.fresh' (Kd.R_lt (by (with_reducible repeat (first | apply Kd.R_alloc | apply Kd.R_drewN | apply Kd.R_drew)); exact HO219.out)) k_ hk)); (case aO => exact (by (with_reducible repeat (first | apply Kd.R_alloc | apply Kd.R_drewN | apply Kd.R_drew)); (first | exact Kd.R_mono HO216.out (fun _ hk => hk.2) | exact HO216.out))); (case aS => exact (below_size (by repeat (first | (with_reducible first | exact HB.out | apply below_alloc | apply pw_below_drewN | apply below_drew1 | refine below_set ?_ GE213.out) | exact HB.out)))); (case aL => have := LMc4.out; omega); intro v221 w15 ho hb hg hat; rw [← Ny220.out] at ho; have n0_ := Aside0.mk (blk_grown (g := gb213) (o := .cells #[.int .i64 a0_0, .string a0_1, .string a0_2, .int .i64 a0_3, .int .i64 a0_4, .int .i64 a0_5, .int .i64 a0_6, .bool a0_7, .bool a0_8, .slice A0_9 l0_9.length c0_9] 67 (0, 0)) (by (with_reducible repeat (first | refine blk_drewN ?_ _ | refine blk_drew ?_ | refine blk_alloc ?_ _)); exact BK213.out) hg (Kd.R_ne HO216.out BK213.out (by decide))); have n1_ := Aside0.mk (Kd.R_after (ok := (fun _ => True)) (by (with_reducible repeat (first | apply Kd.R_alloc | apply Kd.R_drewN | apply Kd.R_drew)); (first | exact HO219.out | exact Kd.R_mono HO219.out (fun _ hk => ⟨trivial, hk⟩) | exact Kd.R_mono HO219.out (fun _ hk => by simp only [and_assoc] at hk ⊢; exact hk))) hg hat); have n2_ := Aside0.mk (hb); have n3_ := Aside0.mk (ho); clear BK213; clear HO219; clear HB; clear HO216; have BK213 := n0_; have HO219 := n1_; have HB := n2_; have HO222 := n3_; clear n0_ n1_ n2_ n3_; clear ho hb hg hat; have hcz17_0 : w15.cell? ⟨gb213, 0, none⟩ = some (.int .i64 a0_0) := (blk_cell BK213.out 0).trans rfl; have hcz17_1 : w15.cell? ⟨gb213, 1, none⟩ = some (.string a0_1) := (blk_cell BK213.out 1).trans rfl; have hcz17_2 : w15.cell? ⟨gb213, 2, none⟩ = some (.string a0_2) := (blk_cell BK213.out 2).trans rfl; have hcz17_3 : w15.cell? ⟨gb213, 3, none⟩ = some (.int .i64 a0_3) := (blk_cell BK213.out 3).trans rfl; have hcz17_4 : w15.cell? ⟨gb213, 4, none⟩ = some (.int .i64 a0_4) := (blk_cell BK213.out 4).trans rfl; have hcz17_5 : w15.cell? ⟨gb213, 5, none⟩ = some (.int .i64 a0_5) := (blk_cell BK213.out 5).trans rfl; have hcz17_6 : w15.cell? ⟨gb213, 6, none⟩ = some (.int .i64 a0_6) := (blk_cell BK213.out 6).trans rfl; have hcz17_7 : w15.cell? ⟨gb213, 7, none⟩ = some (.bool a0_7) := (blk_cell BK213.out 7).trans rfl; have hcz17_8 : w15.cell? ⟨gb213, 8, none⟩ = some (.bool a0_8) := (blk_cell BK213.out 8).trans rfl; have hcz17_9 : w15.cell? ⟨gb213, 9, none⟩ = some (.slice A0_9 l0_9.length c0_9) := (blk_cell BK213.out 9).trans rfl; have hfz17_0 := blk_frozen BK213.out 0; have hfz17_1 := blk_frozen BK213.out 1; have hfz17_2 := blk_frozen BK213.out 2; have hfz17_3 := blk_frozen BK213.out 3; have hfz17_4 := blk_frozen BK213.out 4; have hfz17_5 := blk_frozen BK213.out 5; have hfz17_6 := blk_frozen BK213.out 6; have hfz17_7 := blk_frozen BK213.out 7; have hfz17_8 := blk_frozen BK213.out 8; have hfz17_9 := blk_frozen BK213.out 9) | ((with_reducible refine gate_dst (N := 23) rfl ?_); refine Kd.R_lit (Kd.int .u8) _ 5 ?hg (N := 23) ?hd (xs := ([(a0_4) % 256, (a0_3) % 256] : List Int)) (inner := [.int .u8 ((a0_4) % 256), .int .u8 ((a0_3) % 256)]) (ok := fun _ => True) (okp := fun _ => True) ?hr ?hp (fun _ hk => hk) trivial (Below.refl _ _) (Nat.le_refl _) (by simp) ?_; (case hd => rfl); (case hg => rfl); (case hr => first | (go_simp; done) | (go_simp; rfl)); (case hp => exact (Reps.one (show Kd.M (Kd.int .u8) _ _ _ ((a0_4) % 256) [.int .u8 ((a0_4) % 256)] from rfl) (Reps.one (show Kd.M (Kd.int .u8) _ _ _ ((a0_3) % 256) [.int .u8 ((a0_3) % 256)] from rfl) (Reps.none _ _)))); intro v224 w18 ho19 hb hg_ hnew_; clear hg_ hnew_; (first | rw [← Ny223.out] at ho19 | (simp only [Int.reduceToNat] at ho19; rw [← Ny223.out] at ho19)); have n0_ := Aside0.mk (Kd.R_elder' (by (with_reducible repeat (first | apply Kd.R_alloc | apply Kd.R_drewN | apply Kd.R_drew)); exact HO219.out) (Kd.R_base ho19) hb); have n1_ := Aside0.mk (Kd.R_elder' (by (with_reducible repeat (first | apply Kd.R_alloc | apply Kd.R_drewN | apply Kd.R_drew)); exact HO222.out) (Kd.R_base ho19) hb); have n2_ := Aside0.mk (Kd.R_lower (Kd.R_new' (Kd.R_new' ho19 (Kd.R_lt (by (with_reducible repeat (first | apply Kd.R_alloc | apply Kd.R_drewN | apply Kd.R_drew)); exact HO219.out))) (Kd.R_lt (by (with_reducible repeat (first | apply Kd.R_alloc | apply Kd.R_drewN | apply Kd.R_drew)); exact HO222.out))) (below_size (by repeat (first | (with_reducible first | exact HB.out | apply below_alloc | apply pw_below_drewN | apply below_drew1 | refine below_set ?_ GE213.out) | exact HB.out)))); have n3_ := Aside0.mk (blk_below (g := gb213) (o := .cells #[.int .i64 a0_0, .string a0_1, .string a0_2, .int .i64 a0_3, .int .i64 a0_4, .int .i64 a0_5, .int .i64 a0_6, .bool a0_7, .bool a0_8, .slice A0_9 l0_9.length c0_9] 67 (0, 0)) (by (with_reducible repeat (first | refine blk_drewN ?_ _ | refine blk_drew ?_ | refine blk_alloc ?_ _)); exact BK213.out) hb); have n4_ := Aside0.mk (below_step (by repeat (first | (with_reducible first | exact HB.out | apply below_alloc | apply pw_below_drewN | apply below_drew1 | refine below_set ?_ GE213.out) | exact HB.out)) hb); clear HO219; clear HO222; clear BK213; clear HB; have HO219 := n0_; have HO222 := n1_; have HO225 := n2_; have BK213 := n3_; have HB := n4_; clear n0_ n1_ n2_ n3_ n4_; clear hb ho19; obtain ⟨Ao21, co21, eo21⟩ := Kd.R_slice HO225.out; subst eo21) | ((with_reducible refine gate_builtin (b := .append) (xs := #[.tmp 16, .tmp 23]) rfl ?_); at_builtin; refine Kd.R_append_rows (Kd.int .u8) (w0 := w) w.heap.size rfl (.tmp 16) (.tmp 23) 25 5 (.int .u8 0) 1 rfl Try.underlying25 info5 rfl (by decide) (by omega) v221 y220 y223 _ _ _ (fun k_ => some k_ ≠ (.slice Ao16 t217.length co16 : Value).ownBlock ∧ some k_ ≠ (.slice Ao21 y223.length co21 : Value).ownBlock) (fun _ => False) rfl rfl ?aO ?aR (fun _ _ h => h) (fun _ h => h.elim) ?aF ?aB ?aS ?aL ?_; (case aR => repeat (first | exact (Kd.R_reads' HO225.out).2.2 | (with_reducible refine Kd.C_alloc ?_ _) | (with_reducible refine Kd.C_drewN ?_ _) | (with_reducible refine Kd.C_drew ?_))); (case aB => exact (by repeat (first | (with_reducible first | exact HB.out | apply below_alloc | apply pw_below_drewN | apply below_drew1 | refine below_set ?_ GE213.out) | exact HB.out))); (case aF => exact (fun k_ hk => ⟨Kd.fresh' (Kd.R_lt (by (with_reducible repeat (first | apply Kd.R_alloc | apply Kd.R_drewN | apply Kd.R_drew)); exact HO219.out)) k_ hk, Kd.fresh' (Kd.R_lt (by (with_reducible repeat (first | apply Kd.R_alloc | apply Kd.R_drewN | apply Kd.R_drew)); exact HO225.out)) k_ hk⟩)); (case aO => exact (by (with_reducible repeat (first | apply Kd.R_alloc | apply Kd.R_drewN | apply Kd.R_drew)); exact HO222.out)); (case aS => exact (below_size (by repeat (first | (with_reducible first | exact HB.out | apply below_alloc | apply pw_below_drewN | apply below_drew1 | refine below_set ?_ GE213.out) | exact HB.out)))); (case aL => have := LMc5.out; omega); intro v227 w20 ho hb hg hat; rw [← Ny226.out] at ho; have n0_ := Aside0.mk (blk_grown (g := gb213) (o := .cells #[.int .i64 a0_0, .string a0_1, .string a0_2, .int .i64 a0_3, .int .i64 a0_4, .int .i64 a0_5, .int .i64 a0_6, .bool a0_7, .bool a0_8, .slice A0_9 l0_9.length c0_9] 67 (0, 0)) (by (with_reducible repeat (first | refine blk_drewN ?_ _ | refine blk_drew ?_ | refine blk_alloc ?_ _)); exact BK213.out) hg (Kd.R_ne HO222.out BK213.out (by decide))); have n1_ := Aside0.mk (Kd.R_after (ok := (fun k_ => some k_ ≠ (.slice Ao21 y223.length co21 : Value).ownBlock)) (by (with_reducible repeat (first | apply Kd.R_alloc | apply Kd.R_drewN | apply Kd.R_drew)); exact Kd.R_mono HO219.out (fun _ hk => ⟨hk.2, hk.1.2⟩)) hg hat); have n2_ := Aside0.mk (Kd.R_after (ok := (fun k_ => some k_ ≠ (.slice Ao16 t217.length co16 : Value).ownBlock)) (by (with_reducible repeat (first | apply Kd.R_alloc | apply Kd.R_drewN | apply Kd.R_drew)); exact Kd.R_mono HO225.out (fun _ hk => ⟨hk.1.2, hk.2⟩)) hg hat); have n3_ := Aside0.mk (hb); have n4_ := Aside0.mk (ho); clear BK213; clear HO219; clear HO225; clear HB; clear HO222; have BK213 := n0_; have HO219 := n1_; have HO225 := n2_; have HB := n3_; have HO228 := n4_; clear n0_ n1_ n2_ n3_ n4_; clear ho hb hg hat; have hcz22_0 : w20.cell? ⟨gb213, 0, none⟩ = some (.int .i64 a0_0) := (blk_cell BK213.out 0).trans rfl; have hcz22_1 : w20.cell? ⟨gb213, 1, none⟩ = some (.string a0_1) := (blk_cell BK213.out 1).trans rfl; have hcz22_2 : w20.cell? ⟨gb213, 2, none⟩ = some (.string a0_2) := (blk_cell BK213.out 2).trans rfl; have hcz22_3 : w20.cell? ⟨gb213, 3, none⟩ = some (.int .i64 a0_3) := (blk_cell BK213.out 3).trans rfl; have hcz22_4 : w20.cell? ⟨gb213, 4, none⟩ = some (.int .i64 a0_4) := (blk_cell BK213.out 4).trans rfl; have hcz22_5 : w20.cell? ⟨gb213, 5, none⟩ = some (.int .i64 a0_5) := (blk_cell BK213.out 5).trans rfl; have hcz22_6 : w20.cell? ⟨gb213, 6, none⟩ = some (.int .i64 a0_6) := (blk_cell BK213.out 6).trans rfl; have hcz22_7 : w20.cell? ⟨gb213, 7, none⟩ = some (.bool a0_7) := (blk_cell BK213.out 7).trans rfl; have hcz22_8 : w20.cell? ⟨gb213, 8, none⟩ = some (.bool a0_8) := (blk_cell BK213.out 8).trans rfl; have hcz22_9 : w20.cell? ⟨gb213, 9, none⟩ = some (.slice A0_9 l0_9.length c0_9) := (blk_cell BK213.out 9).trans rfl; have hfz22_0 := blk_frozen BK213.out 0; have hfz22_1 := blk_frozen BK213.out 1; have hfz22_2 := blk_frozen BK213.out 2; have hfz22_3 := blk_frozen BK213.out 3; have hfz22_4 := blk_frozen BK213.out 4; have hfz22_5 := blk_frozen BK213.out 5; have hfz22_6 := blk_frozen BK213.out 6; have hfz22_7 := blk_frozen BK213.out 7; have hfz22_8 := blk_frozen BK213.out 8; have hfz22_9 := blk_frozen BK213.out 9) | (at_builtin; refine Kd.R_append_str (w0 := w) w.heap.size rfl (.tmp 25) _ 25 9 5 rfl Try.underlying25 Try.underlying9 info5 v227 y226 a0_1 (fun k_ => some k_ ≠ (.slice Ao16 t217.length co16 : Value).ownBlock ∧ some k_ ≠ (.slice Ao21 y223.length co21 : Value).ownBlock) rfl rfl ?aF ?aO ?aB ?aS ?aL ?_; (case aB => exact (by repeat (first | (with_reducible first | exact HB.out | apply below_alloc | apply pw_below_drewN | apply below_drew1 | refine below_set ?_ GE213.out) | exact HB.out))); (case aF => exact (fun k_ hk => ⟨Kd.fresh' (Kd.R_lt (by (with_reducible repeat (first | apply Kd.R_alloc | apply Kd.R_drewN | apply Kd.R_drew)); exact HO219.out)) k_ hk, Kd.fresh' (Kd.R_lt (by (with_reducible repeat (first | apply Kd.R_alloc | apply Kd.R_drewN | apply Kd.R_drew)); exact HO225.out)) k_ hk⟩)); (case aO => exact (by (with_reducible repeat (first | apply Kd.R_alloc | apply Kd.R_drewN | apply Kd.R_drew)); exact HO228.out)); (case aS => exact (below_size (by repeat (first | (with_reducible first | exact HB.out | apply below_alloc | apply pw_below_drewN | apply below_drew1 | refine below_set ?_ GE213.out) | exact HB.out)))); (case aL => have := LMc6.out; omega); intro v230 w23 ho hb hg hat; rw [← Ny229.out] at ho; have n0_ := Aside0.mk (blk_grown (g := gb213) (o := .cells #[.int .i64 a0_0, .string a0_1, .string a0_2, .int .i64 a0_3, .int .i64 a0_4, .int .i64 a0_5, .int .i64 a0_6, .bool a0_7, .bool a0_8, .slice A0_9 l0_9.length c0_9] 67 (0, 0)) (by (with_reducible repeat (first | refine blk_drewN ?_ _ | refine blk_drew ?_ | refine blk_alloc ?_ _)); exact BK213.out) hg (Kd.R_ne HO228.out BK213.out (by decide))); have n1_ := Aside0.mk (Kd.R_after (ok := (fun k_ => some k_ ≠ (.slice Ao21 y223.length co21 : Value).ownBlock)) (by (with_reducible repeat (first | apply Kd.R_alloc | apply Kd.R_drewN | apply Kd.R_drew)); (first | exact HO219.out | exact Kd.R_mono HO219.out (fun _ hk => ⟨trivial, hk⟩) | exact Kd.R_mono HO219.out (fun _ hk => by simp only [and_assoc] at hk ⊢; exact hk))) hg hat); have n2_ := Aside0.mk (Kd.R_after (ok := (fun k_ => some k_ ≠ (.slice Ao16 t217.length co16 : Value).ownBlock)) (by (with_reducible repeat (first | apply Kd.R_alloc | apply Kd.R_drewN | apply Kd.R_drew)); (first | exact HO225.out | exact Kd.R_mono HO225.out (fun _ hk => ⟨trivial, hk⟩) | exact Kd.R_mono HO225.out (fun _ hk => by simp only [and_assoc] at hk ⊢; exact hk))) hg hat); have n3_ := Aside0.mk (hb); have n4_ := Aside0.mk (ho); clear BK213; clear HO219; clear HO225; clear HB; clear HO228; have BK213 := n0_; have HO219 := n1_; have HO225 := n2_; have HB := n3_; have HO231 := n4_; clear n0_ n1_ n2_ n3_ n4_; clear ho hb hg hat; have hcz24_0 : w23.cell? ⟨gb213, 0, none⟩ = some (.int .i64 a0_0) := (blk_cell BK213.out 0).trans rfl; have hcz24_1 : w23.cell? ⟨gb213, 1, none⟩ = some (.string a0_1) := (blk_cell BK213.out 1).trans rfl; have hcz24_2 : w23.cell? ⟨gb213, 2, none⟩ = some (.string a0_2) := (blk_cell BK213.out 2).trans rfl; have hcz24_3 : w23.cell? ⟨gb213, 3, none⟩ = some (.int .i64 a0_3) := (blk_cell BK213.out 3).trans rfl; have hcz24_4 : w23.cell? ⟨gb213, 4, none⟩ = some (.int .i64 a0_4) := (blk_cell BK213.out 4).trans rfl; have hcz24_5 : w23.cell? ⟨gb213, 5, none⟩ = some (.int .i64 a0_5) := (blk_cell BK213.out 5).trans rfl; have hcz24_6 : w23.cell? ⟨gb213, 6, none⟩ = some (.int .i64 a0_6) := (blk_cell BK213.out 6).trans rfl; have hcz24_7 : w23.cell? ⟨gb213, 7, none⟩ = some (.bool a0_7) := (blk_cell BK213.out 7).trans rfl; have hcz24_8 : w23.cell? ⟨gb213, 8, none⟩ = some (.bool a0_8) := (blk_cell BK213.out 8).trans rfl; have hcz24_9 : w23.cell? ⟨gb213, 9, none⟩ = some (.slice A0_9 l0_9.length c0_9) := (blk_cell BK213.out 9).trans rfl; have hfz24_0 := blk_frozen BK213.out 0; have hfz24_1 := blk_frozen BK213.out 1; have hfz24_2 := blk_frozen BK213.out 2; have hfz24_3 := blk_frozen BK213.out 3; have hfz24_4 := blk_frozen BK213.out 4; have hfz24_5 := blk_frozen BK213.out 5; have hfz24_6 := blk_frozen BK213.out 6; have hfz24_7 := blk_frozen BK213.out 7; have hfz24_8 := blk_frozen BK213.out 8; have hfz24_9 := blk_frozen BK213.out 9) | (at_builtin; refine Kd.R_append_str (w0 := w) w.heap.size rfl (.tmp 29) _ 25 9 5 rfl Try.underlying25 Try.underlying9 info5 v230 y229 a0_2 (fun k_ => some k_ ≠ (.slice Ao16 t217.length co16 : Value).ownBlock ∧ some k_ ≠ (.slice Ao21 y223.length co21 : Value).ownBlock) rfl rfl ?aF ?aO ?aB ?aS ?aL ?_; (case aB => exact (by repeat (first | (with_reducible first | exact HB.out | apply below_alloc | apply pw_below_drewN | apply below_drew1 | refine below_set ?_ GE213.out) | exact HB.out))); (case aF => exact (fun k_ hk => ⟨Kd.fresh' (Kd.R_lt (by (with_reducible repeat (first | apply Kd.R_alloc | apply Kd.R_drewN | apply Kd.R_drew)); exact HO219.out)) k_ hk, Kd.fresh' (Kd.R_lt (by (with_reducible repeat (first | apply Kd.R_alloc | apply Kd.R_drewN | apply Kd.R_drew)); exact HO225.out)) k_ hk⟩)); (case aO => exact (by (with_reducible repeat (first | apply Kd.R_alloc | apply Kd.R_drewN | apply Kd.R_drew)); exact HO231.out)); (case aS => exact (below_size (by repeat (first | (with_reducible first | exact HB.out | apply below_alloc | apply pw_below_drewN | apply below_drew1 | refine below_set ?_ GE213.out) | exact HB.out)))); (case aL => have := LMc7.out; omega); intro v233 w25 ho hb hg hat; rw [← Ny232.out] at ho; have n0_ := Aside0.mk (blk_grown (g := gb213) (o := .cells #[.int .i64 a0_0, .string a0_1, .string a0_2, .int .i64 a0_3, .int .i64 a0_4, .int .i64 a0_5, .int .i64 a0_6, .bool a0_7, .bool a0_8, .slice A0_9 l0_9.length c0_9] 67 (0, 0)) (by (with_reducible repeat (first | refine blk_drewN ?_ _ | refine blk_drew ?_ | refine blk_alloc ?_ _)); exact BK213.out) hg (Kd.R_ne HO231.out BK213.out (by decide))); have n1_ := Aside0.mk (Kd.R_after (ok := (fun k_ => some k_ ≠ (.slice Ao21 y223.length co21 : Value).ownBlock)) (by (with_reducible repeat (first | apply Kd.R_alloc | apply Kd.R_drewN | apply Kd.R_drew)); (first | exact HO219.out | exact Kd.R_mono HO219.out (fun _ hk => ⟨trivial, hk⟩) | exact Kd.R_mono HO219.out (fun _ hk => by simp only [and_assoc] at hk ⊢; exact hk))) hg hat); have n2_ := Aside0.mk (Kd.R_after (ok := (fun k_ => some k_ ≠ (.slice Ao16 t217.length co16 : Value).ownBlock)) (by (with_reducible repeat (first | apply Kd.R_alloc | apply Kd.R_drewN | apply Kd.R_drew)); (first | exact HO225.out | exact Kd.R_mono HO225.out (fun _ hk => ⟨trivial, hk⟩) | exact Kd.R_mono HO225.out (fun _ hk => by simp only [and_assoc] at hk ⊢; exact hk))) hg hat); have n3_ := Aside0.mk (hb); have n4_ := Aside0.mk (ho); clear BK213; clear HO219; clear HO225; clear HB; clear HO231; have BK213 := n0_; have HO219 := n1_; have HO225 := n2_; have HB := n3_; have HO234 := n4_; clear n0_ n1_ n2_ n3_ n4_; clear ho hb hg hat; have hcz26_0 : w25.cell? ⟨gb213, 0, none⟩ = some (.int .i64 a0_0) := (blk_cell BK213.out 0).trans rfl; have hcz26_1 : w25.cell? ⟨gb213, 1, none⟩ = some (.string a0_1) := (blk_cell BK213.out 1).trans rfl; have hcz26_2 : w25.cell? ⟨gb213, 2, none⟩ = some (.string a0_2) := (blk_cell BK213.out 2).trans rfl; have hcz26_3 : w25.cell? ⟨gb213, 3, none⟩ = some (.int .i64 a0_3) := (blk_cell BK213.out 3).trans rfl; have hcz26_4 : w25.cell? ⟨gb213, 4, none⟩ = some (.int .i64 a0_4) := (blk_cell BK213.out 4).trans rfl; have hcz26_5 : w25.cell? ⟨gb213, 5, none⟩ = some (.int .i64 a0_5) := (blk_cell BK213.out 5).trans rfl; have hcz26_6 : w25.cell? ⟨gb213, 6, none⟩ = some (.int .i64 a0_6) := (blk_cell BK213.out 6).trans rfl; have hcz26_7 : w25.cell? ⟨gb213, 7, none⟩ = some (.bool a0_7) := (blk_cell BK213.out 7).trans rfl; have hcz26_8 : w25.cell? ⟨gb213, 8, none⟩ = some (.bool a0_8) := (blk_cell BK213.out 8).trans rfl; have hcz26_9 : w25.cell? ⟨gb213, 9, none⟩ = some (.slice A0_9 l0_9.length c0_9) := (blk_cell BK213.out 9).trans rfl; have hfz26_0 := blk_frozen BK213.out 0; have hfz26_1 := blk_frozen BK213.out 1; have hfz26_2 := blk_frozen BK213.out 2; have hfz26_3 := blk_frozen BK213.out 3; have hfz26_4 := blk_frozen BK213.out 4; have hfz26_5 := blk_frozen BK213.out 5; have hfz26_6 := blk_frozen BK213.out 6; have hfz26_7 := blk_frozen BK213.out 7; have hfz26_8 := blk_frozen BK213.out 8; have hfz26_9 := blk_frozen BK213.out 9) | ((with_reducible refine gate_builtin (b := .append) (xs := #[.tmp 33, .tmp 35]) rfl ?_); at_builtin; refine Kd.R_append_rows (Kd.int .u8) (w0 := w) w.heap.size rfl (.tmp 33) (.tmp 35) 25 5 (.int .u8 0) 1 rfl Try.underlying25 info5 rfl (by decide) (by omega) v233 y232 l0_9 _ _ _ (fun k_ => some k_ ≠ (.slice Ao16 t217.length co16 : Value).ownBlock ∧ some k_ ≠ (.slice Ao21 y223.length co21 : Value).ownBlock) (fun _ => False) rfl rfl ?aO ?aR (fun _ _ h => h) (fun _ h => h.elim) ?aF ?aB ?aS ?aL ?_; (case aR => repeat (first | exact (Kd.C_below HR0_9.out HB.out) | (with_reducible refine Kd.C_alloc ?_ _) | (with_reducible refine Kd.C_drewN ?_ _) | (with_reducible refine Kd.C_drew ?_))); (case aB => exact (by repeat (first | (with_reducible first | exact HB.out | apply below_alloc | apply pw_below_drewN | apply below_drew1 | refine below_set ?_ GE213.out) | exact HB.out))); (case aF => exact (fun k_ hk => ⟨Kd.fresh' (Kd.R_lt (by (with_reducible repeat (first | apply Kd.R_alloc | apply Kd.R_drewN | apply Kd.R_drew)); exact HO219.out)) k_ hk, Kd.fresh' (Kd.R_lt (by (with_reducible repeat (first | apply Kd.R_alloc | apply Kd.R_drewN | apply Kd.R_drew)); exact HO225.out)) k_ hk⟩)); (case aO => exact (by (with_reducible repeat (first | apply Kd.R_alloc | apply Kd.R_drewN | apply Kd.R_drew)); exact HO234.out)); (case aS => exact (below_size (by repeat (first | (with_reducible first | exact HB.out | apply below_alloc | apply pw_below_drewN | apply below_drew1 | refine below_set ?_ GE213.out) | exact HB.out)))); (case aL => have := LMc8.out; omega); intro v236 w27 ho hb hg hat; rw [← Ny235.out] at ho; have n0_ := Aside0.mk (blk_grown (g := gb213) (o := .cells #[.int .i64 a0_0, .string a0_1, .string a0_2, .int .i64 a0_3, .int .i64 a0_4, .int .i64 a0_5, .int .i64 a0_6, .bool a0_7, .bool a0_8, .slice A0_9 l0_9.length c0_9] 67 (0, 0)) (by (with_reducible repeat (first | refine blk_drewN ?_ _ | refine blk_drew ?_ | refine blk_alloc ?_ _)); exact BK213.out) hg (Kd.R_ne HO234.out BK213.out (by decide))); have n1_ := Aside0.mk (Kd.R_after (ok := (fun k_ => some k_ ≠ (.slice Ao21 y223.length co21 : Value).ownBlock)) (by (with_reducible repeat (first | apply Kd.R_alloc | apply Kd.R_drewN | apply Kd.R_drew)); (first | exact HO219.out | exact Kd.R_mono HO219.out (fun _ hk => ⟨trivial, hk⟩) | exact Kd.R_mono HO219.out (fun _ hk => by simp only [and_assoc] at hk ⊢; exact hk))) hg hat); have n2_ := Aside0.mk (Kd.R_after (ok := (fun k_ => some k_ ≠ (.slice Ao16 t217.length co16 : Value).ownBlock)) (by (with_reducible repeat (first | apply Kd.R_alloc | apply Kd.R_drewN | apply Kd.R_drew)); (first | exact HO225.out | exact Kd.R_mono HO225.out (fun _ hk => ⟨trivial, hk⟩) | exact Kd.R_mono HO225.out (fun _ hk => by simp only [and_assoc] at hk ⊢; exact hk))) hg hat); have n3_ := Aside0.mk (hb); have n4_ := Aside0.mk (ho); clear BK213; clear HO219; clear HO225; clear HB; clear HO234; have BK213 := n0_; have HO219 := n1_; have HO225 := n2_; have HB := n3_; have HO237 := n4_; clear n0_ n1_ n2_ n3_ n4_; clear ho hb hg hat))
              go_ret
              exact ⟨_, by first | rfl | (simp [errW_none, errW_some] <;> rfl) | (simp [*, errW_none, errW_some] <;> rfl), by (with_reducible repeat (first | apply Kd.R_alloc | apply Kd.R_drewN | apply Kd.R_drew)); exact Kd.R_mono HO237.out (fun _ hk => trivial), by repeat (first | (with_reducible first | exact HB.out | apply below_alloc | apply pw_below_drewN | apply below_drew1 | refine below_set ?_ GE213.out) | exact HB.out)⟩
            · rw [if_neg c8] at H
              exact absurd H (by simp)
          · rw [if_neg c7] at H
            exact absurd H (by simp)
        · rw [if_neg c6] at H
          exact absurd H (by simp)
      · rw [if_neg c5] at H
        exact absurd H (by simp)
    · rw [if_neg c4] at H
      exact absurd H (by simp)
  · rw [if_neg c2] at H
    have c2b0 : (a0_0 == 6) = false := beq_eq_false_iff_ne.mpr c2
    have c2b1 : (a0_0 != 6) = true := bne_iff_ne.mpr c2
    have HC28 := Aside0.mk H
    clear H
    go_enter Try.func113, Try.ntmps113
    go_upto_if 40 with (first | ((with_reducible refine gate_dst (N := 1) rfl ?_); refine box_event ?hg (N := 1) ?hd (cs := #[.int .i64 a0_0, .string a0_1, .string a0_2, .int .i64 a0_3, .int .i64 a0_4, .int .i64 a0_5, .int .i64 a0_6, .bool a0_7, .bool a0_8, .slice A0_9 l0_9.length c0_9]) (t := 67) ?hr ?_; (case hd => rfl); (case hg => rfl); (case hr => first | (go_simp; done) | (go_simp; rfl)); intro gb213 hg w29 hbox hb; have n0_ := Aside0.mk (below_step (by repeat (first | (with_reducible first | exact HB.out | apply below_alloc | apply pw_below_drewN | apply below_drew1) | exact HB.out)) hb); have n1_ := Aside0.mk (hbox); have n2_ := Aside0.mk ((by rw [hg]; exact (below_size (by repeat (first | (with_reducible first | exact HB.out | apply below_alloc | apply pw_below_drewN | apply below_drew1) | exact HB.out))) : w.heap.size ≤ gb213)); have n3_ := Aside0.mk ((by rw [hg]; exact (below_size (by repeat (first | (with_reducible first | exact HB.out | apply below_alloc | apply pw_below_drewN | apply below_drew1) | exact HB.out))) : w.heap.size ≤ gb213)); clear HB; have HB := n0_; have BK213 := n1_; have GW213 := n2_; have GE213 := n3_; clear n0_ n1_ n2_ n3_; clear hb hbox hg; have hcz30_0 : w29.cell? ⟨gb213, 0, none⟩ = some (.int .i64 a0_0) := (blk_cell BK213.out 0).trans rfl; have hcz30_1 : w29.cell? ⟨gb213, 1, none⟩ = some (.string a0_1) := (blk_cell BK213.out 1).trans rfl; have hcz30_2 : w29.cell? ⟨gb213, 2, none⟩ = some (.string a0_2) := (blk_cell BK213.out 2).trans rfl; have hcz30_3 : w29.cell? ⟨gb213, 3, none⟩ = some (.int .i64 a0_3) := (blk_cell BK213.out 3).trans rfl; have hcz30_4 : w29.cell? ⟨gb213, 4, none⟩ = some (.int .i64 a0_4) := (blk_cell BK213.out 4).trans rfl; have hcz30_5 : w29.cell? ⟨gb213, 5, none⟩ = some (.int .i64 a0_5) := (blk_cell BK213.out 5).trans rfl; have hcz30_6 : w29.cell? ⟨gb213, 6, none⟩ = some (.int .i64 a0_6) := (blk_cell BK213.out 6).trans rfl; have hcz30_7 : w29.cell? ⟨gb213, 7, none⟩ = some (.bool a0_7) := (blk_cell BK213.out 7).trans rfl; have hcz30_8 : w29.cell? ⟨gb213, 8, none⟩ = some (.bool a0_8) := (blk_cell BK213.out 8).trans rfl; have hcz30_9 : w29.cell? ⟨gb213, 9, none⟩ = some (.slice A0_9 l0_9.length c0_9) := (blk_cell BK213.out 9).trans rfl; have hfz30_0 := blk_frozen BK213.out 0; have hfz30_1 := blk_frozen BK213.out 1; have hfz30_2 := blk_frozen BK213.out 2; have hfz30_3 := blk_frozen BK213.out 3; have hfz30_4 := blk_frozen BK213.out 4; have hfz30_5 := blk_frozen BK213.out 5; have hfz30_6 := blk_frozen BK213.out 6; have hfz30_7 := blk_frozen BK213.out 7; have hfz30_8 := blk_frozen BK213.out 8; have hfz30_9 := blk_frozen BK213.out 9))
    (try simp only [Act.put, List.setIfInBounds_toArray, List.set_cons_zero, List.set_cons_succ])
    go_cut [4] (fun v4 wc => ∃ (kq : Nat) (x4_27 : Int), v4 = .int .i64 x4_27 ∧ Aside0 (impl_packetBytes.j0 kq x4_27 a0_0 a0_1 a0_2 a0_3 a0_4 a0_5 a0_6 a0_7 a0_8 l0_9 = some r) ∧ Aside0 (kq ≤ k) ∧ Aside0 (wc.heap[gb213]? = some (.cells #[.int .i64 a0_0, .string a0_1, .string a0_2, .int .i64 a0_3, .int .i64 a0_4, .int .i64 a0_5, .int .i64 a0_6, .bool a0_7, .bool a0_8, (.slice A0_9 l0_9.length c0_9)] 67 (0, 0))) ∧ Aside0 (Below w.heap.size w wc))
    case first =>
      have H := HC28.out
      clear HC28
      by_cases c31 : a0_8 = true
      · subst c31
        have H1 : (impl_packetBytes.j0 k (wrap64 (a0_6 + 16384)) a0_0 a0_1 a0_2 a0_3 a0_4 a0_5 a0_6 a0_7 true l0_9) = some r := by rw [if_pos rfl] at H; exact H
        clear H
        have H := H1
        clear H1
        have H' := Aside0.mk H
        clear H
        go_wp2
        go_meet
        case rel => exact ⟨_, (wrap64 (a0_6 + 16384)), (by first | rfl | (simp; done) | (simp [*]; done)), H', ⟨by first | omega | exact Nat.le_refl _⟩, ⟨by (with_reducible repeat (first | refine blk_drewN ?_ _ | refine blk_drew ?_ | refine blk_alloc ?_ _)); exact BK213.out⟩, ⟨by repeat (first | (with_reducible first | exact HB.out | apply below_alloc | apply pw_below_drewN | apply below_drew1 | refine below_set ?_ GE213.out) | exact HB.out)⟩⟩
      · replace c31 := Bool.eq_false_iff.mpr c31
        subst c31
        have H1 : (impl_packetBytes.j0 k a0_6 a0_0 a0_1 a0_2 a0_3 a0_4 a0_5 a0_6 a0_7 false l0_9) = some r := by rw [if_neg (show ¬ (false = true) by decide)] at H; exact H
        clear H
        have H := H1
        clear H1
        have H' := Aside0.mk H
        clear H
        go_wp2
        go_meet
        case rel => exact ⟨_, (a0_6), (by first | rfl | (simp; done) | (simp [*]; done)), H', ⟨by first | omega | exact Nat.le_refl _⟩, ⟨by (with_reducible repeat (first | refine blk_drewN ?_ _ | refine blk_drew ?_ | refine blk_alloc ?_ _)); exact BK213.out⟩, ⟨by repeat (first | (with_reducible first | exact HB.out | apply below_alloc | apply pw_below_drewN | apply below_drew1 | refine below_set ?_ GE213.out) | exact HB.out)⟩⟩
    case rest =>
      clear HC28
      try clear c1
      try clear c2
      try clear c2b0
      try clear c2b1
      try clear p2
      try clear c3
      try clear c4
      try clear c5
      try clear c6
      try clear p6
      try clear c7
      try clear c8
      try clear c11
      try clear c31
      try clear hcz10_0
      try clear hcz10_1
      try clear hcz10_2
      try clear hcz10_3
      try clear hcz10_4
      try clear hcz10_5
      try clear hcz10_6
      try clear hcz10_7
      try clear hcz10_8
      try clear hcz10_9
      try clear hcz13_0
      try clear hcz13_1
      try clear hcz13_2
      try clear hcz13_3
      try clear hcz13_4
      try clear hcz13_5
      try clear hcz13_6
      try clear hcz13_7
      try clear hcz13_8
      try clear hcz13_9
      try clear hcz17_0
      try clear hcz17_1
      try clear hcz17_2
      try clear hcz17_3
      try clear hcz17_4
      try clear hcz17_5
      try clear hcz17_6
      try clear hcz17_7
      try clear hcz17_8
      try clear hcz17_9
      try clear hcz22_0
      try clear hcz22_1
      try clear hcz22_2
      try clear hcz22_3
      try clear hcz22_4
      try clear hcz22_5
      try clear hcz22_6
      try clear hcz22_7
      try clear hcz22_8
      try clear hcz22_9
      try clear hcz24_0
      try clear hcz24_1
      try clear hcz24_2
      try clear hcz24_3
      try clear hcz24_4
      try clear hcz24_5
      try clear hcz24_6
      try clear hcz24_7
      try clear hcz24_8
      try clear hcz24_9
      try clear hcz26_0
      try clear hcz26_1
      try clear hcz26_2
      try clear hcz26_3
      try clear hcz26_4
      try clear hcz26_5
      try clear hcz26_6
      try clear hcz26_7
      try clear hcz26_8
      try clear hcz26_9
      try clear hcz30_0
      try clear hcz30_1
      try clear hcz30_2
      try clear hcz30_3
      try clear hcz30_4
      try clear hcz30_5
      try clear hcz30_6
      try clear hcz30_7
      try clear hcz30_8
      try clear hcz30_9
      try clear hfz10_0
      try clear hfz10_1
      try clear hfz10_2
      try clear hfz10_3
      try clear hfz10_4
      try clear hfz10_5
      try clear hfz10_6
      try clear hfz10_7
      try clear hfz10_8
      try clear hfz10_9
      try clear hfz13_0
      try clear hfz13_1
      try clear hfz13_2
      try clear hfz13_3
      try clear hfz13_4
      try clear hfz13_5
      try clear hfz13_6
      try clear hfz13_7
      try clear hfz13_8
      try clear hfz13_9
      try clear hfz17_0
      try clear hfz17_1
      try clear hfz17_2
      try clear hfz17_3
      try clear hfz17_4
      try clear hfz17_5
      try clear hfz17_6
      try clear hfz17_7
      try clear hfz17_8
      try clear hfz17_9
      try clear hfz22_0
      try clear hfz22_1
      try clear hfz22_2
      try clear hfz22_3
      try clear hfz22_4
      try clear hfz22_5
      try clear hfz22_6
      try clear hfz22_7
      try clear hfz22_8
      try clear hfz22_9
      try clear hfz24_0
      try clear hfz24_1
      try clear hfz24_2
      try clear hfz24_3
      try clear hfz24_4
      try clear hfz24_5
      try clear hfz24_6
      try clear hfz24_7
      try clear hfz24_8
      try clear hfz24_9
      try clear hfz26_0
      try clear hfz26_1
      try clear hfz26_2
      try clear hfz26_3
      try clear hfz26_4
      try clear hfz26_5
      try clear hfz26_6
      try clear hfz26_7
      try clear hfz26_8
      try clear hfz26_9
      try clear hfz30_0
      try clear hfz30_1
      try clear hfz30_2
      try clear hfz30_3
      try clear hfz30_4
      try clear hfz30_5
      try clear hfz30_6
      try clear hfz30_7
      try clear hfz30_8
      try clear hfz30_9
      obtain ⟨kq, x4_27, rfl, HA, HJ27, BK213, HB⟩ := hcut
      cases kq with
      | zero => exact absurd HA.out (by simp [impl_packetBytes.j0])
      | succ kj27 =>
        have H := HA.out
        clear HA
        simp only [impl_packetBytes.j0] at H
        have HC32 := Aside0.mk H
        clear H
        have hcz33_0 : wc.cell? ⟨gb213, 0, none⟩ = some (.int .i64 a0_0) := (blk_cell BK213.out 0).trans rfl
        have hcz33_1 : wc.cell? ⟨gb213, 1, none⟩ = some (.string a0_1) := (blk_cell BK213.out 1).trans rfl
        have hcz33_2 : wc.cell? ⟨gb213, 2, none⟩ = some (.string a0_2) := (blk_cell BK213.out 2).trans rfl
        have hcz33_3 : wc.cell? ⟨gb213, 3, none⟩ = some (.int .i64 a0_3) := (blk_cell BK213.out 3).trans rfl
        have hcz33_4 : wc.cell? ⟨gb213, 4, none⟩ = some (.int .i64 a0_4) := (blk_cell BK213.out 4).trans rfl
        have hcz33_5 : wc.cell? ⟨gb213, 5, none⟩ = some (.int .i64 a0_5) := (blk_cell BK213.out 5).trans rfl
        have hcz33_6 : wc.cell? ⟨gb213, 6, none⟩ = some (.int .i64 a0_6) := (blk_cell BK213.out 6).trans rfl
        have hcz33_7 : wc.cell? ⟨gb213, 7, none⟩ = some (.bool a0_7) := (blk_cell BK213.out 7).trans rfl
        have hcz33_8 : wc.cell? ⟨gb213, 8, none⟩ = some (.bool a0_8) := (blk_cell BK213.out 8).trans rfl
        have hcz33_9 : wc.cell? ⟨gb213, 9, none⟩ = some (.slice A0_9 l0_9.length c0_9) := (blk_cell BK213.out 9).trans rfl
        have hfz33_0 := blk_frozen BK213.out 0
        have hfz33_1 := blk_frozen BK213.out 1
        have hfz33_2 := blk_frozen BK213.out 2
        have hfz33_3 := blk_frozen BK213.out 3
        have hfz33_4 := blk_frozen BK213.out 4
        have hfz33_5 := blk_frozen BK213.out 5
        have hfz33_6 := blk_frozen BK213.out 6
        have hfz33_7 := blk_frozen BK213.out 7
        have hfz33_8 := blk_frozen BK213.out 8
        have hfz33_9 := blk_frozen BK213.out 9
        go_upto_if 44 with (fail)
        go_cut [4] (fun v4 wc => ∃ (kq : Nat) (x4_31 : Int), v4 = .int .i64 x4_31 ∧ Aside0 (impl_packetBytes.j1 kq x4_31 a0_0 a0_1 a0_2 a0_3 a0_4 a0_5 a0_6 a0_7 a0_8 l0_9 = some r) ∧ Aside0 (kq ≤ kj27) ∧ Aside0 (wc.heap[gb213]? = some (.cells #[.int .i64 a0_0, .string a0_1, .string a0_2, .int .i64 a0_3, .int .i64 a0_4, .int .i64 a0_5, .int .i64 a0_6, .bool a0_7, .bool a0_8, (.slice A0_9 l0_9.length c0_9)] 67 (0, 0))) ∧ Aside0 (Below w.heap.size w wc))
        case first =>
          have H := HC32.out
          clear HC32
          by_cases c34 : a0_7 = true
          · subst c34
            have H1 : (impl_packetBytes.j1 kj27 (wrap64 (x4_27 + 8192)) a0_0 a0_1 a0_2 a0_3 a0_4 a0_5 a0_6 true a0_8 l0_9) = some r := by rw [if_pos rfl] at H; exact H
            clear H
            have H := H1
            clear H1
            have H' := Aside0.mk H
            clear H
            go_wp2
            go_meet
            case rel => exact ⟨_, (wrap64 (x4_27 + 8192)), (by first | rfl | (simp; done) | (simp [*]; done)), H', ⟨by have := HJ27.out; first | omega | exact Nat.le_refl _⟩, ⟨by (with_reducible repeat (first | refine blk_drewN ?_ _ | refine blk_drew ?_ | refine blk_alloc ?_ _)); exact BK213.out⟩, ⟨by repeat (first | (with_reducible first | exact HB.out | apply below_alloc | apply pw_below_drewN | apply below_drew1 | refine below_set ?_ GE213.out) | exact HB.out)⟩⟩
          · replace c34 := Bool.eq_false_iff.mpr c34
            subst c34
            have H1 : (impl_packetBytes.j1 kj27 x4_27 a0_0 a0_1 a0_2 a0_3 a0_4 a0_5 a0_6 false a0_8 l0_9) = some r := by rw [if_neg (show ¬ (false = true) by decide)] at H; exact H
            clear H
            have H := H1
            clear H1
            have H' := Aside0.mk H
            clear H
            go_wp2
            go_meet
            case rel => exact ⟨_, (x4_27), (by first | rfl | (simp; done) | (simp [*]; done)), H', ⟨by have := HJ27.out; first | omega | exact Nat.le_refl _⟩, ⟨by (with_reducible repeat (first | refine blk_drewN ?_ _ | refine blk_drew ?_ | refine blk_alloc ?_ _)); exact BK213.out⟩, ⟨by repeat (first | (with_reducible first | exact HB.out | apply below_alloc | apply pw_below_drewN | apply below_drew1 | refine below_set ?_ GE213.out) | exact HB.out)⟩⟩
        case rest =>
          clear HC32
          try clear c1
          try clear c2
          try clear c2b0
          try clear c2b1
          try clear p2
          try clear c3
          try clear c4
          try clear c5
          try clear c6
          try clear p6
          try clear c7
          try clear c8
          try clear c11
          try clear c31
          try clear c34
          try clear hcz10_0
          try clear hcz10_1
          try clear hcz10_2
          try clear hcz10_3
          try clear hcz10_4
          try clear hcz10_5
          try clear hcz10_6
          try clear hcz10_7
          try clear hcz10_8
          try clear hcz10_9
          try clear hcz13_0
          try clear hcz13_1
          try clear hcz13_2
          try clear hcz13_3
          try clear hcz13_4
          try clear hcz13_5
          try clear hcz13_6
          try clear hcz13_7
          try clear hcz13_8
          try clear hcz13_9
          try clear hcz17_0
          try clear hcz17_1
          try clear hcz17_2
          try clear hcz17_3
          try clear hcz17_4
          try clear hcz17_5
          try clear hcz17_6
          try clear hcz17_7
          try clear hcz17_8
          try clear hcz17_9
          try clear hcz22_0
          try clear hcz22_1
          try clear hcz22_2
          try clear hcz22_3
          try clear hcz22_4
          try clear hcz22_5
          try clear hcz22_6
          try clear hcz22_7
          try clear hcz22_8
          try clear hcz22_9
          try clear hcz24_0
          try clear hcz24_1
          try clear hcz24_2
          try clear hcz24_3
          try clear hcz24_4
          try clear hcz24_5
          try clear hcz24_6
          try clear hcz24_7
          try clear hcz24_8
          try clear hcz24_9
          try clear hcz26_0
          try clear hcz26_1
          try clear hcz26_2
          try clear hcz26_3
          try clear hcz26_4
          try clear hcz26_5
          try clear hcz26_6
          try clear hcz26_7
          try clear hcz26_8
          try clear hcz26_9
          try clear hcz30_0
          try clear hcz30_1
          try clear hcz30_2
          try clear hcz30_3
          try clear hcz30_4
          try clear hcz30_5
          try clear hcz30_6
          try clear hcz30_7
          try clear hcz30_8
          try clear hcz30_9
          try clear hcz33_0
          try clear hcz33_1
          try clear hcz33_2
          try clear hcz33_3
          try clear hcz33_4
          try clear hcz33_5
          try clear hcz33_6
          try clear hcz33_7
          try clear hcz33_8
          try clear hcz33_9
          try clear hfz10_0
          try clear hfz10_1
          try clear hfz10_2
          try clear hfz10_3
          try clear hfz10_4
          try clear hfz10_5
          try clear hfz10_6
          try clear hfz10_7
          try clear hfz10_8
          try clear hfz10_9
          try clear hfz13_0
          try clear hfz13_1
          try clear hfz13_2
          try clear hfz13_3
          try clear hfz13_4
          try clear hfz13_5
          try clear hfz13_6
          try clear hfz13_7
          try clear hfz13_8
          try clear hfz13_9
          try clear hfz17_0
          try clear hfz17_1
          try clear hfz17_2
          try clear hfz17_3
          try clear hfz17_4
          try clear hfz17_5
          try clear hfz17_6
          try clear hfz17_7
          try clear hfz17_8
          try clear hfz17_9
          try clear hfz22_0
          try clear hfz22_1
          try clear hfz22_2
          try clear hfz22_3
          try clear hfz22_4
          try clear hfz22_5
          try clear hfz22_6
          try clear hfz22_7
          try clear hfz22_8
          try clear hfz22_9
          try clear hfz24_0
          try clear hfz24_1
          try clear hfz24_2
          try clear hfz24_3
          try clear hfz24_4
          try clear hfz24_5
          try clear hfz24_6
          try clear hfz24_7
          try clear hfz24_8
          try clear hfz24_9
          try clear hfz26_0
          try clear hfz26_1
          try clear hfz26_2
          try clear hfz26_3
          try clear hfz26_4
          try clear hfz26_5
          try clear hfz26_6
          try clear hfz26_7
          try clear hfz26_8
          try clear hfz26_9
          try clear hfz30_0
          try clear hfz30_1
          try clear hfz30_2
          try clear hfz30_3
          try clear hfz30_4
          try clear hfz30_5
          try clear hfz30_6
          try clear hfz30_7
          try clear hfz30_8
          try clear hfz30_9
          try clear hfz33_0
          try clear hfz33_1
          try clear hfz33_2
          try clear hfz33_3
          try clear hfz33_4
          try clear hfz33_5
          try clear hfz33_6
          try clear hfz33_7
          try clear hfz33_8
          try clear hfz33_9
          try clear p2
          try clear p6
          obtain ⟨kq, x4_31, rfl, HA, HJ31, BK213, HB⟩ := hcut
          cases kq with
          | zero => exact absurd HA.out (by simp [impl_packetBytes.j1])
          | succ kj31 =>
            have H := HA.out
            clear HA
            simp only [impl_packetBytes.j1] at H
            obtain ⟨y238, hy238⟩ : ∃ y_ : List Int, y_ = (([69, 0] : List Int)) := ⟨_, rfl⟩
            replace H : ((impl_word16.f (wrap64 (20 + (l0_9.length : Int)))).bind fun t241 => (if y238.length + t241.length < 140737488355328 then ((some (y238 ++ t241 : List Int)).bind fun y244 => ((impl_word16.f a0_5).bind fun t247 => (if y244.length + t247.length < 140737488355328 then ((some (y244 ++ t247 : List Int)).bind fun y250 => ((impl_word16.f x4_31).bind fun t253 => (if y250.length + t253.length < 140737488355328 then ((some (y250 ++ t253 : List Int)).bind fun y256 => ((some (([(a0_3) % 256, (a0_4) % 256, 0, 0] : List Int) : List Int)).bind fun y259 => (if y256.length + y259.length < 140737488355328 then ((some (y256 ++ y259 : List Int)).bind fun y262 => (if y262.length + a0_1.size < 140737488355328 then ((some (y262 ++ bytesOf a0_1 : List Int)).bind fun y265 => (if y265.length + a0_2.size < 140737488355328 then ((some (y265 ++ bytesOf a0_2 : List Int)).bind fun y268 => (if 10 ≤ (y268.length : Int) then ((impl_checkSum.f kj31 y268).bind fun t275 => ((impl_word16.f t275).bind fun t276 => ((some (copyAt y268 (10 : Int).toNat t276 : List Int)).bind fun y279 => (if y279.length + l0_9.length < 140737488355328 then (some (y279 ++ l0_9)) else (none))))) else (none))) else (none))) else (none))) else (none)))) else (none)))) else (none)))) else (none))) = some r := by first | (rw [hy238]; with_reducible exact H) | (have H2_ := (Option.bind_some _ _).symm.trans H; rw [hy238]; with_reducible exact H2_) | (have H2_ := (Option.bind_some _ _).symm.trans H; with_reducible exact H2_) | with_reducible exact H | (rw [hy238]; exact H) | exact H
            have Ny238 := Aside0.mk hy238
            clear hy238
            replace H := Option.bind_eq_some_iff.mp H
            obtain ⟨t241, A350, H⟩ := H
            replace H : (if y238.length + t241.length < 140737488355328 then ((some (y238 ++ t241 : List Int)).bind fun y244 => ((impl_word16.f a0_5).bind fun t247 => (if y244.length + t247.length < 140737488355328 then ((some (y244 ++ t247 : List Int)).bind fun y250 => ((impl_word16.f x4_31).bind fun t253 => (if y250.length + t253.length < 140737488355328 then ((some (y250 ++ t253 : List Int)).bind fun y256 => ((some (([(a0_3) % 256, (a0_4) % 256, 0, 0] : List Int) : List Int)).bind fun y259 => (if y256.length + y259.length < 140737488355328 then ((some (y256 ++ y259 : List Int)).bind fun y262 => (if y262.length + a0_1.size < 140737488355328 then ((some (y262 ++ bytesOf a0_1 : List Int)).bind fun y265 => (if y265.length + a0_2.size < 140737488355328 then ((some (y265 ++ bytesOf a0_2 : List Int)).bind fun y268 => (if 10 ≤ (y268.length : Int) then ((impl_checkSum.f kj31 y268).bind fun t275 => ((impl_word16.f t275).bind fun t276 => ((some (copyAt y268 (10 : Int).toNat t276 : List Int)).bind fun y279 => (if y279.length + l0_9.length < 140737488355328 then (some (y279 ++ l0_9)) else (none))))) else (none))) else (none))) else (none))) else (none)))) else (none)))) else (none)))) else (none)) = some r := H
            have A35 := Aside0.mk A350
            clear A350
            by_cases c36 : y238.length + t241.length < 140737488355328
            · rw [if_pos c36] at H
              have LMc36 := Aside0.mk c36
              clear c36
              obtain ⟨y244, hy244⟩ : ∃ y_ : List Int, y_ = (y238 ++ t241) := ⟨_, rfl⟩
              replace H : ((impl_word16.f a0_5).bind fun t247 => (if y244.length + t247.length < 140737488355328 then ((some (y244 ++ t247 : List Int)).bind fun y250 => ((impl_word16.f x4_31).bind fun t253 => (if y250.length + t253.length < 140737488355328 then ((some (y250 ++ t253 : List Int)).bind fun y256 => ((some (([(a0_3) % 256, (a0_4) % 256, 0, 0] : List Int) : List Int)).bind fun y259 => (if y256.length + y259.length < 140737488355328 then ((some (y256 ++ y259 : List Int)).bind fun y262 => (if y262.length + a0_1.size < 140737488355328 then ((some (y262 ++ bytesOf a0_1 : List Int)).bind fun y265 => (if y265.length + a0_2.size < 140737488355328 then ((some (y265 ++ bytesOf a0_2 : List Int)).bind fun y268 => (if 10 ≤ (y268.length : Int) then ((impl_checkSum.f kj31 y268).bind fun t275 => ((impl_word16.f t275).bind fun t276 => ((some (copyAt y268 (10 : Int).toNat t276 : List Int)).bind fun y279 => (if y279.length + l0_9.length < 140737488355328 then (some (y279 ++ l0_9)) else (none))))) else (none))) else (none))) else (none))) else (none)))) else (none)))) else (none))) = some r := by first | (rw [hy244]; with_reducible exact H) | (have H2_ := (Option.bind_some _ _).symm.trans H; rw [hy244]; with_reducible exact H2_) | (have H2_ := (Option.bind_some _ _).symm.trans H; with_reducible exact H2_) | with_reducible exact H | (rw [hy244]; exact H) | exact H
              have Ny244 := Aside0.mk hy244
              clear hy244
              replace H := Option.bind_eq_some_iff.mp H
              obtain ⟨t247, A370, H⟩ := H
              replace H : (if y244.length + t247.length < 140737488355328 then ((some (y244 ++ t247 : List Int)).bind fun y250 => ((impl_word16.f x4_31).bind fun t253 => (if y250.length + t253.length < 140737488355328 then ((some (y250 ++ t253 : List Int)).bind fun y256 => ((some (([(a0_3) % 256, (a0_4) % 256, 0, 0] : List Int) : List Int)).bind fun y259 => (if y256.length + y259.length < 140737488355328 then ((some (y256 ++ y259 : List Int)).bind fun y262 => (if y262.length + a0_1.size < 140737488355328 then ((some (y262 ++ bytesOf a0_1 : List Int)).bind fun y265 => (if y265.length + a0_2.size < 140737488355328 then ((some (y265 ++ bytesOf a0_2 : List Int)).bind fun y268 => (if 10 ≤ (y268.length : Int) then ((impl_checkSum.f kj31 y268).bind fun t275 => ((impl_word16.f t275).bind fun t276 => ((some (copyAt y268 (10 : Int).toNat t276 : List Int)).bind fun y279 => (if y279.length + l0_9.length < 140737488355328 then (some (y279 ++ l0_9)) else (none))))) else (none))) else (none))) else (none))) else (none)))) else (none)))) else (none)) = some r := H
              have A37 := Aside0.mk A370
              clear A370
              by_cases c38 : y244.length + t247.length < 140737488355328
              · rw [if_pos c38] at H
                have LMc38 := Aside0.mk c38
                clear c38
                obtain ⟨y250, hy250⟩ : ∃ y_ : List Int, y_ = (y244 ++ t247) := ⟨_, rfl⟩
                replace H : ((impl_word16.f x4_31).bind fun t253 => (if y250.length + t253.length < 140737488355328 then ((some (y250 ++ t253 : List Int)).bind fun y256 => ((some (([(a0_3) % 256, (a0_4) % 256, 0, 0] : List Int) : List Int)).bind fun y259 => (if y256.length + y259.length < 140737488355328 then ((some (y256 ++ y259 : List Int)).bind fun y262 => (if y262.length + a0_1.size < 140737488355328 then ((some (y262 ++ bytesOf a0_1 : List Int)).bind fun y265 => (if y265.length + a0_2.size < 140737488355328 then ((some (y265 ++ bytesOf a0_2 : List Int)).bind fun y268 => (if 10 ≤ (y268.length : Int) then ((impl_checkSum.f kj31 y268).bind fun t275 => ((impl_word16.f t275).bind fun t276 => ((some (copyAt y268 (10 : Int).toNat t276 : List Int)).bind fun y279 => (if y279.length + l0_9.length < 140737488355328 then (some (y279 ++ l0_9)) else (none))))) else (none))) else (none))) else (none))) else (none)))) else (none))) = some r := by first | (rw [hy250]; with_reducible exact H) | (have H2_ := (Option.bind_some _ _).symm.trans H; rw [hy250]; with_reducible exact H2_) | (have H2_ := (Option.bind_some _ _).symm.trans H; with_reducible exact H2_) | with_reducible exact H | (rw [hy250]; exact H) | exact H
                have Ny250 := Aside0.mk hy250
                clear hy250
                replace H := Option.bind_eq_some_iff.mp H
                obtain ⟨t253, A390, H⟩ := H
                replace H : (if y250.length + t253.length < 140737488355328 then ((some (y250 ++ t253 : List Int)).bind fun y256 => ((some (([(a0_3) % 256, (a0_4) % 256, 0, 0] : List Int) : List Int)).bind fun y259 => (if y256.length + y259.length < 140737488355328 then ((some (y256 ++ y259 : List Int)).bind fun y262 => (if y262.length + a0_1.size < 140737488355328 then ((some (y262 ++ bytesOf a0_1 : List Int)).bind fun y265 => (if y265.length + a0_2.size < 140737488355328 then ((some (y265 ++ bytesOf a0_2 : List Int)).bind fun y268 => (if 10 ≤ (y268.length : Int) then ((impl_checkSum.f kj31 y268).bind fun t275 => ((impl_word16.f t275).bind fun t276 => ((some (copyAt y268 (10 : Int).toNat t276 : List Int)).bind fun y279 => (if y279.length + l0_9.length < 140737488355328 then (some (y279 ++ l0_9)) else (none))))) else (none))) else (none))) else (none))) else (none)))) else (none)) = some r := H
                have A39 := Aside0.mk A390
                clear A390
                by_cases c40 : y250.length + t253.length < 140737488355328
                · rw [if_pos c40] at H
                  have LMc40 := Aside0.mk c40
                  clear c40
                  obtain ⟨y256, hy256⟩ : ∃ y_ : List Int, y_ = (y250 ++ t253) := ⟨_, rfl⟩
                  replace H : ((some (([(a0_3) % 256, (a0_4) % 256, 0, 0] : List Int) : List Int)).bind fun y259 => (if y256.length + y259.length < 140737488355328 then ((some (y256 ++ y259 : List Int)).bind fun y262 => (if y262.length + a0_1.size < 140737488355328 then ((some (y262 ++ bytesOf a0_1 : List Int)).bind fun y265 => (if y265.length + a0_2.size < 140737488355328 then ((some (y265 ++ bytesOf a0_2 : List Int)).bind fun y268 => (if 10 ≤ (y268.length : Int) then ((impl_checkSum.f kj31 y268).bind fun t275 => ((impl_word16.f t275).bind fun t276 => ((some (copyAt y268 (10 : Int).toNat t276 : List Int)).bind fun y279 => (if y279.length + l0_9.length < 140737488355328 then (some (y279 ++ l0_9)) else (none))))) else (none))) else (none))) else (none))) else (none))) = some r := by first | (rw [hy256]; with_reducible exact H) | (have H2_ := (Option.bind_some _ _).symm.trans H; rw [hy256]; with_reducible exact H2_) | (have H2_ := (Option.bind_some _ _).symm.trans H; with_reducible exact H2_) | with_reducible exact H | (rw [hy256]; exact H) | exact H
                  have Ny256 := Aside0.mk hy256
                  clear hy256
                  obtain ⟨y259, hy259⟩ : ∃ y_ : List Int, y_ = (([(a0_3) % 256, (a0_4) % 256, 0, 0] : List Int)) := ⟨_, rfl⟩
                  replace H : (if y256.length + y259.length < 140737488355328 then ((some (y256 ++ y259 : List Int)).bind fun y262 => (if y262.length + a0_1.size < 140737488355328 then ((some (y262 ++ bytesOf a0_1 : List Int)).bind fun y265 => (if y265.length + a0_2.size < 140737488355328 then ((some (y265 ++ bytesOf a0_2 : List Int)).bind fun y268 => (if 10 ≤ (y268.length : Int) then ((impl_checkSum.f kj31 y268).bind fun t275 => ((impl_word16.f t275).bind fun t276 => ((some (copyAt y268 (10 : Int).toNat t276 : List Int)).bind fun y279 => (if y279.length + l0_9.length < 140737488355328 then (some (y279 ++ l0_9)) else (none))))) else (none))) else (none))) else (none))) else (none)) = some r := by first | (rw [hy259]; with_reducible exact H) | (have H2_ := (Option.bind_some _ _).symm.trans H; rw [hy259]; with_reducible exact H2_) | (have H2_ := (Option.bind_some _ _).symm.trans H; with_reducible exact H2_) | with_reducible exact H | (rw [hy259]; exact H) | exact H
                  have Ny259 := Aside0.mk hy259
                  clear hy259
                  by_cases c41 : y256.length + y259.length < 140737488355328
                  · rw [if_pos c41] at H
                    have LMc41 := Aside0.mk c41
                    clear c41
                    obtain ⟨y262, hy262⟩ : ∃ y_ : List Int, y_ = (y256 ++ y259) := ⟨_, rfl⟩
                    replace H : (if y262.length + a0_1.size < 140737488355328 then ((some (y262 ++ bytesOf a0_1 : List Int)).bind fun y265 => (if y265.length + a0_2.size < 140737488355328 then ((some (y265 ++ bytesOf a0_2 : List Int)).bind fun y268 => (if 10 ≤ (y268.length : Int) then ((impl_checkSum.f kj31 y268).bind fun t275 => ((impl_word16.f t275).bind fun t276 => ((some (copyAt y268 (10 : Int).toNat t276 : List Int)).bind fun y279 => (if y279.length + l0_9.length < 140737488355328 then (some (y279 ++ l0_9)) else (none))))) else (none))) else (none))) else (none)) = some r := by first | (rw [hy262]; with_reducible exact H) | (have H2_ := (Option.bind_some _ _).symm.trans H; rw [hy262]; with_reducible exact H2_) | (have H2_ := (Option.bind_some _ _).symm.trans H; with_reducible exact H2_) | with_reducible exact H | (rw [hy262]; exact H) | exact H
                    have Ny262 := Aside0.mk hy262
                    clear hy262
                    by_cases c42 : y262.length + a0_1.size < 140737488355328
                    · rw [if_pos c42] at H
                      have LMc42 := Aside0.mk c42
                      clear c42
                      obtain ⟨y265, hy265⟩ : ∃ y_ : List Int, y_ = (y262 ++ bytesOf a0_1) := ⟨_, rfl⟩
                      replace H : (if y265.length + a0_2.size < 140737488355328 then ((some (y265 ++ bytesOf a0_2 : List Int)).bind fun y268 => (if 10 ≤ (y268.length : Int) then ((impl_checkSum.f kj31 y268).bind fun t275 => ((impl_word16.f t275).bind fun t276 => ((some (copyAt y268 (10 : Int).toNat t276 : List Int)).bind fun y279 => (if y279.length + l0_9.length < 140737488355328 then (some (y279 ++ l0_9)) else (none))))) else (none))) else (none)) = some r := by first | (rw [hy265]; with_reducible exact H) | (have H2_ := (Option.bind_some _ _).symm.trans H; rw [hy265]; with_reducible exact H2_) | (have H2_ := (Option.bind_some _ _).symm.trans H; with_reducible exact H2_) | with_reducible exact H | (rw [hy265]; exact H) | exact H
                      have Ny265 := Aside0.mk hy265
                      clear hy265
                      by_cases c43 : y265.length + a0_2.size < 140737488355328
                      · rw [if_pos c43] at H
                        have LMc43 := Aside0.mk c43
                        clear c43
                        obtain ⟨y268, hy268⟩ : ∃ y_ : List Int, y_ = (y265 ++ bytesOf a0_2) := ⟨_, rfl⟩
                        replace H : (if 10 ≤ (y268.length : Int) then ((impl_checkSum.f kj31 y268).bind fun t275 => ((impl_word16.f t275).bind fun t276 => ((some (copyAt y268 (10 : Int).toNat t276 : List Int)).bind fun y279 => (if y279.length + l0_9.length < 140737488355328 then (some (y279 ++ l0_9)) else (none))))) else (none)) = some r := by first | (rw [hy268]; with_reducible exact H) | (have H2_ := (Option.bind_some _ _).symm.trans H; rw [hy268]; with_reducible exact H2_) | (have H2_ := (Option.bind_some _ _).symm.trans H; with_reducible exact H2_) | with_reducible exact H | (rw [hy268]; exact H) | exact H
                        have Ny268 := Aside0.mk hy268
                        clear hy268
                        by_cases c44 : 10 ≤ (y268.length : Int)
                        · rw [if_pos c44] at H
                          have c44b0 := eq_true c44
                          have c44b1 : decide (10 ≤ (y268.length : Int)) = true := decide_eq_true c44
                          clear c44
                          obtain ⟨y271, hy271⟩ : ∃ y_ : List Int, y_ = (y268.drop 10) := ⟨_, rfl⟩
                          replace H : ((impl_checkSum.f kj31 y268).bind fun t275 => ((impl_word16.f t275).bind fun t276 => ((some (copyAt y268 (10 : Int).toNat t276 : List Int)).bind fun y279 => (if y279.length + l0_9.length < 140737488355328 then (some (y279 ++ l0_9)) else (none))))) = some r := by first | (rw [hy271]; with_reducible exact H) | (have H2_ := (Option.bind_some _ _).symm.trans H; rw [hy271]; with_reducible exact H2_) | (have H2_ := (Option.bind_some _ _).symm.trans H; with_reducible exact H2_) | with_reducible exact H | (rw [hy271]; exact H) | exact H
                          have Ny271 := Aside0.mk hy271
                          clear hy271
                          replace H := Option.bind_eq_some_iff.mp H
                          obtain ⟨t275, A450, H⟩ := H
                          replace H : ((impl_word16.f t275).bind fun t276 => ((some (copyAt y268 (10 : Int).toNat t276 : List Int)).bind fun y279 => (if y279.length + l0_9.length < 140737488355328 then (some (y279 ++ l0_9)) else (none)))) = some r := H
                          have A45 := Aside0.mk A450
                          clear A450
                          replace H := Option.bind_eq_some_iff.mp H
                          obtain ⟨t276, A460, H⟩ := H
                          replace H : ((some (copyAt y268 (10 : Int).toNat t276 : List Int)).bind fun y279 => (if y279.length + l0_9.length < 140737488355328 then (some (y279 ++ l0_9)) else (none))) = some r := H
                          have A46 := Aside0.mk A460
                          clear A460
                          obtain ⟨y279, hy279⟩ : ∃ y_ : List Int, y_ = (copyAt y268 (10 : Int).toNat t276) := ⟨_, rfl⟩
                          replace H : (if y279.length + l0_9.length < 140737488355328 then (some (y279 ++ l0_9)) else (none)) = some r := by first | (rw [hy279]; with_reducible exact H) | (have H2_ := (Option.bind_some _ _).symm.trans H; rw [hy279]; with_reducible exact H2_) | (have H2_ := (Option.bind_some _ _).symm.trans H; with_reducible exact H2_) | with_reducible exact H | (rw [hy279]; exact H) | exact H
                          have Ny279 := Aside0.mk hy279
                          clear hy279
                          by_cases c47 : y279.length + l0_9.length < 140737488355328
                          · rw [if_pos c47] at H
                            have LMc47 := Aside0.mk c47
                            clear c47
                            obtain ⟨y280, hy280⟩ : ∃ y_ : List Int, y_ = (y279 ++ l0_9) := ⟨_, rfl⟩
                            replace H : (some y280) = some r := by first | (rw [hy280]; with_reducible exact H) | (have H2_ := (Option.bind_some _ _).symm.trans H; rw [hy280]; with_reducible exact H2_) | (have H2_ := (Option.bind_some _ _).symm.trans H; with_reducible exact H2_) | with_reducible exact H | (rw [hy280]; exact H) | exact H
                            have Ny280 := Aside0.mk hy280
                            clear hy280
                            obtain rfl := Option.some.inj H
                            try go_wp2_with (first | ((with_reducible refine gate_dst (N := 47) rfl ?_); refine Kd.R_lit (Kd.int .u8) _ 5 ?hg (N := 47) ?hd (xs := ([69, 0] : List Int)) (inner := [.int .u8 69, .int .u8 0]) (ok := fun _ => True) (okp := fun _ => True) ?hr ?hp (fun _ hk => hk) trivial (Below.refl _ _) (Nat.le_refl _) (by simp) ?_; (case hd => rfl); (case hg => rfl); (case hr => first | (go_simp; done) | (go_simp; rfl)); (case hp => exact (Reps.one (show Kd.M (Kd.int .u8) _ _ _ 69 [.int .u8 69] from rfl) (Reps.one (show Kd.M (Kd.int .u8) _ _ _ 0 [.int .u8 0] from rfl) (Reps.none _ _)))); intro v239 w48 ho49 hb hg_ hnew_; clear hg_ hnew_; (first | rw [← Ny238.out] at ho49 | (simp only [Int.reduceToNat] at ho49; rw [← Ny238.out] at ho49)); have n0_ := Aside0.mk (Kd.R_lower ho49 (below_size (by repeat (first | (with_reducible first | exact HB.out | apply below_alloc | apply pw_below_drewN | apply below_drew1 | refine below_set ?_ GE213.out) | exact HB.out)))); have n1_ := Aside0.mk (blk_below (g := gb213) (o := .cells #[.int .i64 a0_0, .string a0_1, .string a0_2, .int .i64 a0_3, .int .i64 a0_4, .int .i64 a0_5, .int .i64 a0_6, .bool a0_7, .bool a0_8, .slice A0_9 l0_9.length c0_9] 67 (0, 0)) (by (with_reducible repeat (first | refine blk_drewN ?_ _ | refine blk_drew ?_ | refine blk_alloc ?_ _)); exact BK213.out) hb); have n2_ := Aside0.mk (below_step (by repeat (first | (with_reducible first | exact HB.out | apply below_alloc | apply pw_below_drewN | apply below_drew1 | refine below_set ?_ GE213.out) | exact HB.out)) hb); clear BK213; clear HB; have HO240 := n0_; have BK213 := n1_; have HB := n2_; clear n0_ n1_ n2_; clear hb ho49; have hcz50_0 : w48.cell? ⟨gb213, 0, none⟩ = some (.int .i64 a0_0) := (blk_cell BK213.out 0).trans rfl; have hcz50_1 : w48.cell? ⟨gb213, 1, none⟩ = some (.string a0_1) := (blk_cell BK213.out 1).trans rfl; have hcz50_2 : w48.cell? ⟨gb213, 2, none⟩ = some (.string a0_2) := (blk_cell BK213.out 2).trans rfl; have hcz50_3 : w48.cell? ⟨gb213, 3, none⟩ = some (.int .i64 a0_3) := (blk_cell BK213.out 3).trans rfl; have hcz50_4 : w48.cell? ⟨gb213, 4, none⟩ = some (.int .i64 a0_4) := (blk_cell BK213.out 4).trans rfl; have hcz50_5 : w48.cell? ⟨gb213, 5, none⟩ = some (.int .i64 a0_5) := (blk_cell BK213.out 5).trans rfl; have hcz50_6 : w48.cell? ⟨gb213, 6, none⟩ = some (.int .i64 a0_6) := (blk_cell BK213.out 6).trans rfl; have hcz50_7 : w48.cell? ⟨gb213, 7, none⟩ = some (.bool a0_7) := (blk_cell BK213.out 7).trans rfl; have hcz50_8 : w48.cell? ⟨gb213, 8, none⟩ = some (.bool a0_8) := (blk_cell BK213.out 8).trans rfl; have hcz50_9 : w48.cell? ⟨gb213, 9, none⟩ = some (.slice A0_9 l0_9.length c0_9) := (blk_cell BK213.out 9).trans rfl; have hfz50_0 := blk_frozen BK213.out 0; have hfz50_1 := blk_frozen BK213.out 1; have hfz50_2 := blk_frozen BK213.out 2; have hfz50_3 := blk_frozen BK213.out 3; have hfz50_4 := blk_frozen BK213.out 4; have hfz50_5 := blk_frozen BK213.out 5; have hfz50_6 := blk_frozen BK213.out 6; have hfz50_7 := blk_frozen BK213.out 7; have hfz50_8 := blk_frozen BK213.out 8; have hfz50_9 := blk_frozen BK213.out 9) | ((with_reducible refine gate_callee (f := 84) rfl ?_); refine goesL_ (some 53) rfl rfl Try.func84 (by kernel_rfl) rfl #[.int .i64 (wrap64 (20 + (l0_9.length : Int)))] rfl (by (try simp only [List.map_toArray, List.map_cons, List.map_nil]); first | done | rfl | (simp only [List.length_drop, List.length_take]; rfl)) ?_; (with_reducible refine (impl_word16.calls (wrap64 (20 + (l0_9.length : Int))) t241 _ A35.out).mono ?_); rintro e w51 ⟨v242, rfl, ho0, hb⟩; refine ⟨_, rfl, ?_⟩; have n0_ := Aside0.mk (Kd.R_elder' (by (with_reducible repeat (first | apply Kd.R_alloc | apply Kd.R_drewN | apply Kd.R_drew)); exact HO240.out) (Kd.R_base ho0) hb); have n1_ := Aside0.mk (Kd.R_lower (Kd.R_new' ho0 (Kd.R_lt (by (with_reducible repeat (first | apply Kd.R_alloc | apply Kd.R_drewN | apply Kd.R_drew)); exact HO240.out))) (below_size (by repeat (first | (with_reducible first | exact HB.out | apply below_alloc | apply pw_below_drewN | apply below_drew1 | refine below_set ?_ GE213.out) | exact HB.out)))); have n2_ := Aside0.mk (blk_below (g := gb213) (o := .cells #[.int .i64 a0_0, .string a0_1, .string a0_2, .int .i64 a0_3, .int .i64 a0_4, .int .i64 a0_5, .int .i64 a0_6, .bool a0_7, .bool a0_8, .slice A0_9 l0_9.length c0_9] 67 (0, 0)) (by (with_reducible repeat (first | refine blk_drewN ?_ _ | refine blk_drew ?_ | refine blk_alloc ?_ _)); exact BK213.out) hb); have n3_ := Aside0.mk (below_step (by repeat (first | (with_reducible first | exact HB.out | apply below_alloc | apply pw_below_drewN | apply below_drew1 | refine below_set ?_ GE213.out) | exact HB.out)) hb); clear HO240; clear BK213; clear HB; have HO240 := n0_; have HO243 := n1_; have BK213 := n2_; have HB := n3_; clear n0_ n1_ n2_ n3_; (try clear hb); (try clear hb2); (try clear hk); (try clear hi); (try clear ho0); obtain ⟨Ao53, co53, eo53⟩ := Kd.R_slice HO243.out; subst eo53) | ((with_reducible refine gate_builtin (b := .append) (xs := #[.tmp 48, .tmp 53]) rfl ?_); at_builtin; refine Kd.R_append_rows (Kd.int .u8) (w0 := w) w.heap.size rfl (.tmp 48) (.tmp 53) 25 5 (.int .u8 0) 1 rfl Try.underlying25 info5 rfl (by decide) (by omega) v239 y238 t241 _ _ _ (fun k_ => some k_ ≠ (.slice Ao53 t241.length co53 : Value).ownBlock) (fun _ => False) rfl rfl ?aO ?aR (fun _ _ h => h) (fun _ h => h.elim) ?aF ?aB ?aS ?aL ?_; (case aR => repeat (first | exact (Kd.R_reads' HO243.out).2.2 | (with_reducible refine Kd.C_alloc ?_ _) | (with_reducible refine Kd.C_drewN ?_ _) | (with_reducible refine Kd.C_drew ?_))); (case aB => exact (by repeat (first | (with_reducible first | exact HB.out | apply below_alloc | apply pw_below_drewN | apply below_drew1 | refine below_set ?_ GE213.out) | exact HB.out))); (case aF => exact (fun k_ hk => Kd.fresh' (Kd.R_lt (by (with_reducible repeat (first | apply Kd.R_alloc | apply Kd.R_drewN | apply Kd.R_drew)); exact HO243.out)) k_ hk)); (case aO => exact (by (with_reducible repeat (first | apply Kd.R_alloc | apply Kd.R_drewN | apply Kd.R_drew)); (first | exact Kd.R_mono HO240.out (fun _ hk => hk.2) | exact HO240.out))); (case aS => exact (below_size (by repeat (first | (with_reducible first | exact HB.out | apply below_alloc | apply pw_below_drewN | apply below_drew1 | refine below_set ?_ GE213.out) | exact HB.out)))); (case aL => have := LMc36.out; omega); intro v245 w52 ho hb hg hat; rw [← Ny244.out] at ho; have n0_ := Aside0.mk (blk_grown (g := gb213) (o := .cells #[.int .i64 a0_0, .string a0_1, .string a0_2, .int .i64 a0_3, .int .i64 a0_4, .int .i64 a0_5, .int .i64 a0_6, .bool a0_7, .bool a0_8, .slice A0_9 l0_9.length c0_9] 67 (0, 0)) (by (with_reducible repeat (first | refine blk_drewN ?_ _ | refine blk_drew ?_ | refine blk_alloc ?_ _)); exact BK213.out) hg (Kd.R_ne HO240.out BK213.out (by decide))); have n1_ := Aside0.mk (Kd.R_after (ok := (fun _ => True)) (by (with_reducible repeat (first | apply Kd.R_alloc | apply Kd.R_drewN | apply Kd.R_drew)); (first | exact HO243.out | exact Kd.R_mono HO243.out (fun _ hk => ⟨trivial, hk⟩) | exact Kd.R_mono HO243.out (fun _ hk => by simp only [and_assoc] at hk ⊢; exact hk))) hg hat); have n2_ := Aside0.mk (hb); have n3_ := Aside0.mk (ho); clear BK213; clear HO243; clear HB; clear HO240; have BK213 := n0_; have HO243 := n1_; have HB := n2_; have HO246 := n3_; clear n0_ n1_ n2_ n3_; clear ho hb hg hat; have hcz54_0 : w52.cell? ⟨gb213, 0, none⟩ = some (.int .i64 a0_0) := (blk_cell BK213.out 0).trans rfl; have hcz54_1 : w52.cell? ⟨gb213, 1, none⟩ = some (.string a0_1) := (blk_cell BK213.out 1).trans rfl; have hcz54_2 : w52.cell? ⟨gb213, 2, none⟩ = some (.string a0_2) := (blk_cell BK213.out 2).trans rfl; have hcz54_3 : w52.cell? ⟨gb213, 3, none⟩ = some (.int .i64 a0_3) := (blk_cell BK213.out 3).trans rfl; have hcz54_4 : w52.cell? ⟨gb213, 4, none⟩ = some (.int .i64 a0_4) := (blk_cell BK213.out 4).trans rfl; have hcz54_5 : w52.cell? ⟨gb213, 5, none⟩ = some (.int .i64 a0_5) := (blk_cell BK213.out 5).trans rfl; have hcz54_6 : w52.cell? ⟨gb213, 6, none⟩ = some (.int .i64 a0_6) := (blk_cell BK213.out 6).trans rfl; have hcz54_7 : w52.cell? ⟨gb213, 7, none⟩ = some (.bool a0_7) := (blk_cell BK213.out 7).trans rfl; have hcz54_8 : w52.cell? ⟨gb213, 8, none⟩ = some (.bool a0_8) := (blk_cell BK213.out 8).trans rfl; have hcz54_9 : w52.cell? ⟨gb213, 9, none⟩ = some (.slice A0_9 l0_9.length c0_9) := (blk_cell BK213.out 9).trans rfl; have hfz54_0 := blk_frozen BK213.out 0; have hfz54_1 := blk_frozen BK213.out 1; have hfz54_2 := blk_frozen BK213.out 2; have hfz54_3 := blk_frozen BK213.out 3; have hfz54_4 := blk_frozen BK213.out 4; have hfz54_5 := blk_frozen BK213.out 5; have hfz54_6 := blk_frozen BK213.out 6; have hfz54_7 := blk_frozen BK213.out 7; have hfz54_8 := blk_frozen BK213.out 8; have hfz54_9 := blk_frozen BK213.out 9) | ((with_reducible refine gate_callee (f := 84) rfl ?_); refine goesL_ (some 58) rfl rfl Try.func84 (by kernel_rfl) rfl #[.int .i64 a0_5] rfl (by (try simp only [List.map_toArray, List.map_cons, List.map_nil]); first | done | rfl | (simp only [List.length_drop, List.length_take]; rfl)) ?_; (with_reducible refine (impl_word16.calls a0_5 t247 _ A37.out).mono ?_); rintro e w55 ⟨v248, rfl, ho0, hb⟩; refine ⟨_, rfl, ?_⟩; have n0_ := Aside0.mk (Kd.R_elder' (by (with_reducible repeat (first | apply Kd.R_alloc | apply Kd.R_drewN | apply Kd.R_drew)); exact HO243.out) (Kd.R_base ho0) hb); have n1_ := Aside0.mk (Kd.R_elder' (by (with_reducible repeat (first | apply Kd.R_alloc | apply Kd.R_drewN | apply Kd.R_drew)); exact HO246.out) (Kd.R_base ho0) hb); have n2_ := Aside0.mk (Kd.R_lower (Kd.R_new' (Kd.R_new' ho0 (Kd.R_lt (by (with_reducible repeat (first | apply Kd.R_alloc | apply Kd.R_drewN | apply Kd.R_drew)); exact HO243.out))) (Kd.R_lt (by (with_reducible repeat (first | apply Kd.R_alloc | apply Kd.R_drewN | apply Kd.R_drew)); exact HO246.out))) (below_size (by repeat (first | (with_reducible first | exact HB.out | apply below_alloc | apply pw_below_drewN | apply below_drew1 | refine below_set ?_ GE213.out) | exact HB.out)))); have n3_ := Aside0.mk (blk_below (g := gb213) (o := .cells #[.int .i64 a0_0, .string a0_1, .string a0_2, .int .i64 a0_3, .int .i64 a0_4, .int .i64 a0_5, .int .i64 a0_6, .bool a0_7, .bool a0_8, .slice A0_9 l0_9.length c0_9] 67 (0, 0)) (by (with_reducible repeat (first | refine blk_drewN ?_ _ | refine blk_drew ?_ | refine blk_alloc ?_ _)); exact BK213.out) hb); have n4_ := Aside0.mk (below_step (by repeat (first | (with_reducible first | exact HB.out | apply below_alloc | apply pw_below_drewN | apply below_drew1 | refine below_set ?_ GE213.out) | exact HB.out)) hb); clear HO243; clear HO246; clear BK213; clear HB; have HO243 := n0_; have HO246 := n1_; have HO249 := n2_; have BK213 := n3_; have HB := n4_; clear n0_ n1_ n2_ n3_ n4_; (try clear hb); (try clear hb2); (try clear hk); (try clear hi); (try clear ho0); obtain ⟨Ao57, co57, eo57⟩ := Kd.R_slice HO249.out; subst eo57) | ((with_reducible refine gate_builtin (b := .append) (xs := #[.tmp 55, .tmp 58]) rfl ?_); at_builtin; refine Kd.R_append_rows (Kd.int .u8) (w0 := w) w.heap.size rfl (.tmp 55) (.tmp 58) 25 5 (.int .u8 0) 1 rfl Try.underlying25 info5 rfl (by decide) (by omega) v245 y244 t247 _ _ _ (fun k_ => some k_ ≠ (.slice Ao53 t241.length co53 : Value).ownBlock ∧ some k_ ≠ (.slice Ao57 t247.length co57 : Value).ownBlock) (fun _ => False) rfl rfl ?aO ?aR (fun _ _ h => h) (fun _ h => h.elim) ?aF ?aB ?aS ?aL ?_; (case aR => repeat (first | exact (Kd.R_reads' HO249.out).2.2 | (with_reducible refine Kd.C_alloc ?_ _) | (with_reducible refine Kd.C_drewN ?_ _) | (with_reducible refine Kd.C_drew ?_))); (case aB => exact (by repeat (first | (with_reducible first | exact HB.out | apply below_alloc | apply pw_below_drewN | apply below_drew1 | refine below_set ?_ GE213.out) | exact HB.out))); (case aF => exact (fun k_ hk => ⟨Kd.fresh' (Kd.R_lt (by (with_reducible repeat (first | apply Kd.R_alloc | apply Kd.R_drewN | apply Kd.R_drew)); exact HO243.out)) k_ hk, Kd.fresh' (Kd.R_lt (by (with_reducible repeat (first | apply Kd.R_alloc | apply Kd.R_drewN | apply Kd.R_drew)); exact HO249.out)) k_ hk⟩)); (case aO => exact (by (with_reducible repeat (first | apply Kd.R_alloc | apply Kd.R_drewN | apply Kd.R_drew)); exact HO246.out)); (case aS => exact (below_size (by repeat (first | (with_reducible first | exact HB.out | apply below_alloc | apply pw_below_drewN | apply below_drew1 | refine below_set ?_ GE213.out) | exact HB.out)))); (case aL => have := LMc38.out; omega); intro v251 w56 ho hb hg hat; rw [← Ny250.out] at ho; have n0_ := Aside0.mk (blk_grown (g := gb213) (o := .cells #[.int .i64 a0_0, .string a0_1, .string a0_2, .int .i64 a0_3, .int .i64 a0_4, .int .i64 a0_5, .int .i64 a0_6, .bool a0_7, .bool a0_8, .slice A0_9 l0_9.length c0_9] 67 (0, 0)) (by (with_reducible repeat (first | refine blk_drewN ?_ _ | refine blk_drew ?_ | refine blk_alloc ?_ _)); exact BK213.out) hg (Kd.R_ne HO246.out BK213.out (by decide))); have n1_ := Aside0.mk (Kd.R_after (ok := (fun k_ => some k_ ≠ (.slice Ao57 t247.length co57 : Value).ownBlock)) (by (with_reducible repeat (first | apply Kd.R_alloc | apply Kd.R_drewN | apply Kd.R_drew)); exact Kd.R_mono HO243.out (fun _ hk => ⟨hk.2, hk.1.2⟩)) hg hat); have n2_ := Aside0.mk (Kd.R_after (ok := (fun k_ => some k_ ≠ (.slice Ao53 t241.length co53 : Value).ownBlock)) (by (with_reducible repeat (first | apply Kd.R_alloc | apply Kd.R_drewN | apply Kd.R_drew)); exact Kd.R_mono HO249.out (fun _ hk => ⟨hk.1.2, hk.2⟩)) hg hat); have n3_ := Aside0.mk (hb); have n4_ := Aside0.mk (ho); clear BK213; clear HO243; clear HO249; clear HB; clear HO246; have BK213 := n0_; have HO243 := n1_; have HO249 := n2_; have HB := n3_; have HO252 := n4_; clear n0_ n1_ n2_ n3_ n4_; clear ho hb hg hat) | ((with_reducible refine gate_callee (f := 84) rfl ?_); refine goesL_ (some 62) rfl rfl Try.func84 (by kernel_rfl) rfl #[.int .i64 x4_31] rfl (by (try simp only [List.map_toArray, List.map_cons, List.map_nil]); first | done | rfl | (simp only [List.length_drop, List.length_take]; rfl)) ?_; (with_reducible refine (impl_word16.calls x4_31 t253 _ A39.out).mono ?_); rintro e w58 ⟨v254, rfl, ho0, hb⟩; refine ⟨_, rfl, ?_⟩; have n0_ := Aside0.mk (Kd.R_elder' (by (with_reducible repeat (first | apply Kd.R_alloc | apply Kd.R_drewN | apply Kd.R_drew)); exact HO243.out) (Kd.R_base ho0) hb); have n1_ := Aside0.mk (Kd.R_elder' (by (with_reducible repeat (first | apply Kd.R_alloc | apply Kd.R_drewN | apply Kd.R_drew)); exact HO249.out) (Kd.R_base ho0) hb); have n2_ := Aside0.mk (Kd.R_elder' (by (with_reducible repeat (first | apply Kd.R_alloc | apply Kd.R_drewN | apply Kd.R_drew)); exact HO252.out) (Kd.R_base ho0) hb); have n3_ := Aside0.mk (Kd.R_lower (Kd.R_new' (Kd.R_new' (Kd.R_new' ho0 (Kd.R_lt (by (with_reducible repeat (first | apply Kd.R_alloc | apply Kd.R_drewN | apply Kd.R_drew)); exact HO243.out))) (Kd.R_lt (by (with_reducible repeat (first | apply Kd.R_alloc | apply Kd.R_drewN | apply Kd.R_drew)); exact HO249.out))) (Kd.R_lt (by (with_reducible repeat (first | apply Kd.R_alloc | apply Kd.R_drewN | apply Kd.R_drew)); exact HO252.out))) (below_size (by repeat (first | (with_reducible first | exact HB.out | apply below_alloc | apply pw_below_drewN | apply below_drew1 | refine below_set ?_ GE213.out) | exact HB.out)))); have n4_ := Aside0.mk (blk_below (g := gb213) (o := .cells #[.int .i64 a0_0, .string a0_1, .string a0_2, .int .i64 a0_3, .int .i64 a0_4, .int .i64 a0_5, .int .i64 a0_6, .bool a0_7, .bool a0_8, .slice A0_9 l0_9.length c0_9] 67 (0, 0)) (by (with_reducible repeat (first | refine blk_drewN ?_ _ | refine blk_drew ?_ | refine blk_alloc ?_ _)); exact BK213.out) hb); have n5_ := Aside0.mk (below_step (by repeat (first | (with_reducible first | exact HB.out | apply below_alloc | apply pw_below_drewN | apply below_drew1 | refine below_set ?_ GE213.out) | exact HB.out)) hb); clear HO243; clear HO249; clear HO252; clear BK213; clear HB; have HO243 := n0_; have HO249 := n1_; have HO252 := n2_; have HO255 := n3_; have BK213 := n4_; have HB := n5_; clear n0_ n1_ n2_ n3_ n4_ n5_; (try clear hb); (try clear hb2); (try clear hk); (try clear hi); (try clear ho0); obtain ⟨Ao60, co60, eo60⟩ := Kd.R_slice HO255.out; subst eo60) | ((with_reducible refine gate_builtin (b := .append) (xs := #[.tmp 60, .tmp 62]) rfl ?_); at_builtin; refine Kd.R_append_rows (Kd.int .u8) (w0 := w) w.heap.size rfl (.tmp 60) (.tmp 62) 25 5 (.int .u8 0) 1 rfl Try.underlying25 info5 rfl (by decide) (by omega) v251 y250 t253 _ _ _ (fun k_ => some k_ ≠ (.slice Ao53 t241.length co53 : Value).ownBlock ∧ some k_ ≠ (.slice Ao57 t247.length co57 : Value).ownBlock ∧ some k_ ≠ (.slice Ao60 t253.length co60 : Value).ownBlock) (fun _ => False) rfl rfl ?aO ?aR (fun _ _ h => h) (fun _ h => h.elim) ?aF ?aB ?aS ?aL ?_; (case aR => repeat (first | exact (Kd.R_reads' HO255.out).2.2 | (with_reducible refine Kd.C_alloc ?_ _) | (with_reducible refine Kd.C_drewN ?_ _) | (with_reducible refine Kd.C_drew ?_))); (case aB => exact (by repeat (first | (with_reducible first | exact HB.out | apply below_alloc | apply pw_below_drewN | apply below_drew1 | refine below_set ?_ GE213.out) | exact HB.out))); (case aF => exact (fun k_ hk => ⟨Kd.fresh' (Kd.R_lt (by (with_reducible repeat (first | apply Kd.R_alloc | apply Kd.R_drewN | apply Kd.R_drew)); exact HO243.out)) k_ hk, Kd.fresh' (Kd.R_lt (by (with_reducible repeat (first | apply Kd.R_alloc | apply Kd.R_drewN | apply Kd.R_drew)); exact HO249.out)) k_ hk, Kd.fresh' (Kd.R_lt (by (with_reducible repeat (first | apply Kd.R_alloc | apply Kd.R_drewN | apply Kd.R_drew)); exact HO255.out)) k_ hk⟩)); (case aO => exact (by (with_reducible repeat (first | apply Kd.R_alloc | apply Kd.R_drewN | apply Kd.R_drew)); exact Kd.R_mono HO252.out (fun _ hk => ⟨hk.1.1, ⟨hk.1.2, hk.2⟩⟩))); (case aS => exact (below_size (by repeat (first | (with_reducible first | exact HB.out | apply below_alloc | apply pw_below_drewN | apply below_drew1 | refine below_set ?_ GE213.out) | exact HB.out)))); (case aL => have := LMc40.out; omega); intro v257 w59 ho hb hg hat; rw [← Ny256.out] at ho; have n0_ := Aside0.mk (blk_grown (g := gb213) (o := .cells #[.int .i64 a0_0, .string a0_1, .string a0_2, .int .i64 a0_3, .int .i64 a0_4, .int .i64 a0_5, .int .i64 a0_6, .bool a0_7, .bool a0_8, .slice A0_9 l0_9.length c0_9] 67 (0, 0)) (by (with_reducible repeat (first | refine blk_drewN ?_ _ | refine blk_drew ?_ | refine blk_alloc ?_ _)); exact BK213.out) hg (Kd.R_ne HO252.out BK213.out (by decide))); have n1_ := Aside0.mk (Kd.R_after (ok := (fun k_ => some k_ ≠ (.slice Ao57 t247.length co57 : Value).ownBlock ∧ some k_ ≠ (.slice Ao60 t253.length co60 : Value).ownBlock)) (by (with_reducible repeat (first | apply Kd.R_alloc | apply Kd.R_drewN | apply Kd.R_drew)); exact Kd.R_mono HO243.out (fun _ hk => ⟨⟨hk.1.1, hk.2⟩, hk.1.2⟩)) hg hat); have n2_ := Aside0.mk (Kd.R_after (ok := (fun k_ => some k_ ≠ (.slice Ao53 t241.length co53 : Value).ownBlock ∧ some k_ ≠ (.slice Ao60 t253.length co60 : Value).ownBlock)) (by (with_reducible repeat (first | apply Kd.R_alloc | apply Kd.R_drewN | apply Kd.R_drew)); exact Kd.R_mono HO249.out (fun _ hk => ⟨⟨hk.1.1, hk.2⟩, hk.1.2⟩)) hg hat); have n3_ := Aside0.mk (Kd.R_after (ok := (fun k_ => some k_ ≠ (.slice Ao53 t241.length co53 : Value).ownBlock ∧ some k_ ≠ (.slice Ao57 t247.length co57 : Value).ownBlock)) (by (with_reducible repeat (first | apply Kd.R_alloc | apply Kd.R_drewN | apply Kd.R_drew)); exact Kd.R_mono HO255.out (fun _ hk => ⟨⟨hk.1.1.2, hk.1.2⟩, hk.2⟩)) hg hat); have n4_ := Aside0.mk (hb); have n5_ := Aside0.mk (ho); clear BK213; clear HO243; clear HO249; clear HO255; clear HB; clear HO252; have BK213 := n0_; have HO243 := n1_; have HO249 := n2_; have HO255 := n3_; have HB := n4_; have HO258 := n5_; clear n0_ n1_ n2_ n3_ n4_ n5_; clear ho hb hg hat; have hcz61_0 : w59.cell? ⟨gb213, 0, none⟩ = some (.int .i64 a0_0) := (blk_cell BK213.out 0).trans rfl; have hcz61_1 : w59.cell? ⟨gb213, 1, none⟩ = some (.string a0_1) := (blk_cell BK213.out 1).trans rfl; have hcz61_2 : w59.cell? ⟨gb213, 2, none⟩ = some (.string a0_2) := (blk_cell BK213.out 2).trans rfl; have hcz61_3 : w59.cell? ⟨gb213, 3, none⟩ = some (.int .i64 a0_3) := (blk_cell BK213.out 3).trans rfl; have hcz61_4 : w59.cell? ⟨gb213, 4, none⟩ = some (.int .i64 a0_4) := (blk_cell BK213.out 4).trans rfl; have hcz61_5 : w59.cell? ⟨gb213, 5, none⟩ = some (.int .i64 a0_5) := (blk_cell BK213.out 5).trans rfl; have hcz61_6 : w59.cell? ⟨gb213, 6, none⟩ = some (.int .i64 a0_6) := (blk_cell BK213.out 6).trans rfl; have hcz61_7 : w59.cell? ⟨gb213, 7, none⟩ = some (.bool a0_7) := (blk_cell BK213.out 7).trans rfl; have hcz61_8 : w59.cell? ⟨gb213, 8, none⟩ = some (.bool a0_8) := (blk_cell BK213.out 8).trans rfl; have hcz61_9 : w59.cell? ⟨gb213, 9, none⟩ = some (.slice A0_9 l0_9.length c0_9) := (blk_cell BK213.out 9).trans rfl; have hfz61_0 := blk_frozen BK213.out 0; have hfz61_1 := blk_frozen BK213.out 1; have hfz61_2 := blk_frozen BK213.out 2; have hfz61_3 := blk_frozen BK213.out 3; have hfz61_4 := blk_frozen BK213.out 4; have hfz61_5 := blk_frozen BK213.out 5; have hfz61_6 := blk_frozen BK213.out 6; have hfz61_7 := blk_frozen BK213.out 7; have hfz61_8 := blk_frozen BK213.out 8; have hfz61_9 := blk_frozen BK213.out 9) | ((with_reducible refine gate_dst (N := 71) rfl ?_); refine Kd.R_lit (Kd.int .u8) _ 5 ?hg (N := 71) ?hd (xs := ([(a0_3) % 256, (a0_4) % 256, 0, 0] : List Int)) (inner := [.int .u8 ((a0_3) % 256), .int .u8 ((a0_4) % 256), .int .u8 0, .int .u8 0]) (ok := fun _ => True) (okp := fun _ => True) ?hr ?hp (fun _ hk => hk) trivial (Below.refl _ _) (Nat.le_refl _) (by simp) ?_; (case hd => rfl); (case hg => rfl); (case hr => first | (go_simp; done) | (go_simp; rfl)); (case hp => exact (Reps.one (show Kd.M (Kd.int .u8) _ _ _ ((a0_3) % 256) [.int .u8 ((a0_3) % 256)] from rfl) (Reps.one (show Kd.M (Kd.int .u8) _ _ _ ((a0_4) % 256) [.int .u8 ((a0_4) % 256)] from rfl) (Reps.one (show Kd.M (Kd.int .u8) _ _ _ 0 [.int .u8 0] from rfl) (Reps.one (show Kd.M (Kd.int .u8) _ _ _ 0 [.int .u8 0] from rfl) (Reps.none _ _)))))); intro v260 w62 ho63 hb hg_ hnew_; clear hg_ hnew_; (first | rw [← Ny259.out] at ho63 | (simp only [Int.reduceToNat] at ho63; rw [← Ny259.out] at ho63)); have n0_ := Aside0.mk (Kd.R_elder' (by (with_reducible repeat (first | apply Kd.R_alloc | apply Kd.R_drewN | apply Kd.R_drew)); exact HO243.out) (Kd.R_base ho63) hb); have n1_ := Aside0.mk (Kd.R_elder' (by (with_reducible repeat (first | apply Kd.R_alloc | apply Kd.R_drewN | apply Kd.R_drew)); exact HO249.out) (Kd.R_base ho63) hb); have n2_ := Aside0.mk (Kd.R_elder' (by (with_reducible repeat (first | apply Kd.R_alloc | apply Kd.R_drewN | apply Kd.R_drew)); exact HO255.out) (Kd.R_base ho63) hb); have n3_ := Aside0.mk (Kd.R_elder' (by (with_reducible repeat (first | apply Kd.R_alloc | apply Kd.R_drewN | apply Kd.R_drew)); exact HO258.out) (Kd.R_base ho63) hb); have n4_ := Aside0.mk (Kd.R_lower (Kd.R_new' (Kd.R_new' (Kd.R_new' (Kd.R_new' ho63 (Kd.R_lt (by (with_reducible repeat (first | apply Kd.R_alloc | apply Kd.R_drewN | apply Kd.R_drew)); exact HO243.out))) (Kd.R_lt (by (with_reducible repeat (first | apply Kd.R_alloc | apply Kd.R_drewN | apply Kd.R_drew)); exact HO249.out))) (Kd.R_lt (by (with_reducible repeat (first | apply Kd.R_alloc | apply Kd.R_drewN | apply Kd.R_drew)); exact HO255.out))) (Kd.R_lt (by (with_reducible repeat (first | apply Kd.R_alloc | apply Kd.R_drewN | apply Kd.R_drew)); exact HO258.out))) (below_size (by repeat (first | (with_reducible first | exact HB.out | apply below_alloc | apply pw_below_drewN | apply below_drew1 | refine below_set ?_ GE213.out) | exact HB.out)))); have n5_ := Aside0.mk (blk_below (g := gb213) (o := .cells #[.int .i64 a0_0, .string a0_1, .string a0_2, .int .i64 a0_3, .int .i64 a0_4, .int .i64 a0_5, .int .i64 a0_6, .bool a0_7, .bool a0_8, .slice A0_9 l0_9.length c0_9] 67 (0, 0)) (by (with_reducible repeat (first | refine blk_drewN ?_ _ | refine blk_drew ?_ | refine blk_alloc ?_ _)); exact BK213.out) hb); have n6_ := Aside0.mk (below_step (by repeat (first | (with_reducible first | exact HB.out | apply below_alloc | apply pw_below_drewN | apply below_drew1 | refine below_set ?_ GE213.out) | exact HB.out)) hb); clear HO243; clear HO249; clear HO255; clear HO258; clear BK213; clear HB; have HO243 := n0_; have HO249 := n1_; have HO255 := n2_; have HO258 := n3_; have HO261 := n4_; have BK213 := n5_; have HB := n6_; clear n0_ n1_ n2_ n3_ n4_ n5_ n6_; clear hb ho63; obtain ⟨Ao65, co65, eo65⟩ := Kd.R_slice HO261.out; subst eo65) | ((with_reducible refine gate_builtin (b := .append) (xs := #[.tmp 64, .tmp 71]) rfl ?_); at_builtin; refine Kd.R_append_rows (Kd.int .u8) (w0 := w) w.heap.size rfl (.tmp 64) (.tmp 71) 25 5 (.int .u8 0) 1 rfl Try.underlying25 info5 rfl (by decide) (by omega) v257 y256 y259 _ _ _ (fun k_ => some k_ ≠ (.slice Ao53 t241.length co53 : Value).ownBlock ∧ some k_ ≠ (.slice Ao57 t247.length co57 : Value).ownBlock ∧ some k_ ≠ (.slice Ao60 t253.length co60 : Value).ownBlock ∧ some k_ ≠ (.slice Ao65 y259.length co65 : Value).ownBlock) (fun _ => False) rfl rfl ?aO ?aR (fun _ _ h => h) (fun _ h => h.elim) ?aF ?aB ?aS ?aL ?_; (case aR => repeat (first | exact (Kd.R_reads' HO261.out).2.2 | (with_reducible refine Kd.C_alloc ?_ _) | (with_reducible refine Kd.C_drewN ?_ _) | (with_reducible refine Kd.C_drew ?_))); (case aB => exact (by repeat (first | (with_reducible first | exact HB.out | apply below_alloc | apply pw_below_drewN | apply below_drew1 | refine below_set ?_ GE213.out) | exact HB.out))); (case aF => exact (fun k_ hk => ⟨Kd.fresh' (Kd.R_lt (by (with_reducible repeat (first | apply Kd.R_alloc | apply Kd.R_drewN | apply Kd.R_drew)); exact HO243.out)) k_ hk, Kd.fresh' (Kd.R_lt (by (with_reducible repeat (first | apply Kd.R_alloc | apply Kd.R_drewN | apply Kd.R_drew)); exact HO249.out)) k_ hk, Kd.fresh' (Kd.R_lt (by (with_reducible repeat (first | apply Kd.R_alloc | apply Kd.R_drewN | apply Kd.R_drew)); exact HO255.out)) k_ hk, Kd.fresh' (Kd.R_lt (by (with_reducible repeat (first | apply Kd.R_alloc | apply Kd.R_drewN | apply Kd.R_drew)); exact HO261.out)) k_ hk⟩)); (case aO => exact (by (with_reducible repeat (first | apply Kd.R_alloc | apply Kd.R_drewN | apply Kd.R_drew)); exact Kd.R_mono HO258.out (fun _ hk => ⟨hk.1.1, ⟨hk.1.2.1, ⟨hk.1.2.2, hk.2⟩⟩⟩))); (case aS => exact (below_size (by repeat (first | (with_reducible first | exact HB.out | apply below_alloc | apply pw_below_drewN | apply below_drew1 | refine below_set ?_ GE213.out) | exact HB.out)))); (case aL => have := LMc41.out; omega); intro v263 w64 ho hb hg hat; rw [← Ny262.out] at ho; have n0_ := Aside0.mk (blk_grown (g := gb213) (o := .cells #[.int .i64 a0_0, .string a0_1, .string a0_2, .int .i64 a0_3, .int .i64 a0_4, .int .i64 a0_5, .int .i64 a0_6, .bool a0_7, .bool a0_8, .slice A0_9 l0_9.length c0_9] 67 (0, 0)) (by (with_reducible repeat (first | refine blk_drewN ?_ _ | refine blk_drew ?_ | refine blk_alloc ?_ _)); exact BK213.out) hg (Kd.R_ne HO258.out BK213.out (by decide))); have n1_ := Aside0.mk (Kd.R_after (ok := (fun k_ => some k_ ≠ (.slice Ao57 t247.length co57 : Value).ownBlock ∧ some k_ ≠ (.slice Ao60 t253.length co60 : Value).ownBlock ∧ some k_ ≠ (.slice Ao65 y259.length co65 : Value).ownBlock)) (by (with_reducible repeat (first | apply Kd.R_alloc | apply Kd.R_drewN | apply Kd.R_drew)); exact Kd.R_mono HO243.out (fun _ hk => ⟨⟨hk.1.1.1, ⟨hk.1.1.2, hk.2⟩⟩, hk.1.2⟩)) hg hat); have n2_ := Aside0.mk (Kd.R_after (ok := (fun k_ => some k_ ≠ (.slice Ao53 t241.length co53 : Value).ownBlock ∧ some k_ ≠ (.slice Ao60 t253.length co60 : Value).ownBlock ∧ some k_ ≠ (.slice Ao65 y259.length co65 : Value).ownBlock)) (by (with_reducible repeat (first | apply Kd.R_alloc | apply Kd.R_drewN | apply Kd.R_drew)); exact Kd.R_mono HO249.out (fun _ hk => ⟨⟨hk.1.1.1, ⟨hk.1.1.2, hk.2⟩⟩, hk.1.2⟩)) hg hat); have n3_ := Aside0.mk (Kd.R_after (ok := (fun k_ => some k_ ≠ (.slice Ao53 t241.length co53 : Value).ownBlock ∧ some k_ ≠ (.slice Ao57 t247.length co57 : Value).ownBlock ∧ some k_ ≠ (.slice Ao65 y259.length co65 : Value).ownBlock)) (by (with_reducible repeat (first | apply Kd.R_alloc | apply Kd.R_drewN | apply Kd.R_drew)); exact Kd.R_mono HO255.out (fun _ hk => ⟨⟨hk.1.1.1, ⟨hk.1.1.2, hk.2⟩⟩, hk.1.2⟩)) hg hat); have n4_ := Aside0.mk (Kd.R_after (ok := (fun k_ => some k_ ≠ (.slice Ao53 t241.length co53 : Value).ownBlock ∧ some k_ ≠ (.slice Ao57 t247.length co57 : Value).ownBlock ∧ some k_ ≠ (.slice Ao60 t253.length co60 : Value).ownBlock)) (by (with_reducible repeat (first | apply Kd.R_alloc | apply Kd.R_drewN | apply Kd.R_drew)); exact Kd.R_mono HO261.out (fun _ hk => ⟨⟨hk.1.1.1.2, ⟨hk.1.1.2, hk.1.2⟩⟩, hk.2⟩)) hg hat); have n5_ := Aside0.mk (hb); have n6_ := Aside0.mk (ho); clear BK213; clear HO243; clear HO249; clear HO255; clear HO261; clear HB; clear HO258; have BK213 := n0_; have HO243 := n1_; have HO249 := n2_; have HO255 := n3_; have HO261 := n4_; have HB := n5_; have HO264 := n6_; clear n0_ n1_ n2_ n3_ n4_ n5_ n6_; clear ho hb hg hat; have hcz66_0 : w64.cell? ⟨gb213, 0, none⟩ = some (.int .i64 a0_0) := (blk_cell BK213.out 0).trans rfl; have hcz66_1 : w64.cell? ⟨gb213, 1, none⟩ = some (.string a0_1) := (blk_cell BK213.out 1).trans rfl; have hcz66_2 : w64.cell? ⟨gb213, 2, none⟩ = some (.string a0_2) := (blk_cell BK213.out 2).trans rfl; have hcz66_3 : w64.cell? ⟨gb213, 3, none⟩ = some (.int .i64 a0_3) := (blk_cell BK213.out 3).trans rfl; have hcz66_4 : w64.cell? ⟨gb213, 4, none⟩ = some (.int .i64 a0_4) := (blk_cell BK213.out 4).trans rfl; have hcz66_5 : w64.cell? ⟨gb213, 5, none⟩ = some (.int .i64 a0_5) := (blk_cell BK213.out 5).trans rfl; have hcz66_6 : w64.cell? ⟨gb213, 6, none⟩ = some (.int .i64 a0_6) := (blk_cell BK213.out 6).trans rfl; have hcz66_7 : w64.cell? ⟨gb213, 7, none⟩ = some (.bool a0_7) := (blk_cell BK213.out 7).trans rfl; have hcz66_8 : w64.cell? ⟨gb213, 8, none⟩ = some (.bool a0_8) := (blk_cell BK213.out 8).trans rfl; have hcz66_9 : w64.cell? ⟨gb213, 9, none⟩ = some (.slice A0_9 l0_9.length c0_9) := (blk_cell BK213.out 9).trans rfl; have hfz66_0 := blk_frozen BK213.out 0; have hfz66_1 := blk_frozen BK213.out 1; have hfz66_2 := blk_frozen BK213.out 2; have hfz66_3 := blk_frozen BK213.out 3; have hfz66_4 := blk_frozen BK213.out 4; have hfz66_5 := blk_frozen BK213.out 5; have hfz66_6 := blk_frozen BK213.out 6; have hfz66_7 := blk_frozen BK213.out 7; have hfz66_8 := blk_frozen BK213.out 8; have hfz66_9 := blk_frozen BK213.out 9) | (at_builtin; refine Kd.R_append_str (w0 := w) w.heap.size rfl (.tmp 73) _ 25 9 5 rfl Try.underlying25 Try.underlying9 info5 v263 y262 a0_1 (fun k_ => some k_ ≠ (.slice Ao53 t241.length co53 : Value).ownBlock ∧ some k_ ≠ (.slice Ao57 t247.length co57 : Value).ownBlock ∧ some k_ ≠ (.slice Ao60 t253.length co60 : Value).ownBlock ∧ some k_ ≠ (.slice Ao65 y259.length co65 : Value).ownBlock) rfl rfl ?aF ?aO ?aB ?aS ?aL ?_; (case aB => exact (by repeat (first | (with_reducible first | exact HB.out | apply below_alloc | apply pw_below_drewN | apply below_drew1 | refine below_set ?_ GE213.out) | exact HB.out))); (case aF => exact (fun k_ hk => ⟨Kd.fresh' (Kd.R_lt (by (with_reducible repeat (first | apply Kd.R_alloc | apply Kd.R_drewN | apply Kd.R_drew)); exact HO243.out)) k_ hk, Kd.fresh' (Kd.R_lt (by (with_reducible repeat (first | apply Kd.R_alloc | apply Kd.R_drewN | apply Kd.R_drew)); exact HO249.out)) k_ hk, Kd.fresh' (Kd.R_lt (by (with_reducible repeat (first | apply Kd.R_alloc | apply Kd.R_drewN | apply Kd.R_drew)); exact HO255.out)) k_ hk, Kd.fresh' (Kd.R_lt (by (with_reducible repeat (first | apply Kd.R_alloc | apply Kd.R_drewN | apply Kd.R_drew)); exact HO261.out)) k_ hk⟩)); (case aO => exact (by (with_reducible repeat (first | apply Kd.R_alloc | apply Kd.R_drewN | apply Kd.R_drew)); exact HO264.out)); (case aS => exact (below_size (by repeat (first | (with_reducible first | exact HB.out | apply below_alloc | apply pw_below_drewN | apply below_drew1 | refine below_set ?_ GE213.out) | exact HB.out)))); (case aL => have := LMc42.out; omega); intro v266 w67 ho hb hg hat; rw [← Ny265.out] at ho; have n0_ := Aside0.mk (blk_grown (g := gb213) (o := .cells #[.int .i64 a0_0, .string a0_1, .string a0_2, .int .i64 a0_3, .int .i64 a0_4, .int .i64 a0_5, .int .i64 a0_6, .bool a0_7, .bool a0_8, .slice A0_9 l0_9.length c0_9] 67 (0, 0)) (by (with_reducible repeat (first | refine blk_drewN ?_ _ | refine blk_drew ?_ | refine blk_alloc ?_ _)); exact BK213.out) hg (Kd.R_ne HO264.out BK213.out (by decide))); have n1_ := Aside0.mk (Kd.R_after (ok := (fun k_ => some k_ ≠ (.slice Ao57 t247.length co57 : Value).ownBlock ∧ some k_ ≠ (.slice Ao60 t253.length co60 : Value).ownBlock ∧ some k_ ≠ (.slice Ao65 y259.length co65 : Value).ownBlock)) (by (with_reducible repeat (first | apply Kd.R_alloc | apply Kd.R_drewN | apply Kd.R_drew)); (first | exact HO243.out | exact Kd.R_mono HO243.out (fun _ hk => ⟨trivial, hk⟩) | exact Kd.R_mono HO243.out (fun _ hk => by simp only [and_assoc] at hk ⊢; exact hk))) hg hat); have n2_ := Aside0.mk (Kd.R_after (ok := (fun k_ => some k_ ≠ (.slice Ao53 t241.length co53 : Value).ownBlock ∧ some k_ ≠ (.slice Ao60 t253.length co60 : Value).ownBlock ∧ some k_ ≠ (.slice Ao65 y259.length co65 : Value).ownBlock)) (by (with_reducible repeat (first | apply Kd.R_alloc | apply Kd.R_drewN | apply Kd.R_drew)); (first | exact HO249.out | exact Kd.R_mono HO249.out (fun _ hk => ⟨trivial, hk⟩) | exact Kd.R_mono HO249.out (fun _ hk => by simp only [and_assoc] at hk ⊢; exact hk))) hg hat); have n3_ := Aside0.mk (Kd.R_after (ok := (fun k_ => some k_ ≠ (.slice Ao53 t241.length co53 : Value).ownBlock ∧ some k_ ≠ (.slice Ao57 t247.length co57 : Value).ownBlock ∧ some k_ ≠ (.slice Ao65 y259.length co65 : Value).ownBlock)) (by (with_reducible repeat (first | apply Kd.R_alloc | apply Kd.R_drewN | apply Kd.R_drew)); (first | exact HO255.out | exact Kd.R_mono HO255.out (fun _ hk => ⟨trivial, hk⟩) | exact Kd.R_mono HO255.out (fun _ hk => by simp only [and_assoc] at hk ⊢; exact hk))) hg hat); have n4_ := Aside0.mk (Kd.R_after (ok := (fun k_ => some k_ ≠ (.slice Ao53 t241.length co53 : Value).ownBlock ∧ some k_ ≠ (.slice Ao57 t247.length co57 : Value).ownBlock ∧ some k_ ≠ (.slice Ao60 t253.length co60 : Value).ownBlock)) (by (with_reducible repeat (first | apply Kd.R_alloc | apply Kd.R_drewN | apply Kd.R_drew)); (first | exact HO261.out | exact Kd.R_mono HO261.out (fun _ hk => ⟨trivial, hk⟩) | exact Kd.R_mono HO261.out (fun _ hk => by simp only [and_assoc] at hk ⊢; exact hk))) hg hat); have n5_ := Aside0.mk (hb); have n6_ := Aside0.mk (ho); clear BK213; clear HO243; clear HO249; clear HO255; clear HO261; clear HB; clear HO264; have BK213 := n0_; have HO243 := n1_; have HO249 := n2_; have HO255 := n3_; have HO261 := n4_; have HB := n5_; have HO267 := n6_; clear n0_ n1_ n2_ n3_ n4_ n5_ n6_; clear ho hb hg hat; have hcz68_0 : w67.cell? ⟨gb213, 0, none⟩ = some (.int .i64 a0_0) := (blk_cell BK213.out 0).trans rfl; have hcz68_1 : w67.cell? ⟨gb213, 1, none⟩ = some (.string a0_1) := (blk_cell BK213.out 1).trans rfl; have hcz68_2 : w67.cell? ⟨gb213, 2, none⟩ = some (.string a0_2) := (blk_cell BK213.out 2).trans rfl; have hcz68_3 : w67.cell? ⟨gb213, 3, none⟩ = some (.int .i64 a0_3) := (blk_cell BK213.out 3).trans rfl; have hcz68_4 : w67.cell? ⟨gb213, 4, none⟩ = some (.int .i64 a0_4) := (blk_cell BK213.out 4).trans rfl; have hcz68_5 : w67.cell? ⟨gb213, 5, none⟩ = some (.int .i64 a0_5) := (blk_cell BK213.out 5).trans rfl; have hcz68_6 : w67.cell? ⟨gb213, 6, none⟩ = some (.int .i64 a0_6) := (blk_cell BK213.out 6).trans rfl; have hcz68_7 : w67.cell? ⟨gb213, 7, none⟩ = some (.bool a0_7) := (blk_cell BK213.out 7).trans rfl; have hcz68_8 : w67.cell? ⟨gb213, 8, none⟩ = some (.bool a0_8) := (blk_cell BK213.out 8).trans rfl; have hcz68_9 : w67.cell? ⟨gb213, 9, none⟩ = some (.slice A0_9 l0_9.length c0_9) := (blk_cell BK213.out 9).trans rfl; have hfz68_0 := blk_frozen BK213.out 0; have hfz68_1 := blk_frozen BK213.out 1; have hfz68_2 := blk_frozen BK213.out 2; have hfz68_3 := blk_frozen BK213.out 3; have hfz68_4 := blk_frozen BK213.out 4; have hfz68_5 := blk_frozen BK213.out 5; have hfz68_6 := blk_frozen BK213.out 6; have hfz68_7 := blk_frozen BK213.out 7; have hfz68_8 := blk_frozen BK213.out 8; have hfz68_9 := blk_frozen BK213.out 9) | (at_builtin; refine Kd.R_append_str (w0 := w) w.heap.size rfl (.tmp 77) _ 25 9 5 rfl Try.underlying25 Try.underlying9 info5 v266 y265 a0_2 (fun k_ => some k_ ≠ (.slice Ao53 t241.length co53 : Value).ownBlock ∧ some k_ ≠ (.slice Ao57 t247.length co57 : Value).ownBlock ∧ some k_ ≠ (.slice Ao60 t253.length co60 : Value).ownBlock ∧ some k_ ≠ (.slice Ao65 y259.length co65 : Value).ownBlock) rfl rfl ?aF ?aO ?aB ?aS ?aL ?_; (case aB => exact (by repeat (first | (with_reducible first | exact HB.out | apply below_alloc | apply pw_below_drewN | apply below_drew1 | refine below_set ?_ GE213.out) | exact HB.out))); (case aF => exact (fun k_ hk => ⟨Kd.fresh' (Kd.R_lt (by (with_reducible repeat (first | apply Kd.R_alloc | apply Kd.R_drewN | apply Kd.R_drew)); exact HO243.out)) k_ hk, Kd.fresh' (Kd.R_lt (by (with_reducible repeat (first | apply Kd.R_alloc | apply Kd.R_drewN | apply Kd.R_drew)); exact HO249.out)) k_ hk, Kd.fresh' (Kd.R_lt (by (with_reducible repeat (first | apply Kd.R_alloc | apply Kd.R_drewN | apply Kd.R_drew)); exact HO255.out)) k_ hk, Kd.fresh' (Kd.R_lt (by (with_reducible repeat (first | apply Kd.R_alloc | apply Kd.R_drewN | apply Kd.R_drew)); exact HO261.out)) k_ hk⟩)); (case aO => exact (by (with_reducible repeat (first | apply Kd.R_alloc | apply Kd.R_drewN | apply Kd.R_drew)); exact HO267.out)); (case aS => exact (below_size (by repeat (first | (with_reducible first | exact HB.out | apply below_alloc | apply pw_below_drewN | apply below_drew1 | refine below_set ?_ GE213.out) | exact HB.out)))); (case aL => have := LMc43.out; omega); intro v269 w69 ho hb hg hat; rw [← Ny268.out] at ho; have n0_ := Aside0.mk (blk_grown (g := gb213) (o := .cells #[.int .i64 a0_0, .string a0_1, .string a0_2, .int .i64 a0_3, .int .i64 a0_4, .int .i64 a0_5, .int .i64 a0_6, .bool a0_7, .bool a0_8, .slice A0_9 l0_9.length c0_9] 67 (0, 0)) (by (with_reducible repeat (first | refine blk_drewN ?_ _ | refine blk_drew ?_ | refine blk_alloc ?_ _)); exact BK213.out) hg (Kd.R_ne HO267.out BK213.out (by decide))); have n1_ := Aside0.mk (Kd.R_after (ok := (fun k_ => some k_ ≠ (.slice Ao57 t247.length co57 : Value).ownBlock ∧ some k_ ≠ (.slice Ao60 t253.length co60 : Value).ownBlock ∧ some k_ ≠ (.slice Ao65 y259.length co65 : Value).ownBlock)) (by (with_reducible repeat (first | apply Kd.R_alloc | apply Kd.R_drewN | apply Kd.R_drew)); (first | exact HO243.out | exact Kd.R_mono HO243.out (fun _ hk => ⟨trivial, hk⟩) | exact Kd.R_mono HO243.out (fun _ hk => by simp only [and_assoc] at hk ⊢; exact hk))) hg hat); have n2_ := Aside0.mk (Kd.R_after (ok := (fun k_ => some k_ ≠ (.slice Ao53 t241.length co53 : Value).ownBlock ∧ some k_ ≠ (.slice Ao60 t253.length co60 : Value).ownBlock ∧ some k_ ≠ (.slice Ao65 y259.length co65 : Value).ownBlock)) (by (with_reducible repeat (first | apply Kd.R_alloc | apply Kd.R_drewN | apply Kd.R_drew)); (first | exact HO249.out | exact Kd.R_mono HO249.out (fun _ hk => ⟨trivial, hk⟩) | exact Kd.R_mono HO249.out (fun _ hk => by simp only [and_assoc] at hk ⊢; exact hk))) hg hat); have n3_ := Aside0.mk (Kd.R_after (ok := (fun k_ => some k_ ≠ (.slice Ao53 t241.length co53 : Value).ownBlock ∧ some k_ ≠ (.slice Ao57 t247.length co57 : Value).ownBlock ∧ some k_ ≠ (.slice Ao65 y259.length co65 : Value).ownBlock)) (by (with_reducible repeat (first | apply Kd.R_alloc | apply Kd.R_drewN | apply Kd.R_drew)); (first | exact HO255.out | exact Kd.R_mono HO255.out (fun _ hk => ⟨trivial, hk⟩) | exact Kd.R_mono HO255.out (fun _ hk => by simp only [and_assoc] at hk ⊢; exact hk))) hg hat); have n4_ := Aside0.mk (Kd.R_after (ok := (fun k_ => some k_ ≠ (.slice Ao53 t241.length co53 : Value).ownBlock ∧ some k_ ≠ (.slice Ao57 t247.length co57 : Value).ownBlock ∧ some k_ ≠ (.slice Ao60 t253.length co60 : Value).ownBlock)) (by (with_reducible repeat (first | apply Kd.R_alloc | apply Kd.R_drewN | apply Kd.R_drew)); (first | exact HO261.out | exact Kd.R_mono HO261.out (fun _ hk => ⟨trivial, hk⟩) | exact Kd.R_mono HO261.out (fun _ hk => by simp only [and_assoc] at hk ⊢; exact hk))) hg hat); have n5_ := Aside0.mk (hb); have n6_ := Aside0.mk (ho); clear BK213; clear HO243; clear HO249; clear HO255; clear HO261; clear HB; clear HO267; have BK213 := n0_; have HO243 := n1_; have HO249 := n2_; have HO255 := n3_; have HO261 := n4_; have HB := n5_; have HO270 := n6_; clear n0_ n1_ n2_ n3_ n4_ n5_ n6_; clear ho hb hg hat))
                            have n0_ := Aside0.mk (Kd.R_drew HO243.out)
                            have n1_ := Aside0.mk (Kd.R_drew HO249.out)
                            have n2_ := Aside0.mk (Kd.R_drew HO255.out)
                            have n3_ := Aside0.mk (Kd.R_drew HO261.out)
                            have n4_ := Aside0.mk (Kd.R_drew HO270.out)
                            have n5_ := Aside0.mk (blk_drew BK213.out)
                            have n6_ := Aside0.mk (below_drew1 HB.out)
                            clear HO243
                            clear HO249
                            clear HO255
                            clear HO261
                            clear HO270
                            clear BK213
                            clear HB
                            have HO243 := n0_
                            have HO249 := n1_
                            have HO255 := n2_
                            have HO261 := n3_
                            have HO270 := n4_
                            have BK213 := n5_
                            have HB := n6_
                            clear n0_ n1_ n2_ n3_ n4_ n5_ n6_
                            obtain ⟨Ao72, co72, eo72⟩ := Kd.R_slice HO270.out
                            (first | subst eo72 | (injection eo72 with f1_ f2_ f3_; have f4_ := f1_.symm; have f5_ := f3_.symm; clear f1_ f2_ f3_; subst f4_; subst f5_))
                            obtain ⟨go71, co71, eo71, gb71, gl71, cl71, HG71⟩ := Kd.R_form HO270.out (by have hh_ : (10 : Int) ≤ (y268.length : Int) := of_decide_eq_true (by first | (with_reducible assumption) | assumption); have hn1_ := (Kd.R_reads' HO270.out).1; omega)
                            (first | cases eo71 | (injection eo71 with ea_ en_ ec_; (first | subst ea_ | (injection ea_ with ea_; subst ea_)); subst ec_; clear en_))
                            have GB71 := Aside0.mk gb71
                            have GG71 := Aside0.mk HG71
                            clear gb71 gl71 HG71
                            have q71 : (10 : Int) ≤ ((y268.length : Int) : Int) := of_decide_eq_true (by first | (with_reducible assumption) | assumption)
                            obtain ⟨i071, hi071, _, hsz71, _⟩ := info_parts info5
                            have hroom71 : y268.length ≤ co72 := (Kd.R_reads' HO270.out).2.1
                            have hC71 : Kd.C (Kd.int .u8) _ (some ⟨go71, 0, none⟩) y268.length y268 := (Kd.R_reads' HO270.out).2.2
                            have hcut71 := cut_from (P := Try.prog) 25 5 .i64 Try.underlying25 hi071 1 hsz71 (some ⟨go71, 0, none⟩) y268.length co72 10 (by omega) q71
                            have hr71 := Kd.C_drop (m := (10 : Int).toNat) (c := co72) hC71 (by omega) hroom71
                            obtain ⟨A71, hA71⟩ : ∃ A1, A1 = (if co72 = (10 : Int).toNat then (some ⟨go71, 0, none⟩) else ((some ⟨go71, 0, none⟩) : Option Addr).map (·.add ((10 : Int).toNat * 1))) := ⟨_, rfl⟩
                            obtain ⟨c71, hc71⟩ : ∃ c1, c1 = co72 - (10 : Int).toNat := ⟨_, rfl⟩
                            have hy71 : y271.length = y268.length - (10 : Int).toNat := (by rw [Ny271.out, List.length_drop] <;> omega)
                            rw [show (y268).drop (10 : Int).toNat = y271 from Ny271.out.symm] at hr71
                            replace hr71 : Kd.C (Kd.int .u8) _ A71 y271.length y271 := (by rw [hA71]; exact hr71)
                            rw [← hy71, ← hA71, ← hc71] at hcut71
                            have HR274 := Aside0.mk hr71
                            have HC274 := Aside0.mk (show y271.length ≤ c71 from by rw [hy71, hc71]; exact Nat.sub_le_sub_right hroom71 _)
                            clear hr71 hC71 hroom71 hi071 hsz71 hc71
                            have KY71 := Aside0.mk hy71
                            have KA71 := Aside0.mk hA71
                            clear hy71 hA71
                            have KL71 := Aside0.mk (show 10 ≤ y268.length from by omega)
                            replace q71 := eq_true q71
                            refine start_ (n := 6) (S := fun w' => True) (ds := []) #[false, false, false, false, false, false] (by kernel_rfl) rfl rfl trivial (fun hHeld => ?_)
                            generalize w69.drew = w70 at HO243 HO249 HO255 HO261 HO270 BK213 HB GG71 HR274 hHeld ⊢
                            refine pure_ (i := 0) (N := some 81) (v := ?_) (a' := ?_) #[true, false, false, false, false, false] rfl rfl (by kernel_rfl) (fun _ _ _ h => h) (Or.inl ⟨by rfl, ?_⟩) ?_ ?_
                            rotate_left
                            · intro w'
                              go_simp
                              with_reducible rfl
                            rotate_left
                            · simp only [Act.put, List.setIfInBounds_toArray, List.set_cons_zero, List.set_cons_succ, i64_w, i32_w]
                              rfl
                            refine pure_ (i := 1) (N := some 82) (v := ?_) (a' := ?_) #[true, true, false, false, false, false] rfl rfl (by kernel_rfl) (fun _ _ _ h => h) (Or.inl ⟨by rfl, ?_⟩) ?_ ?_
                            rotate_left
                            · intro w'
                              go_simp
                              with_reducible rfl
                            rotate_left
                            · simp only [Act.put, List.setIfInBounds_toArray, List.set_cons_zero, List.set_cons_succ, i64_w, i32_w]
                              rfl
                            refine pure_ (i := 2) (N := some 83) (v := ?_) (a' := ?_) #[true, true, true, false, false, false] rfl rfl (by kernel_rfl) (fun _ _ _ h => h) (Or.inl ⟨by rfl, ?_⟩) ?_ ?_
                            rotate_left
                            · intro w'
                              go_simp
                              with_reducible rfl
                            rotate_left
                            · simp only [Act.put, List.setIfInBounds_toArray, List.set_cons_zero, List.set_cons_succ, i64_w, i32_w]
                              rfl
                            refine one_ (i := 3) (N := some 84) #[true, true, true, true, false, false] rfl rfl (by kernel_rfl) (by decide) (fun K hK => ?_)
                            refine goes_ Try.func85 (by kernel_rfl) rfl #[.slice (some ⟨go71, 0, none⟩) y268.length co72] (by rfl) rfl rfl (by (try simp only [List.map_toArray, List.map_cons, List.map_nil]); first | done | rfl | (simp only [List.length_drop, List.length_take]; rfl)) ?_
                            with_reducible refine (impl_checkSum.calls kj31 _ _ y268 t275 _ ?side1 ?side2 A45.out).mono ?_
                            (case side1 => repeat (first | exact (Kd.R_reads' HO270.out).2.2 | (with_reducible refine Kd.C_alloc ?_ _) | (with_reducible refine Kd.C_drewN ?_ _) | (with_reducible refine Kd.C_drew ?_)))
                            (case side2 => exact (Kd.R_reads' HO270.out).2.1)
                            rintro e w' ⟨rfl, ⟨nd, rfl⟩⟩
                            refine ⟨_, rfl, ?_⟩
                            refine hK.out _ _ trivial (fun hHeld => ?_)
                            clear hK K
                            refine norm_ (a' := ?_) ?_ ?_
                            rotate_left
                            · show Act.put _ (some 84) _ = _
                              simp only [Act.put, List.setIfInBounds_toArray, List.set_cons_zero, List.set_cons_succ, i64_w, i32_w]
                              rfl
                            refine one_ (i := 4) (N := some 85) #[true, true, true, true, true, false] rfl rfl (by kernel_rfl) (by decide) (fun K hK => ?_)
                            refine goes_ Try.func84 (by kernel_rfl) rfl #[.int .i64 t275] (by rfl) rfl rfl (by (try simp only [List.map_toArray, List.map_cons, List.map_nil]); first | done | rfl | (simp only [List.length_drop, List.length_take]; rfl)) ?_
                            with_reducible refine (impl_word16.calls t275 t276 _ A46.out).mono ?_
                            rintro e w73 ⟨v277, rfl, ho0, hb⟩
                            refine ⟨_, rfl, ?_⟩
                            have n0_ := Aside0.mk (Kd.R_elder' (by (with_reducible repeat (first | apply Kd.R_alloc | apply Kd.R_drewN | apply Kd.R_drew)); exact HO243.out) (Kd.R_base ho0) hb)
                            have n1_ := Aside0.mk (Kd.R_elder' (by (with_reducible repeat (first | apply Kd.R_alloc | apply Kd.R_drewN | apply Kd.R_drew)); exact HO249.out) (Kd.R_base ho0) hb)
                            have n2_ := Aside0.mk (Kd.R_elder' (by (with_reducible repeat (first | apply Kd.R_alloc | apply Kd.R_drewN | apply Kd.R_drew)); exact HO255.out) (Kd.R_base ho0) hb)
                            have n3_ := Aside0.mk (Kd.R_elder' (by (with_reducible repeat (first | apply Kd.R_alloc | apply Kd.R_drewN | apply Kd.R_drew)); exact HO261.out) (Kd.R_base ho0) hb)
                            have n4_ := Aside0.mk (Kd.R_elder' (by (with_reducible repeat (first | apply Kd.R_alloc | apply Kd.R_drewN | apply Kd.R_drew)); exact HO270.out) (Kd.R_base ho0) hb)
                            have n5_ := Aside0.mk (Kd.R_lower (Kd.R_new' (Kd.R_new' (Kd.R_new' (Kd.R_new' (Kd.R_new' ho0 (Kd.R_lt (by (with_reducible repeat (first | apply Kd.R_alloc | apply Kd.R_drewN | apply Kd.R_drew)); exact HO243.out))) (Kd.R_lt (by (with_reducible repeat (first | apply Kd.R_alloc | apply Kd.R_drewN | apply Kd.R_drew)); exact HO249.out))) (Kd.R_lt (by (with_reducible repeat (first | apply Kd.R_alloc | apply Kd.R_drewN | apply Kd.R_drew)); exact HO255.out))) (Kd.R_lt (by (with_reducible repeat (first | apply Kd.R_alloc | apply Kd.R_drewN | apply Kd.R_drew)); exact HO261.out))) (Kd.R_lt (by (with_reducible repeat (first | apply Kd.R_alloc | apply Kd.R_drewN | apply Kd.R_drew)); exact HO270.out))) (below_size (by repeat (first | (with_reducible first | exact HB.out | apply below_alloc | apply pw_below_drewN | apply below_drew1 | refine below_set ?_ GE213.out) | exact HB.out))))
                            have n6_ := Aside0.mk (blk_below (g := gb213) (o := .cells #[.int .i64 a0_0, .string a0_1, .string a0_2, .int .i64 a0_3, .int .i64 a0_4, .int .i64 a0_5, .int .i64 a0_6, .bool a0_7, .bool a0_8, .slice A0_9 l0_9.length c0_9] 67 (0, 0)) (by (with_reducible repeat (first | refine blk_drewN ?_ _ | refine blk_drew ?_ | refine blk_alloc ?_ _)); exact BK213.out) hb)
                            have n7_ := Aside0.mk (Kd.C_below (by repeat (first | (with_reducible exact HR274.out) | (with_reducible refine Kd.C_alloc ?_ _) | (with_reducible refine Kd.C_drewN ?_ _) | (with_reducible refine Kd.C_drew ?_) | exact HR274.out)) hb)
                            have n8_ := Aside0.mk (below_step (by repeat (first | (with_reducible first | exact HB.out | apply below_alloc | apply pw_below_drewN | apply below_drew1 | refine below_set ?_ GE213.out) | exact HB.out)) hb)
                            clear HO243
                            clear HO249
                            clear HO255
                            clear HO261
                            clear HO270
                            clear BK213
                            clear HR274
                            clear HB
                            have HO243 := n0_
                            have HO249 := n1_
                            have HO255 := n2_
                            have HO261 := n3_
                            have HO270 := n4_
                            have HO278 := n5_
                            have BK213 := n6_
                            have HR274 := n7_
                            have HB := n8_
                            clear n0_ n1_ n2_ n3_ n4_ n5_ n6_ n7_ n8_
                            (try clear hb)
                            (try clear hb2)
                            (try clear hk)
                            (try clear hi)
                            (try clear ho0)
                            obtain ⟨Ao76, co76, eo76⟩ := Kd.R_slice HO278.out
                            (first | subst eo76 | (injection eo76 with f1_ f2_ f3_; have f4_ := f1_.symm; have f5_ := f3_.symm; clear f1_ f2_ f3_; subst f4_; subst f5_))
                            have n_ := Aside0.mk (Kd.R_mono (ok' := (fun k_ => some k_ ≠ (.slice Ao53 t241.length co53 : Value).ownBlock ∧ some k_ ≠ (.slice Ao57 t247.length co57 : Value).ownBlock ∧ some k_ ≠ (.slice Ao60 t253.length co60 : Value).ownBlock ∧ some k_ ≠ (.slice Ao65 y259.length co65 : Value).ownBlock ∧ some k_ ≠ (.slice Ao76 t276.length co76 : Value).ownBlock)) HO270.out (fun k_ hk => ⟨hk.1.1, ⟨hk.1.2.1, ⟨hk.1.2.2.1, ⟨hk.1.2.2.2, hk.2⟩⟩⟩⟩))
                            clear HO270
                            have HO270 := n_
                            clear n_
                            refine hK.out _ _ trivial (fun hHeld => ?_)
                            clear hK K
                            refine norm_ (a' := ?_) ?_ ?_
                            rotate_left
                            · show Act.put _ (some 85) _ = _
                              simp only [Act.put, List.setIfInBounds_toArray, List.set_cons_zero, List.set_cons_succ, i64_w, i32_w]
                              rfl
                            refine one_ (i := 5) (N := some 86) #[true, true, true, true, true, true] rfl rfl (by kernel_rfl) (by decide) (fun K hK => ?_)
                            have hh_ : (10 : Int) ≤ (y268.length : Int) := of_decide_eq_true (by first | (with_reducible assumption) | assumption)
                            have hn1_ := (Kd.R_reads' HO270.out).1
                            refine Kd.R_copycut_step (w0 := w) w.heap.size (by rfl) (.tmp 82) (.tmp 85) 25 25 5 rfl Try.underlying25 (by kernel_rfl) (g := go71) (n := y268.length) (c := co72) (ys := t276) (10 : Int).toNat rfl rfl ?hA ?hm (by (with_reducible repeat (first | apply Kd.R_alloc | apply Kd.R_drewN | apply Kd.R_drew)); exact HO270.out) ?aR ?hk (by repeat (first | (with_reducible first | exact HB.out | apply below_alloc | apply pw_below_drewN | apply below_drew1 | refine below_set ?_ GE213.out) | exact HB.out)) (below_size (by repeat (first | (with_reducible first | exact HB.out | apply below_alloc | apply pw_below_drewN | apply below_drew1 | refine below_set ?_ GE213.out) | exact HB.out))) ?_
                            (case aR => repeat (first | exact (Kd.R_reads' HO278.out).2.2 | (with_reducible refine Kd.C_alloc ?_ _) | (with_reducible refine Kd.C_drewN ?_ _) | (with_reducible refine Kd.C_drew ?_)))
                            (case hA => exact KA71.out)
                            (case hm => exact KY71.out)
                            (case hk => omega)
                            intro w74 ho hb hg
                            clear hh_ hn1_
                            rw [← Ny279.out] at ho
                            have n0_ := Aside0.mk (blk_grown (g := gb213) (o := .cells #[.int .i64 a0_0, .string a0_1, .string a0_2, .int .i64 a0_3, .int .i64 a0_4, .int .i64 a0_5, .int .i64 a0_6, .bool a0_7, .bool a0_8, .slice A0_9 l0_9.length c0_9] 67 (0, 0)) (by (with_reducible repeat (first | refine blk_drewN ?_ _ | refine blk_drew ?_ | refine blk_alloc ?_ _)); exact BK213.out) hg (Kd.R_ne HO270.out BK213.out (by decide)))
                            have n1_ := Aside0.mk (Kd.R_after (v := (.slice (some ⟨go71, 0, none⟩) y268.length co72)) (v1 := .slice (some ⟨go71, 0, none⟩) y268.length co72) (ok := (fun k_ => some k_ ≠ (.slice Ao57 t247.length co57 : Value).ownBlock ∧ some k_ ≠ (.slice Ao60 t253.length co60 : Value).ownBlock ∧ some k_ ≠ (.slice Ao65 y259.length co65 : Value).ownBlock ∧ some k_ ≠ (.slice Ao76 t276.length co76 : Value).ownBlock)) (by (with_reducible repeat (first | apply Kd.R_alloc | apply Kd.R_drewN | apply Kd.R_drew)); exact Kd.R_mono HO243.out (fun _ hk => ⟨⟨hk.1.1.1, ⟨hk.1.1.2.1, ⟨hk.1.1.2.2, hk.2⟩⟩⟩, hk.1.2⟩)) hg (.inl rfl))
                            have n2_ := Aside0.mk (Kd.R_after (v := (.slice (some ⟨go71, 0, none⟩) y268.length co72)) (v1 := .slice (some ⟨go71, 0, none⟩) y268.length co72) (ok := (fun k_ => some k_ ≠ (.slice Ao53 t241.length co53 : Value).ownBlock ∧ some k_ ≠ (.slice Ao60 t253.length co60 : Value).ownBlock ∧ some k_ ≠ (.slice Ao65 y259.length co65 : Value).ownBlock ∧ some k_ ≠ (.slice Ao76 t276.length co76 : Value).ownBlock)) (by (with_reducible repeat (first | apply Kd.R_alloc | apply Kd.R_drewN | apply Kd.R_drew)); exact Kd.R_mono HO249.out (fun _ hk => ⟨⟨hk.1.1.1, ⟨hk.1.1.2.1, ⟨hk.1.1.2.2, hk.2⟩⟩⟩, hk.1.2⟩)) hg (.inl rfl))
                            have n3_ := Aside0.mk (Kd.R_after (v := (.slice (some ⟨go71, 0, none⟩) y268.length co72)) (v1 := .slice (some ⟨go71, 0, none⟩) y268.length co72) (ok := (fun k_ => some k_ ≠ (.slice Ao53 t241.length co53 : Value).ownBlock ∧ some k_ ≠ (.slice Ao57 t247.length co57 : Value).ownBlock ∧ some k_ ≠ (.slice Ao65 y259.length co65 : Value).ownBlock ∧ some k_ ≠ (.slice Ao76 t276.length co76 : Value).ownBlock)) (by (with_reducible repeat (first | apply Kd.R_alloc | apply Kd.R_drewN | apply Kd.R_drew)); exact Kd.R_mono HO255.out (fun _ hk => ⟨⟨hk.1.1.1, ⟨hk.1.1.2.1, ⟨hk.1.1.2.2, hk.2⟩⟩⟩, hk.1.2⟩)) hg (.inl rfl))
                            have n4_ := Aside0.mk (Kd.R_after (v := (.slice (some ⟨go71, 0, none⟩) y268.length co72)) (v1 := .slice (some ⟨go71, 0, none⟩) y268.length co72) (ok := (fun k_ => some k_ ≠ (.slice Ao53 t241.length co53 : Value).ownBlock ∧ some k_ ≠ (.slice Ao57 t247.length co57 : Value).ownBlock ∧ some k_ ≠ (.slice Ao60 t253.length co60 : Value).ownBlock ∧ some k_ ≠ (.slice Ao76 t276.length co76 : Value).ownBlock)) (by (with_reducible repeat (first | apply Kd.R_alloc | apply Kd.R_drewN | apply Kd.R_drew)); exact Kd.R_mono HO261.out (fun _ hk => ⟨⟨hk.1.1.1, ⟨hk.1.1.2.1, ⟨hk.1.1.2.2, hk.2⟩⟩⟩, hk.1.2⟩)) hg (.inl rfl))
                            have n5_ := Aside0.mk (ho)
                            have n6_ := Aside0.mk (Kd.R_after (v := (.slice (some ⟨go71, 0, none⟩) y268.length co72)) (v1 := .slice (some ⟨go71, 0, none⟩) y268.length co72) (ok := (fun k_ => some k_ ≠ (.slice Ao53 t241.length co53 : Value).ownBlock ∧ some k_ ≠ (.slice Ao57 t247.length co57 : Value).ownBlock ∧ some k_ ≠ (.slice Ao60 t253.length co60 : Value).ownBlock ∧ some k_ ≠ (.slice Ao65 y259.length co65 : Value).ownBlock)) (by (with_reducible repeat (first | apply Kd.R_alloc | apply Kd.R_drewN | apply Kd.R_drew)); exact Kd.R_mono HO278.out (fun _ hk => ⟨⟨hk.1.1.1.1.2, ⟨hk.1.1.1.2, ⟨hk.1.1.2, hk.1.2⟩⟩⟩, hk.2⟩)) hg (.inl rfl))
                            have n7_ := Aside0.mk (hb)
                            clear BK213
                            clear HO243
                            clear HO249
                            clear HO255
                            clear HO261
                            clear HO270
                            clear HO278
                            clear HB
                            have BK213 := n0_
                            have HO243 := n1_
                            have HO249 := n2_
                            have HO255 := n3_
                            have HO261 := n4_
                            have HO270 := n5_
                            have HO278 := n6_
                            have HB := n7_
                            clear n0_ n1_ n2_ n3_ n4_ n5_ n6_ n7_
                            clear ho hb hg
                            refine hK.out _ _ trivial (fun hHeld => ?_)
                            clear hK K
                            refine norm_ (a' := ?_) ?_ ?_
                            rotate_left
                            · show Act.put _ (some 86) _ = _
                              simp only [Act.put, List.setIfInBounds_toArray, List.set_cons_zero, List.set_cons_succ, i64_w, i32_w]
                              rfl
                            refine done_ (by kernel_rfl) ?_
                            have hcz77_0 : w74.cell? ⟨gb213, 0, none⟩ = some (.int .i64 a0_0) := (blk_cell BK213.out 0).trans rfl
                            have hcz77_1 : w74.cell? ⟨gb213, 1, none⟩ = some (.string a0_1) := (blk_cell BK213.out 1).trans rfl
                            have hcz77_2 : w74.cell? ⟨gb213, 2, none⟩ = some (.string a0_2) := (blk_cell BK213.out 2).trans rfl
                            have hcz77_3 : w74.cell? ⟨gb213, 3, none⟩ = some (.int .i64 a0_3) := (blk_cell BK213.out 3).trans rfl
                            have hcz77_4 : w74.cell? ⟨gb213, 4, none⟩ = some (.int .i64 a0_4) := (blk_cell BK213.out 4).trans rfl
                            have hcz77_5 : w74.cell? ⟨gb213, 5, none⟩ = some (.int .i64 a0_5) := (blk_cell BK213.out 5).trans rfl
                            have hcz77_6 : w74.cell? ⟨gb213, 6, none⟩ = some (.int .i64 a0_6) := (blk_cell BK213.out 6).trans rfl
                            have hcz77_7 : w74.cell? ⟨gb213, 7, none⟩ = some (.bool a0_7) := (blk_cell BK213.out 7).trans rfl
                            have hcz77_8 : w74.cell? ⟨gb213, 8, none⟩ = some (.bool a0_8) := (blk_cell BK213.out 8).trans rfl
                            have hcz77_9 : w74.cell? ⟨gb213, 9, none⟩ = some (.slice A0_9 l0_9.length c0_9) := (blk_cell BK213.out 9).trans rfl
                            have hfz77_0 := blk_frozen BK213.out 0
                            have hfz77_1 := blk_frozen BK213.out 1
                            have hfz77_2 := blk_frozen BK213.out 2
                            have hfz77_3 := blk_frozen BK213.out 3
                            have hfz77_4 := blk_frozen BK213.out 4
                            have hfz77_5 := blk_frozen BK213.out 5
                            have hfz77_6 := blk_frozen BK213.out 6
                            have hfz77_7 := blk_frozen BK213.out 7
                            have hfz77_8 := blk_frozen BK213.out 8
                            have hfz77_9 := blk_frozen BK213.out 9
                            try go_wp2_with (first | ((with_reducible refine gate_builtin (b := .append) (xs := #[.tmp 87, .tmp 89]) rfl ?_); at_builtin; refine Kd.R_append_rows (Kd.int .u8) (w0 := w) w.heap.size rfl (.tmp 87) (.tmp 89) 25 5 (.int .u8 0) 1 rfl Try.underlying25 info5 rfl (by decide) (by omega) (.slice (some ⟨go71, 0, none⟩) y268.length co72) y279 l0_9 _ _ _ (fun k_ => some k_ ≠ (.slice Ao53 t241.length co53 : Value).ownBlock ∧ some k_ ≠ (.slice Ao57 t247.length co57 : Value).ownBlock ∧ some k_ ≠ (.slice Ao60 t253.length co60 : Value).ownBlock ∧ some k_ ≠ (.slice Ao65 y259.length co65 : Value).ownBlock ∧ some k_ ≠ (.slice Ao76 t276.length co76 : Value).ownBlock) (fun _ => False) rfl rfl ?aO ?aR (fun _ _ h => h) (fun _ h => h.elim) ?aF ?aB ?aS ?aL ?_; (case aR => repeat (first | exact (Kd.C_below HR0_9.out HB.out) | (with_reducible refine Kd.C_alloc ?_ _) | (with_reducible refine Kd.C_drewN ?_ _) | (with_reducible refine Kd.C_drew ?_))); (case aB => exact (by repeat (first | (with_reducible first | exact HB.out | apply below_alloc | apply pw_below_drewN | apply below_drew1 | refine below_set ?_ GE213.out) | exact HB.out))); (case aF => exact (fun k_ hk => ⟨Kd.fresh' (Kd.R_lt (by (with_reducible repeat (first | apply Kd.R_alloc | apply Kd.R_drewN | apply Kd.R_drew)); exact HO243.out)) k_ hk, Kd.fresh' (Kd.R_lt (by (with_reducible repeat (first | apply Kd.R_alloc | apply Kd.R_drewN | apply Kd.R_drew)); exact HO249.out)) k_ hk, Kd.fresh' (Kd.R_lt (by (with_reducible repeat (first | apply Kd.R_alloc | apply Kd.R_drewN | apply Kd.R_drew)); exact HO255.out)) k_ hk, Kd.fresh' (Kd.R_lt (by (with_reducible repeat (first | apply Kd.R_alloc | apply Kd.R_drewN | apply Kd.R_drew)); exact HO261.out)) k_ hk, Kd.fresh' (Kd.R_lt (by (with_reducible repeat (first | apply Kd.R_alloc | apply Kd.R_drewN | apply Kd.R_drew)); exact HO278.out)) k_ hk⟩)); (case aO => exact (by (with_reducible repeat (first | apply Kd.R_alloc | apply Kd.R_drewN | apply Kd.R_drew)); exact HO270.out)); (case aS => exact (below_size (by repeat (first | (with_reducible first | exact HB.out | apply below_alloc | apply pw_below_drewN | apply below_drew1 | refine below_set ?_ GE213.out) | exact HB.out)))); (case aL => have := LMc47.out; omega); intro v281 w78 ho hb hg hat; rw [← Ny280.out] at ho; have n0_ := Aside0.mk (blk_grown (g := gb213) (o := .cells #[.int .i64 a0_0, .string a0_1, .string a0_2, .int .i64 a0_3, .int .i64 a0_4, .int .i64 a0_5, .int .i64 a0_6, .bool a0_7, .bool a0_8, .slice A0_9 l0_9.length c0_9] 67 (0, 0)) (by (with_reducible repeat (first | refine blk_drewN ?_ _ | refine blk_drew ?_ | refine blk_alloc ?_ _)); exact BK213.out) hg (Kd.R_ne HO270.out BK213.out (by decide))); have n1_ := Aside0.mk (Kd.R_after (ok := (fun k_ => some k_ ≠ (.slice Ao57 t247.length co57 : Value).ownBlock ∧ some k_ ≠ (.slice Ao60 t253.length co60 : Value).ownBlock ∧ some k_ ≠ (.slice Ao65 y259.length co65 : Value).ownBlock ∧ some k_ ≠ (.slice Ao76 t276.length co76 : Value).ownBlock)) (by (with_reducible repeat (first | apply Kd.R_alloc | apply Kd.R_drewN | apply Kd.R_drew)); (first | exact HO243.out | exact Kd.R_mono HO243.out (fun _ hk => ⟨trivial, hk⟩) | exact Kd.R_mono HO243.out (fun _ hk => by simp only [and_assoc] at hk ⊢; exact hk))) hg hat); have n2_ := Aside0.mk (Kd.R_after (ok := (fun k_ => some k_ ≠ (.slice Ao53 t241.length co53 : Value).ownBlock ∧ some k_ ≠ (.slice Ao60 t253.length co60 : Value).ownBlock ∧ some k_ ≠ (.slice Ao65 y259.length co65 : Value).ownBlock ∧ some k_ ≠ (.slice Ao76 t276.length co76 : Value).ownBlock)) (by (with_reducible repeat (first | apply Kd.R_alloc | apply Kd.R_drewN | apply Kd.R_drew)); (first | exact HO249.out | exact Kd.R_mono HO249.out (fun _ hk => ⟨trivial, hk⟩) | exact Kd.R_mono HO249.out (fun _ hk => by simp only [and_assoc] at hk ⊢; exact hk))) hg hat); have n3_ := Aside0.mk (Kd.R_after (ok := (fun k_ => some k_ ≠ (.slice Ao53 t241.length co53 : Value).ownBlock ∧ some k_ ≠ (.slice Ao57 t247.length co57 : Value).ownBlock ∧ some k_ ≠ (.slice Ao65 y259.length co65 : Value).ownBlock ∧ some k_ ≠ (.slice Ao76 t276.length co76 : Value).ownBlock)) (by (with_reducible repeat (first | apply Kd.R_alloc | apply Kd.R_drewN | apply Kd.R_drew)); (first | exact HO255.out | exact Kd.R_mono HO255.out (fun _ hk => ⟨trivial, hk⟩) | exact Kd.R_mono HO255.out (fun _ hk => by simp only [and_assoc] at hk ⊢; exact hk))) hg hat); have n4_ := Aside0.mk (Kd.R_after (ok := (fun k_ => some k_ ≠ (.slice Ao53 t241.length co53 : Value).ownBlock ∧ some k_ ≠ (.slice Ao57 t247.length co57 : Value).ownBlock ∧ some k_ ≠ (.slice Ao60 t253.length co60 : Value).ownBlock ∧ some k_ ≠ (.slice Ao76 t276.length co76 : Value).ownBlock)) (by (with_reducible repeat (first | apply Kd.R_alloc | apply Kd.R_drewN | apply Kd.R_drew)); (first | exact HO261.out | exact Kd.R_mono HO261.out (fun _ hk => ⟨trivial, hk⟩) | exact Kd.R_mono HO261.out (fun _ hk => by simp only [and_assoc] at hk ⊢; exact hk))) hg hat); have n5_ := Aside0.mk (Kd.R_after (ok := (fun k_ => some k_ ≠ (.slice Ao53 t241.length co53 : Value).ownBlock ∧ some k_ ≠ (.slice Ao57 t247.length co57 : Value).ownBlock ∧ some k_ ≠ (.slice Ao60 t253.length co60 : Value).ownBlock ∧ some k_ ≠ (.slice Ao65 y259.length co65 : Value).ownBlock)) (by (with_reducible repeat (first | apply Kd.R_alloc | apply Kd.R_drewN | apply Kd.R_drew)); (first | exact HO278.out | exact Kd.R_mono HO278.out (fun _ hk => ⟨trivial, hk⟩) | exact Kd.R_mono HO278.out (fun _ hk => by simp only [and_assoc] at hk ⊢; exact hk))) hg hat); have n6_ := Aside0.mk (hb); have n7_ := Aside0.mk (ho); clear BK213; clear HO243; clear HO249; clear HO255; clear HO261; clear HO278; clear HB; clear HO270; have BK213 := n0_; have HO243 := n1_; have HO249 := n2_; have HO255 := n3_; have HO261 := n4_; have HO278 := n5_; have HB := n6_; have HO282 := n7_; clear n0_ n1_ n2_ n3_ n4_ n5_ n6_ n7_; clear ho hb hg hat))
                            go_ret
                            exact ⟨_, by first | rfl | (simp [errW_none, errW_some] <;> rfl) | (simp [*, errW_none, errW_some] <;> rfl), by (with_reducible repeat (first | apply Kd.R_alloc | apply Kd.R_drewN | apply Kd.R_drew)); exact Kd.R_mono HO282.out (fun _ hk => trivial), by repeat (first | (with_reducible first | exact HB.out | apply below_alloc | apply pw_below_drewN | apply below_drew1 | refine below_set ?_ GE213.out) | exact HB.out)⟩
                          · rw [if_neg c47] at H
                            exact absurd H (by simp)
                        · rw [if_neg c44] at H
                          exact absurd H (by simp)
                      · rw [if_neg c43] at H
                        exact absurd H (by simp)
                    · rw [if_neg c42] at H
                      exact absurd H (by simp)
                  · rw [if_neg c41] at H
                    exact absurd H (by simp)
                · rw [if_neg c40] at H
                  exact absurd H (by simp)
              · rw [if_neg c38] at H
                exact absurd H (by simp)
            · rw [if_neg c36] at H
              exact absurd H (by simp)

end Go.Proofs.Ytjfpkfophfelmaa.QFnExactPacketBytes

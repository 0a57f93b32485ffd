-- written by a program of this session
import Derived.Test.YthknoffionodmaaVShort
import Derived.Test.YthknoffionodmaaQFnExactNodeOKx0
import Derived.Test.YthknoffionodmaaQFnExactNodeOKx2
import Derived.Test.YthknoffionodmaaQFnExactNodeOKx5
import Derived.Test.YthknoffionodmaaQFnExactNodeOKx6
namespace Go.Proofs.Ythknoffionodmaa.QFnExactNodeOK
open Go.RowKit Go.Proofs.YthknoffionodmaaV.PrintWords Go.Proofs.YthknoffionodmaaV.PrintLast Go.Proofs.YthknoffionodmaaV.PrintMore
attribute [local go_sem] max2_int min2_int max_two min_two max_three min_three max_four min_four   -- for this text's walks alone
set_option linter.unusedVariables false
set_option linter.unusedSimpArgs false

/-! ### spec_NodeOK: function 75 -/
mutual
def spec_NodeOK.j0 : Nat → Bool → ByteArray → Bool → Int → Int → List (S90) → ByteArray → Bool → Int → Int → List (S90) → List ByteArray → List Int → Option (Bool)
  | 0, _, _, _, _, _, _, _, _, _, _, _, _, _ => none
  | k + 1, x48, x134000, x134001, x134002, x134003, x134004, x134005, x134006, x134007, x134008, x134009, x134010, x134011 => if x48 = true then (some false) else (spec_NodeOK.l0 k 0 x134000 x134001 x134002 x134003 x134004 x134005 x134006 x134007 x134008 x134009 x134010 x134011)
def spec_NodeOK.l0 : Nat → Int → ByteArray → Bool → Int → Int → List (S90) → ByteArray → Bool → Int → Int → List (S90) → List ByteArray → List Int → Option (Bool)
  | 0, _, _, _, _, _, _, _, _, _, _, _, _, _ => none
  | k + 1, x3, x134000, x134001, x134002, x134003, x134004, x134005, x134006, x134007, x134008, x134009, x134010, x134011 => if x3 < (x134011.length : Int) then (if 0 ≤ x3 then ((spec_l01In.f (rd x134011 x3) 576 1520).bind fun t140 => (if t140 = true then (spec_NodeOK.l0 k (wrap64 (x3 + 1)) x134000 x134001 x134002 x134003 x134004 x134005 x134006 x134007 x134008 x134009 x134010 x134011) else (some false))) else (none)) else (spec_NodeOK.l1 k false 0 x134000 x134001 x134002 x134003 x134004 x134005 x134006 x134007 x134008 x134009 x134010 x134011)
def spec_NodeOK.l1 : Nat → Bool → Int → ByteArray → Bool → Int → Int → List (S90) → ByteArray → Bool → Int → Int → List (S90) → List ByteArray → List Int → Option (Bool)
  | 0, _, _, _, _, _, _, _, _, _, _, _, _, _, _ => none
  | k + 1, x4, x5, x134000, x134001, x134002, x134003, x134004, x134005, x134006, x134007, x134008, x134009, x134010, x134011 => if x5 < (x134010.length : Int) then (if 0 ≤ x5 then (if ((rdOf ByteArray.empty x134010 x5).size : Int) = 4 then (if x4 = true then (spec_NodeOK.l1 k true (wrap64 (x5 + 1)) x134000 x134001 x134002 x134003 x134004 x134005 x134006 x134007 x134008 x134009 x134010 x134011) else (spec_NodeOK.l1 k (((rdOf ByteArray.empty x134010 x5).size : Int) == 16) (wrap64 (x5 + 1)) x134000 x134001 x134002 x134003 x134004 x134005 x134006 x134007 x134008 x134009 x134010 x134011)) else (if ((rdOf ByteArray.empty x134010 x5).size : Int) = 16 then (if x4 = true then (spec_NodeOK.l1 k true (wrap64 (x5 + 1)) x134000 x134001 x134002 x134003 x134004 x134005 x134006 x134007 x134008 x134009 x134010 x134011) else (spec_NodeOK.l1 k true (wrap64 (x5 + 1)) x134000 x134001 x134002 x134003 x134004 x134005 x134006 x134007 x134008 x134009 x134010 x134011)) else (some false))) else (none)) else (some x4)
end
def spec_NodeOK.f (k : Nat) (a0_0 : ByteArray) (a0_1 : Bool) (a0_2 : Int) (a0_3 : Int) (l0_4 : List (S90)) (a0_5 : ByteArray) (a0_6 : Bool) (a0_7 : Int) (a0_8 : Int) (l0_9 : List (S90)) (l0_10 : List ByteArray) (l0_11 : List Int) : Option (Bool) := (spec_TrieOK.f k a0_0 a0_1 a0_2 a0_3 l0_4).bind fun t134 => (if t134 = true then ((spec_TrieOK.f k a0_5 a0_6 a0_7 a0_8 l0_9).bind fun t135 => (if t135 = true then ((spec_l01In.f (l0_11.length : Int) 1 6).bind fun t136 => (if t136 = true then (if (l0_10.length : Int) = 0 then (spec_NodeOK.j0 k true a0_0 a0_1 a0_2 a0_3 l0_4 a0_5 a0_6 a0_7 a0_8 l0_9 l0_10 l0_11) else (if (l0_10.length : Int) > 8 then (spec_NodeOK.j0 k true a0_0 a0_1 a0_2 a0_3 l0_4 a0_5 a0_6 a0_7 a0_8 l0_9 l0_10 l0_11) else ((spec_l07Bits.f k a0_0 a0_1 a0_2 a0_3 l0_4 32).bind fun t137 => (if t137 = true then (if 0 < (l0_10.length : Int) then (spec_NodeOK.j0 k (((rdOf ByteArray.empty l0_10 0).size : Int) != 4) a0_0 a0_1 a0_2 a0_3 l0_4 a0_5 a0_6 a0_7 a0_8 l0_9 l0_10 l0_11) else (none)) else (spec_NodeOK.j0 k true a0_0 a0_1 a0_2 a0_3 l0_4 a0_5 a0_6 a0_7 a0_8 l0_9 l0_10 l0_11))))) else (spec_NodeOK.j0 k true a0_0 a0_1 a0_2 a0_3 l0_4 a0_5 a0_6 a0_7 a0_8 l0_9 l0_10 l0_11))) else (spec_NodeOK.j0 k true a0_0 a0_1 a0_2 a0_3 l0_4 a0_5 a0_6 a0_7 a0_8 l0_9 l0_10 l0_11))) else (spec_NodeOK.j0 k true a0_0 a0_1 a0_2 a0_3 l0_4 a0_5 a0_6 a0_7 a0_8 l0_9 l0_10 l0_11))
theorem spec_NodeOK.mono_l : ∀ k, (∀ y0 y1 y2 y3 y4 y5 y6 y7 y8 y9 y10 y11 y12, LeO (spec_NodeOK.j0 k y0 y1 y2 y3 y4 y5 y6 y7 y8 y9 y10 y11 y12) (spec_NodeOK.j0 (k + 1) y0 y1 y2 y3 y4 y5 y6 y7 y8 y9 y10 y11 y12)) ∧ (∀ y0 y1 y2 y3 y4 y5 y6 y7 y8 y9 y10 y11 y12, LeO (spec_NodeOK.l0 k y0 y1 y2 y3 y4 y5 y6 y7 y8 y9 y10 y11 y12) (spec_NodeOK.l0 (k + 1) y0 y1 y2 y3 y4 y5 y6 y7 y8 y9 y10 y11 y12)) ∧ (∀ y0 y1 y2 y3 y4 y5 y6 y7 y8 y9 y10 y11 y12 y13, LeO (spec_NodeOK.l1 k y0 y1 y2 y3 y4 y5 y6 y7 y8 y9 y10 y11 y12 y13) (spec_NodeOK.l1 (k + 1) y0 y1 y2 y3 y4 y5 y6 y7 y8 y9 y10 y11 y12 y13))
  | 0 => ⟨fun _ _ _ _ _ _ _ _ _ _ _ _ _ r h => by simp [spec_NodeOK.j0] at h, fun _ _ _ _ _ _ _ _ _ _ _ _ _ r h => by simp [spec_NodeOK.l0] at h, fun _ _ _ _ _ _ _ _ _ _ _ _ _ _ r h => by simp [spec_NodeOK.l1] at h⟩
  | k + 1 => by
    obtain ⟨ih0, ih1, ih2⟩ := spec_NodeOK.mono_l k
    refine ⟨?_, ?_, ?_⟩
    · intro y0 y1 y2 y3 y4 y5 y6 y7 y8 y9 y10 y11 y12
      unfold spec_NodeOK.j0
      repeat' first
      | (with_reducible exact ih0 _ _ _ _ _ _ _ _ _ _ _ _ _)
      | (with_reducible exact ih1 _ _ _ _ _ _ _ _ _ _ _ _ _)
      | (with_reducible exact ih2 _ _ _ _ _ _ _ _ _ _ _ _ _ _)
      | (with_reducible exact spec_TrieOK.mono _ _ _ _ _ _)
      | (with_reducible exact spec_l07Bits.mono _ _ _ _ _ _ _)
      | (with_reducible exact LeO.refl _)
      | (with_reducible exact LeO.none _)
      | (with_reducible refine LeO.ite ?_ ?_)
      | (with_reducible refine LeO.bind ?_ (fun _ => ?_))
      | exact ih0 _ _ _ _ _ _ _ _ _ _ _ _ _
      | exact ih1 _ _ _ _ _ _ _ _ _ _ _ _ _
      | exact ih2 _ _ _ _ _ _ _ _ _ _ _ _ _ _
      | exact spec_TrieOK.mono _ _ _ _ _ _
      | exact spec_l07Bits.mono _ _ _ _ _ _ _
      | exact LeO.none _
      | refine LeO.ite ?_ ?_
      | refine LeO.bind ?_ (fun _ => ?_)
    · intro y0 y1 y2 y3 y4 y5 y6 y7 y8 y9 y10 y11 y12
      unfold spec_NodeOK.l0
      repeat' first
      | (with_reducible exact ih0 _ _ _ _ _ _ _ _ _ _ _ _ _)
      | (with_reducible exact ih1 _ _ _ _ _ _ _ _ _ _ _ _ _)
      | (with_reducible exact ih2 _ _ _ _ _ _ _ _ _ _ _ _ _ _)
      | (with_reducible exact spec_TrieOK.mono _ _ _ _ _ _)
      | (with_reducible exact spec_l07Bits.mono _ _ _ _ _ _ _)
      | (with_reducible exact LeO.refl _)
      | (with_reducible exact LeO.none _)
      | (with_reducible refine LeO.ite ?_ ?_)
      | (with_reducible refine LeO.bind ?_ (fun _ => ?_))
      | exact ih0 _ _ _ _ _ _ _ _ _ _ _ _ _
      | exact ih1 _ _ _ _ _ _ _ _ _ _ _ _ _
      | exact ih2 _ _ _ _ _ _ _ _ _ _ _ _ _ _
      | exact spec_TrieOK.mono _ _ _ _ _ _
      | exact spec_l07Bits.mono _ _ _ _ _ _ _
      | exact LeO.none _
      | refine LeO.ite ?_ ?_
      | refine LeO.bind ?_ (fun _ => ?_)
    · intro y0 y1 y2 y3 y4 y5 y6 y7 y8 y9 y10 y11 y12 y13
      unfold spec_NodeOK.l1
      repeat' first
      | (with_reducible exact ih0 _ _ _ _ _ _ _ _ _ _ _ _ _)
      | (with_reducible exact ih1 _ _ _ _ _ _ _ _ _ _ _ _ _)
      | (with_reducible exact ih2 _ _ _ _ _ _ _ _ _ _ _ _ _ _)
      | (with_reducible exact spec_TrieOK.mono _ _ _ _ _ _)
      | (with_reducible exact spec_l07Bits.mono _ _ _ _ _ _ _)
      | (with_reducible exact LeO.refl _)
      | (with_reducible exact LeO.none _)
      | (with_reducible refine LeO.ite ?_ ?_)
      | (with_reducible refine LeO.bind ?_ (fun _ => ?_))
      | exact ih0 _ _ _ _ _ _ _ _ _ _ _ _ _
      | exact ih1 _ _ _ _ _ _ _ _ _ _ _ _ _
      | exact ih2 _ _ _ _ _ _ _ _ _ _ _ _ _ _
      | exact spec_TrieOK.mono _ _ _ _ _ _
      | exact spec_l07Bits.mono _ _ _ _ _ _ _
      | exact LeO.none _
      | refine LeO.ite ?_ ?_
      | refine LeO.bind ?_ (fun _ => ?_)
theorem spec_NodeOK.mono : ∀ a0 a1 a2 a3 a4 a5 a6 a7 a8 a9 a10 a11 k, LeO (spec_NodeOK.f k a0 a1 a2 a3 a4 a5 a6 a7 a8 a9 a10 a11) (spec_NodeOK.f (k + 1) a0 a1 a2 a3 a4 a5 a6 a7 a8 a9 a10 a11) := by
  intro a0 a1 a2 a3 a4 a5 a6 a7 a8 a9 a10 a11 k
  obtain ⟨ih0, ih1, ih2⟩ := spec_NodeOK.mono_l k
  unfold spec_NodeOK.f
  repeat' first
      | (with_reducible exact ih0 _ _ _ _ _ _ _ _ _ _ _ _ _)
      | (with_reducible exact ih1 _ _ _ _ _ _ _ _ _ _ _ _ _)
      | (with_reducible exact ih2 _ _ _ _ _ _ _ _ _ _ _ _ _ _)
      | (with_reducible exact spec_TrieOK.mono _ _ _ _ _ _)
      | (with_reducible exact spec_l07Bits.mono _ _ _ _ _ _ _)
      | (with_reducible exact LeO.refl _)
      | (with_reducible exact LeO.none _)
      | (with_reducible refine LeO.ite ?_ ?_)
      | (with_reducible refine LeO.bind ?_ (fun _ => ?_))
      | exact ih0 _ _ _ _ _ _ _ _ _ _ _ _ _
      | exact ih1 _ _ _ _ _ _ _ _ _ _ _ _ _
      | exact ih2 _ _ _ _ _ _ _ _ _ _ _ _ _ _
      | exact spec_TrieOK.mono _ _ _ _ _ _
      | exact spec_l07Bits.mono _ _ _ _ _ _ _
      | exact LeO.none _
      | refine LeO.ite ?_ ?_
      | refine LeO.bind ?_ (fun _ => ?_)
set_option maxHeartbeats 8000000 in
set_option maxRecDepth 100000 in
theorem spec_NodeOK.calls (k : Nat) (a0_0 : ByteArray) (a0_1 : Bool) (a0_2 : Int) (a0_3 : Int) (A0_4 : Option Addr) (c0_4 : Nat) (l0_4 : List (S90)) (a0_5 : ByteArray) (a0_6 : Bool) (a0_7 : Int) (a0_8 : Int) (A0_9 : Option Addr) (c0_9 : Nat) (l0_9 : List (S90)) (A0_10 : Option Addr) (c0_10 : Nat) (l0_10 : List ByteArray) (A0_11 : Option Addr) (c0_11 : Nat) (l0_11 : List Int) (r : Bool) (w : World) (hr0_4 : Kd.C k90 w A0_4 l0_4.length l0_4) (hc0_4 : l0_4.length ≤ c0_4) (hr0_9 : Kd.C k90 w A0_9 l0_9.length l0_9) (hc0_9 : l0_9.length ≤ c0_9) (hr0_10 : Kd.C Kd.string w A0_10 l0_10.length l0_10) (hc0_10 : l0_10.length ≤ c0_10) (hr0_11 : Kd.C (Kd.int .i64) w A0_11 l0_11.length l0_11) (hc0_11 : l0_11.length ≤ c0_11) (h : spec_NodeOK.f k a0_0 a0_1 a0_2 a0_3 l0_4 a0_5 a0_6 a0_7 a0_8 l0_9 l0_10 l0_11 = some r) :
    Calls Try.prog 75 #[.agg #[.string a0_0, .bool a0_1, .int .i64 a0_2, .int .i64 a0_3, .slice A0_4 l0_4.length c0_4, .string a0_5, .bool a0_6, .int .i64 a0_7, .int .i64 a0_8, .slice A0_9 l0_9.length c0_9, .slice A0_10 l0_10.length c0_10, .slice A0_11 l0_11.length c0_11]] w fun e w' => e = .returned (.bool r) ∧ Below w.heap.size w w' := by
  have hu102 := Try.underlying102
  have hu90 := Try.underlying90
  have HR0_4 := Aside0.mk hr0_4
  have HC0_4 := Aside0.mk hc0_4
  clear hr0_4 hc0_4
  have HR0_9 := Aside0.mk hr0_9
  have HC0_9 := Aside0.mk hc0_9
  clear hr0_9 hc0_9
  have HR0_10 := Aside0.mk hr0_10
  have HC0_10 := Aside0.mk hc0_10
  clear hr0_10 hc0_10
  have HR0_11 := Aside0.mk hr0_11
  have HC0_11 := Aside0.mk hc0_11
  clear hr0_11 hc0_11
  have HB := Aside0.mk (Below.refl w.heap.size w)
  have H : ((spec_TrieOK.f k a0_0 a0_1 a0_2 a0_3 l0_4).bind fun t134 => (if t134 = true then ((spec_TrieOK.f k a0_5 a0_6 a0_7 a0_8 l0_9).bind fun t135 => (if t135 = true then ((spec_l01In.f (l0_11.length : Int) 1 6).bind fun t136 => (if t136 = true then (if (l0_10.length : Int) = 0 then (spec_NodeOK.j0 k true a0_0 a0_1 a0_2 a0_3 l0_4 a0_5 a0_6 a0_7 a0_8 l0_9 l0_10 l0_11) else (if (l0_10.length : Int) > 8 then (spec_NodeOK.j0 k true a0_0 a0_1 a0_2 a0_3 l0_4 a0_5 a0_6 a0_7 a0_8 l0_9 l0_10 l0_11) else ((spec_l07Bits.f k a0_0 a0_1 a0_2 a0_3 l0_4 32).bind fun t137 => (if t137 = true then (if 0 < (l0_10.length : Int) then (spec_NodeOK.j0 k (((rdOf ByteArray.empty l0_10 0).size : Int) != 4) a0_0 a0_1 a0_2 a0_3 l0_4 a0_5 a0_6 a0_7 a0_8 l0_9 l0_10 l0_11) else (none)) else (spec_NodeOK.j0 k true a0_0 a0_1 a0_2 a0_3 l0_4 a0_5 a0_6 a0_7 a0_8 l0_9 l0_10 l0_11))))) else (spec_NodeOK.j0 k true a0_0 a0_1 a0_2 a0_3 l0_4 a0_5 a0_6 a0_7 a0_8 l0_9 l0_10 l0_11))) else (spec_NodeOK.j0 k true a0_0 a0_1 a0_2 a0_3 l0_4 a0_5 a0_6 a0_7 a0_8 l0_9 l0_10 l0_11))) else (spec_NodeOK.j0 k true a0_0 a0_1 a0_2 a0_3 l0_4 a0_5 a0_6 a0_7 a0_8 l0_9 l0_10 l0_11))) = some r := h
  clear h
  have HC2 := Aside0.mk H
  clear H
  go_enter Try.func75, Try.ntmps75
  go_upto_region 1 with (first | ((with_reducible refine gate_dst (N := 1) rfl ?_); refine box_event ?hg (N := 1) ?hd (cs := #[.string a0_0, .bool a0_1, .int .i64 a0_2, .int .i64 a0_3, .slice A0_4 l0_4.length c0_4, .string a0_5, .bool a0_6, .int .i64 a0_7, .int .i64 a0_8, .slice A0_9 l0_9.length c0_9, .slice A0_10 l0_10.length c0_10, .slice A0_11 l0_11.length c0_11]) (t := 102) ?hr ?_; (case hd => rfl); (case hg => rfl); (case hr => first | (go_simp; done) | (go_simp; rfl)); intro gb133 hg w3 hbox hb; have n0_ := Aside0.mk (below_step (Bx0 HB) hb); have n1_ := Aside0.mk (hbox); have n2_ := Aside0.mk ((by rw [hg]; exact (below_size (Bx0 HB)) : w.heap.size ≤ gb133)); have n3_ := Aside0.mk ((by rw [hg]; exact (below_size (Bx0 HB)) : w.heap.size ≤ gb133)); clear HB; have HB := n0_; have BK133 := n1_; have GW133 := n2_; have GE133 := n3_; clear n0_ n1_ n2_ n3_; clear hb hbox hg))
  (try simp only [Act.put, List.setIfInBounds_toArray, List.set_cons_zero, List.set_cons_succ])
  go_cut [48] (fun v48 wc => ∃ (kq : Nat) (x48_1 : Bool), v48 = .bool x48_1 ∧ Aside0 (spec_NodeOK.j0 kq x48_1 a0_0 a0_1 a0_2 a0_3 l0_4 a0_5 a0_6 a0_7 a0_8 l0_9 l0_10 l0_11 = some r) ∧ Aside0 (kq ≤ k) ∧ Aside0 (wc.heap[gb133]? = some (.cells #[.string a0_0, .bool a0_1, .int .i64 a0_2, .int .i64 a0_3, (.slice A0_4 l0_4.length c0_4), .string a0_5, .bool a0_6, .int .i64 a0_7, .int .i64 a0_8, (.slice A0_9 l0_9.length c0_9), (.slice A0_10 l0_10.length c0_10), (.slice A0_11 l0_11.length c0_11)] 102 (0, 0))) ∧ Aside0 (Below w.heap.size w wc))
  case first =>
    have H := HC2.out
    clear HC2
    replace H := Option.bind_eq_some_iff.mp H
    obtain ⟨t134, A40, H⟩ := H
    replace H : (if t134 = true then ((spec_TrieOK.f k a0_5 a0_6 a0_7 a0_8 l0_9).bind fun t135 => (if t135 = true then ((spec_l01In.f (l0_11.length : Int) 1 6).bind fun t136 => (if t136 = true then (if (l0_10.length : Int) = 0 then (spec_NodeOK.j0 k true a0_0 a0_1 a0_2 a0_3 l0_4 a0_5 a0_6 a0_7 a0_8 l0_9 l0_10 l0_11) else (if (l0_10.length : Int) > 8 then (spec_NodeOK.j0 k true a0_0 a0_1 a0_2 a0_3 l0_4 a0_5 a0_6 a0_7 a0_8 l0_9 l0_10 l0_11) else ((spec_l07Bits.f k a0_0 a0_1 a0_2 a0_3 l0_4 32).bind fun t137 => (if t137 = true then (if 0 < (l0_10.length : Int) then (spec_NodeOK.j0 k (((rdOf ByteArray.empty l0_10 0).size : Int) != 4) a0_0 a0_1 a0_2 a0_3 l0_4 a0_5 a0_6 a0_7 a0_8 l0_9 l0_10 l0_11) else (none)) else (spec_NodeOK.j0 k true a0_0 a0_1 a0_2 a0_3 l0_4 a0_5 a0_6 a0_7 a0_8 l0_9 l0_10 l0_11))))) else (spec_NodeOK.j0 k true a0_0 a0_1 a0_2 a0_3 l0_4 a0_5 a0_6 a0_7 a0_8 l0_9 l0_10 l0_11))) else (spec_NodeOK.j0 k true a0_0 a0_1 a0_2 a0_3 l0_4 a0_5 a0_6 a0_7 a0_8 l0_9 l0_10 l0_11))) else (spec_NodeOK.j0 k true a0_0 a0_1 a0_2 a0_3 l0_4 a0_5 a0_6 a0_7 a0_8 l0_9 l0_10 l0_11)) = some r := H
    have A4 := Aside0.mk A40
    clear A40
    by_cases c5 : t134 = true
    rotate_left
    · replace c5 := Bool.eq_false_iff.mpr c5
      subst c5
      have H1 : (spec_NodeOK.j0 k true a0_0 a0_1 a0_2 a0_3 l0_4 a0_5 a0_6 a0_7 a0_8 l0_9 l0_10 l0_11) = some r := by rw [if_neg (show ¬ (false = true) by decide)] at H; exact H
      clear H
      have H := H1
      clear H1
      have H' := Aside0.mk H
      clear H
      have hcz47_0 : w3.cell? ⟨gb133, 0, none⟩ = some (.string a0_0) := (blk_cell BK133.out 0).trans rfl
      have hcz47_1 : w3.cell? ⟨gb133, 1, none⟩ = some (.bool a0_1) := (blk_cell BK133.out 1).trans rfl
      have hcz47_2 : w3.cell? ⟨gb133, 2, none⟩ = some (.int .i64 a0_2) := (blk_cell BK133.out 2).trans rfl
      have hcz47_3 : w3.cell? ⟨gb133, 3, none⟩ = some (.int .i64 a0_3) := (blk_cell BK133.out 3).trans rfl
      have hcz47_4 : w3.cell? ⟨gb133, 4, none⟩ = some (.slice A0_4 l0_4.length c0_4) := (blk_cell BK133.out 4).trans rfl
      have hcz47_5 : w3.cell? ⟨gb133, 5, none⟩ = some (.string a0_5) := (blk_cell BK133.out 5).trans rfl
      have hcz47_6 : w3.cell? ⟨gb133, 6, none⟩ = some (.bool a0_6) := (blk_cell BK133.out 6).trans rfl
      have hcz47_7 : w3.cell? ⟨gb133, 7, none⟩ = some (.int .i64 a0_7) := (blk_cell BK133.out 7).trans rfl
      have hcz47_8 : w3.cell? ⟨gb133, 8, none⟩ = some (.int .i64 a0_8) := (blk_cell BK133.out 8).trans rfl
      have hcz47_9 : w3.cell? ⟨gb133, 9, none⟩ = some (.slice A0_9 l0_9.length c0_9) := (blk_cell BK133.out 9).trans rfl
      have hcz47_10 : w3.cell? ⟨gb133, 10, none⟩ = some (.slice A0_10 l0_10.length c0_10) := (blk_cell BK133.out 10).trans rfl
      have hcz47_11 : w3.cell? ⟨gb133, 11, none⟩ = some (.slice A0_11 l0_11.length c0_11) := (blk_cell BK133.out 11).trans rfl
      have hfz47_0 := blk_frozen BK133.out 0
      have hfz47_1 := blk_frozen BK133.out 1
      have hfz47_2 := blk_frozen BK133.out 2
      have hfz47_3 := blk_frozen BK133.out 3
      have hfz47_4 := blk_frozen BK133.out 4
      have hfz47_5 := blk_frozen BK133.out 5
      have hfz47_6 := blk_frozen BK133.out 6
      have hfz47_7 := blk_frozen BK133.out 7
      have hfz47_8 := blk_frozen BK133.out 8
      have hfz47_9 := blk_frozen BK133.out 9
      have hfz47_10 := blk_frozen BK133.out 10
      have hfz47_11 := blk_frozen BK133.out 11
      go_wp2_with (first | ((with_reducible refine gate_callee (f := 55) rfl ?_); refine goesL_ (some 8) rfl rfl Try.func55 (by kernel_rfl) rfl #[.agg #[.string a0_0, .bool a0_1, .int .i64 a0_2, .int .i64 a0_3, .slice A0_4 l0_4.length c0_4]] rfl (by (try simp only [List.map_toArray, List.map_cons, List.map_nil]); first | done | rfl | (simp only [List.length_drop, List.length_take]; rfl)) ?_; (with_reducible refine (spec_TrieOK.calls k a0_0 a0_1 a0_2 a0_3 _ _ l0_4 false _ ?side1 ?side2 A4.out).mono ?_); (case side1 => repeat (first | exact (Kd.C_below HR0_4.out HB.out) | (with_reducible refine Kd.C_alloc ?_ _) | (with_reducible refine Kd.C_drewN ?_ _) | (with_reducible refine Kd.C_drew ?_))); (case side2 => exact HC0_4.out); rintro e w48 ⟨rfl, hb⟩; refine ⟨_, rfl, ?_⟩; have n0_ := Aside0.mk (blk_below (BKx BK133) hb); have n1_ := Aside0.mk (below_step (Bx1 HB GE133) hb); clear BK133; clear HB; have BK133 := n0_; have HB := n1_; clear n0_ n1_; (try clear hb); (try clear hb2); (try clear hk); (try clear hi)))
      go_meet
      case rel => exact ⟨_, (true), (by first | rfl | (simp; done) | (simp [*]; done)), H', ⟨by first | omega | exact Nat.le_refl _⟩, ⟨by (with_reducible repeat (first | refine blk_drewN ?_ _ | refine blk_drew ?_ | refine blk_alloc ?_ _)); exact BK133.out⟩, ⟨Bx1 HB GE133⟩⟩
    subst c5
    have H1 : ((spec_TrieOK.f k a0_5 a0_6 a0_7 a0_8 l0_9).bind fun t135 => (if t135 = true then ((spec_l01In.f (l0_11.length : Int) 1 6).bind fun t136 => (if t136 = true then (if (l0_10.length : Int) = 0 then (spec_NodeOK.j0 k true a0_0 a0_1 a0_2 a0_3 l0_4 a0_5 a0_6 a0_7 a0_8 l0_9 l0_10 l0_11) else (if (l0_10.length : Int) > 8 then (spec_NodeOK.j0 k true a0_0 a0_1 a0_2 a0_3 l0_4 a0_5 a0_6 a0_7 a0_8 l0_9 l0_10 l0_11) else ((spec_l07Bits.f k a0_0 a0_1 a0_2 a0_3 l0_4 32).bind fun t137 => (if t137 = true then (if 0 < (l0_10.length : Int) then (spec_NodeOK.j0 k (((rdOf ByteArray.empty l0_10 0).size : Int) != 4) a0_0 a0_1 a0_2 a0_3 l0_4 a0_5 a0_6 a0_7 a0_8 l0_9 l0_10 l0_11) else (none)) else (spec_NodeOK.j0 k true a0_0 a0_1 a0_2 a0_3 l0_4 a0_5 a0_6 a0_7 a0_8 l0_9 l0_10 l0_11))))) else (spec_NodeOK.j0 k true a0_0 a0_1 a0_2 a0_3 l0_4 a0_5 a0_6 a0_7 a0_8 l0_9 l0_10 l0_11))) else (spec_NodeOK.j0 k true a0_0 a0_1 a0_2 a0_3 l0_4 a0_5 a0_6 a0_7 a0_8 l0_9 l0_10 l0_11))) = some r := by rw [if_pos rfl] at H; exact H
    clear H
    have H := H1
    clear H1
    replace H := Option.bind_eq_some_iff.mp H
    obtain ⟨t135, A60, H⟩ := H
    replace H : (if t135 = true then ((spec_l01In.f (l0_11.length : Int) 1 6).bind fun t136 => (if t136 = true then (if (l0_10.length : Int) = 0 then (spec_NodeOK.j0 k true a0_0 a0_1 a0_2 a0_3 l0_4 a0_5 a0_6 a0_7 a0_8 l0_9 l0_10 l0_11) else (if (l0_10.length : Int) > 8 then (spec_NodeOK.j0 k true a0_0 a0_1 a0_2 a0_3 l0_4 a0_5 a0_6 a0_7 a0_8 l0_9 l0_10 l0_11) else ((spec_l07Bits.f k a0_0 a0_1 a0_2 a0_3 l0_4 32).bind fun t137 => (if t137 = true then (if 0 < (l0_10.length : Int) then (spec_NodeOK.j0 k (((rdOf ByteArray.empty l0_10 0).size : Int) != 4) a0_0 a0_1 a0_2 a0_3 l0_4 a0_5 a0_6 a0_7 a0_8 l0_9 l0_10 l0_11) else (none)) else (spec_NodeOK.j0 k true a0_0 a0_1 a0_2 a0_3 l0_4 a0_5 a0_6 a0_7 a0_8 l0_9 l0_10 l0_11))))) else (spec_NodeOK.j0 k true a0_0 a0_1 a0_2 a0_3 l0_4 a0_5 a0_6 a0_7 a0_8 l0_9 l0_10 l0_11))) else (spec_NodeOK.j0 k true a0_0 a0_1 a0_2 a0_3 l0_4 a0_5 a0_6 a0_7 a0_8 l0_9 l0_10 l0_11)) = some r := H
    have A6 := Aside0.mk A60
    clear A60
    by_cases c7 : t135 = true
    rotate_left
    · replace c7 := Bool.eq_false_iff.mpr c7
      subst c7
      have H1 : (spec_NodeOK.j0 k true a0_0 a0_1 a0_2 a0_3 l0_4 a0_5 a0_6 a0_7 a0_8 l0_9 l0_10 l0_11) = some r := by rw [if_neg (show ¬ (false = true) by decide)] at H; exact H
      clear H
      have H := H1
      clear H1
      have H' := Aside0.mk H
      clear H
      have hcz43_0 : w3.cell? ⟨gb133, 0, none⟩ = some (.string a0_0) := (blk_cell BK133.out 0).trans rfl
      have hcz43_1 : w3.cell? ⟨gb133, 1, none⟩ = some (.bool a0_1) := (blk_cell BK133.out 1).trans rfl
      have hcz43_2 : w3.cell? ⟨gb133, 2, none⟩ = some (.int .i64 a0_2) := (blk_cell BK133.out 2).trans rfl
      have hcz43_3 : w3.cell? ⟨gb133, 3, none⟩ = some (.int .i64 a0_3) := (blk_cell BK133.out 3).trans rfl
      have hcz43_4 : w3.cell? ⟨gb133, 4, none⟩ = some (.slice A0_4 l0_4.length c0_4) := (blk_cell BK133.out 4).trans rfl
      have hcz43_5 : w3.cell? ⟨gb133, 5, none⟩ = some (.string a0_5) := (blk_cell BK133.out 5).trans rfl
      have hcz43_6 : w3.cell? ⟨gb133, 6, none⟩ = some (.bool a0_6) := (blk_cell BK133.out 6).trans rfl
      have hcz43_7 : w3.cell? ⟨gb133, 7, none⟩ = some (.int .i64 a0_7) := (blk_cell BK133.out 7).trans rfl
      have hcz43_8 : w3.cell? ⟨gb133, 8, none⟩ = some (.int .i64 a0_8) := (blk_cell BK133.out 8).trans rfl
      have hcz43_9 : w3.cell? ⟨gb133, 9, none⟩ = some (.slice A0_9 l0_9.length c0_9) := (blk_cell BK133.out 9).trans rfl
      have hcz43_10 : w3.cell? ⟨gb133, 10, none⟩ = some (.slice A0_10 l0_10.length c0_10) := (blk_cell BK133.out 10).trans rfl
      have hcz43_11 : w3.cell? ⟨gb133, 11, none⟩ = some (.slice A0_11 l0_11.length c0_11) := (blk_cell BK133.out 11).trans rfl
      have hfz43_0 := blk_frozen BK133.out 0
      have hfz43_1 := blk_frozen BK133.out 1
      have hfz43_2 := blk_frozen BK133.out 2
      have hfz43_3 := blk_frozen BK133.out 3
      have hfz43_4 := blk_frozen BK133.out 4
      have hfz43_5 := blk_frozen BK133.out 5
      have hfz43_6 := blk_frozen BK133.out 6
      have hfz43_7 := blk_frozen BK133.out 7
      have hfz43_8 := blk_frozen BK133.out 8
      have hfz43_9 := blk_frozen BK133.out 9
      have hfz43_10 := blk_frozen BK133.out 10
      have hfz43_11 := blk_frozen BK133.out 11
      go_wp2_with (first | ((with_reducible refine gate_callee (f := 55) rfl ?_); refine goesL_ (some 8) rfl rfl Try.func55 (by kernel_rfl) rfl #[.agg #[.string a0_0, .bool a0_1, .int .i64 a0_2, .int .i64 a0_3, .slice A0_4 l0_4.length c0_4]] rfl (by (try simp only [List.map_toArray, List.map_cons, List.map_nil]); first | done | rfl | (simp only [List.length_drop, List.length_take]; rfl)) ?_; (with_reducible refine (spec_TrieOK.calls k a0_0 a0_1 a0_2 a0_3 _ _ l0_4 true _ ?side1 ?side2 A4.out).mono ?_); (case side1 => repeat (first | exact (Kd.C_below HR0_4.out HB.out) | (with_reducible refine Kd.C_alloc ?_ _) | (with_reducible refine Kd.C_drewN ?_ _) | (with_reducible refine Kd.C_drew ?_))); (case side2 => exact HC0_4.out); rintro e w44 ⟨rfl, hb⟩; refine ⟨_, rfl, ?_⟩; have n0_ := Aside0.mk (blk_below (BKx BK133) hb); have n1_ := Aside0.mk (below_step (Bx1 HB GE133) hb); clear BK133; clear HB; have BK133 := n0_; have HB := n1_; clear n0_ n1_; (try clear hb); (try clear hb2); (try clear hk); (try clear hi); have hcz45_0 : w44.cell? ⟨gb133, 0, none⟩ = some (.string a0_0) := (blk_cell BK133.out 0).trans rfl; have hcz45_1 : w44.cell? ⟨gb133, 1, none⟩ = some (.bool a0_1) := (blk_cell BK133.out 1).trans rfl; have hcz45_2 : w44.cell? ⟨gb133, 2, none⟩ = some (.int .i64 a0_2) := (blk_cell BK133.out 2).trans rfl; have hcz45_3 : w44.cell? ⟨gb133, 3, none⟩ = some (.int .i64 a0_3) := (blk_cell BK133.out 3).trans rfl; have hcz45_4 : w44.cell? ⟨gb133, 4, none⟩ = some (.slice A0_4 l0_4.length c0_4) := (blk_cell BK133.out 4).trans rfl; have hcz45_5 : w44.cell? ⟨gb133, 5, none⟩ = some (.string a0_5) := (blk_cell BK133.out 5).trans rfl; have hcz45_6 : w44.cell? ⟨gb133, 6, none⟩ = some (.bool a0_6) := (blk_cell BK133.out 6).trans rfl; have hcz45_7 : w44.cell? ⟨gb133, 7, none⟩ = some (.int .i64 a0_7) := (blk_cell BK133.out 7).trans rfl; have hcz45_8 : w44.cell? ⟨gb133, 8, none⟩ = some (.int .i64 a0_8) := (blk_cell BK133.out 8).trans rfl; have hcz45_9 : w44.cell? ⟨gb133, 9, none⟩ = some (.slice A0_9 l0_9.length c0_9) := (blk_cell BK133.out 9).trans rfl; have hcz45_10 : w44.cell? ⟨gb133, 10, none⟩ = some (.slice A0_10 l0_10.length c0_10) := (blk_cell BK133.out 10).trans rfl; have hcz45_11 : w44.cell? ⟨gb133, 11, none⟩ = some (.slice A0_11 l0_11.length c0_11) := (blk_cell BK133.out 11).trans rfl; have hfz45_0 := blk_frozen BK133.out 0; have hfz45_1 := blk_frozen BK133.out 1; have hfz45_2 := blk_frozen BK133.out 2; have hfz45_3 := blk_frozen BK133.out 3; have hfz45_4 := blk_frozen BK133.out 4; have hfz45_5 := blk_frozen BK133.out 5; have hfz45_6 := blk_frozen BK133.out 6; have hfz45_7 := blk_frozen BK133.out 7; have hfz45_8 := blk_frozen BK133.out 8; have hfz45_9 := blk_frozen BK133.out 9; have hfz45_10 := blk_frozen BK133.out 10; have hfz45_11 := blk_frozen BK133.out 11) | (go_at_call 55; (with_reducible refine (spec_TrieOK.calls k a0_5 a0_6 a0_7 a0_8 _ _ l0_9 false _ ?side1 ?side2 A6.out).mono ?_); (case side1 => repeat (first | exact (Kd.C_below HR0_9.out HB.out) | (with_reducible refine Kd.C_alloc ?_ _) | (with_reducible refine Kd.C_drewN ?_ _) | (with_reducible refine Kd.C_drew ?_))); (case side2 => exact HC0_9.out); rintro e w46 ⟨rfl, hb⟩; have n0_ := Aside0.mk (blk_below (BKx BK133) hb); have n1_ := Aside0.mk (below_step (Bx1 HB GE133) hb); clear BK133; clear HB; have BK133 := n0_; have HB := n1_; clear n0_ n1_; (try clear hb); (try clear hb2); (try clear hk); (try clear hi)))
      go_meet
      case rel => exact ⟨_, (true), (by first | rfl | (simp; done) | (simp [*]; done)), H', ⟨by first | omega | exact Nat.le_refl _⟩, ⟨by (with_reducible repeat (first | refine blk_drewN ?_ _ | refine blk_drew ?_ | refine blk_alloc ?_ _)); exact BK133.out⟩, ⟨Bx1 HB GE133⟩⟩
    subst c7
    have H1 : ((spec_l01In.f (l0_11.length : Int) 1 6).bind fun t136 => (if t136 = true then (if (l0_10.length : Int) = 0 then (spec_NodeOK.j0 k true a0_0 a0_1 a0_2 a0_3 l0_4 a0_5 a0_6 a0_7 a0_8 l0_9 l0_10 l0_11) else (if (l0_10.length : Int) > 8 then (spec_NodeOK.j0 k true a0_0 a0_1 a0_2 a0_3 l0_4 a0_5 a0_6 a0_7 a0_8 l0_9 l0_10 l0_11) else ((spec_l07Bits.f k a0_0 a0_1 a0_2 a0_3 l0_4 32).bind fun t137 => (if t137 = true then (if 0 < (l0_10.length : Int) then (spec_NodeOK.j0 k (((rdOf ByteArray.empty l0_10 0).size : Int) != 4) a0_0 a0_1 a0_2 a0_3 l0_4 a0_5 a0_6 a0_7 a0_8 l0_9 l0_10 l0_11) else (none)) else (spec_NodeOK.j0 k true a0_0 a0_1 a0_2 a0_3 l0_4 a0_5 a0_6 a0_7 a0_8 l0_9 l0_10 l0_11))))) else (spec_NodeOK.j0 k true a0_0 a0_1 a0_2 a0_3 l0_4 a0_5 a0_6 a0_7 a0_8 l0_9 l0_10 l0_11))) = some r := by rw [if_pos rfl] at H; exact H
    clear H
    have H := H1
    clear H1
    replace H := Option.bind_eq_some_iff.mp H
    obtain ⟨t136, A80, H⟩ := H
    replace H : (if t136 = true then (if (l0_10.length : Int) = 0 then (spec_NodeOK.j0 k true a0_0 a0_1 a0_2 a0_3 l0_4 a0_5 a0_6 a0_7 a0_8 l0_9 l0_10 l0_11) else (if (l0_10.length : Int) > 8 then (spec_NodeOK.j0 k true a0_0 a0_1 a0_2 a0_3 l0_4 a0_5 a0_6 a0_7 a0_8 l0_9 l0_10 l0_11) else ((spec_l07Bits.f k a0_0 a0_1 a0_2 a0_3 l0_4 32).bind fun t137 => (if t137 = true then (if 0 < (l0_10.length : Int) then (spec_NodeOK.j0 k (((rdOf ByteArray.empty l0_10 0).size : Int) != 4) a0_0 a0_1 a0_2 a0_3 l0_4 a0_5 a0_6 a0_7 a0_8 l0_9 l0_10 l0_11) else (none)) else (spec_NodeOK.j0 k true a0_0 a0_1 a0_2 a0_3 l0_4 a0_5 a0_6 a0_7 a0_8 l0_9 l0_10 l0_11))))) else (spec_NodeOK.j0 k true a0_0 a0_1 a0_2 a0_3 l0_4 a0_5 a0_6 a0_7 a0_8 l0_9 l0_10 l0_11)) = some r := H
    have A8 := Aside0.mk A80
    clear A80
    by_cases c9 : t136 = true
    rotate_left
    · replace c9 := Bool.eq_false_iff.mpr c9
      subst c9
      have H1 : (spec_NodeOK.j0 k true a0_0 a0_1 a0_2 a0_3 l0_4 a0_5 a0_6 a0_7 a0_8 l0_9 l0_10 l0_11) = some r := by rw [if_neg (show ¬ (false = true) by decide)] at H; exact H
      clear H
      have H := H1
      clear H1
      have H' := Aside0.mk H
      clear H
      have hcz38_0 : w3.cell? ⟨gb133, 0, none⟩ = some (.string a0_0) := (blk_cell BK133.out 0).trans rfl
      have hcz38_1 : w3.cell? ⟨gb133, 1, none⟩ = some (.bool a0_1) := (blk_cell BK133.out 1).trans rfl
      have hcz38_2 : w3.cell? ⟨gb133, 2, none⟩ = some (.int .i64 a0_2) := (blk_cell BK133.out 2).trans rfl
      have hcz38_3 : w3.cell? ⟨gb133, 3, none⟩ = some (.int .i64 a0_3) := (blk_cell BK133.out 3).trans rfl
      have hcz38_4 : w3.cell? ⟨gb133, 4, none⟩ = some (.slice A0_4 l0_4.length c0_4) := (blk_cell BK133.out 4).trans rfl
      have hcz38_5 : w3.cell? ⟨gb133, 5, none⟩ = some (.string a0_5) := (blk_cell BK133.out 5).trans rfl
      have hcz38_6 : w3.cell? ⟨gb133, 6, none⟩ = some (.bool a0_6) := (blk_cell BK133.out 6).trans rfl
      have hcz38_7 : w3.cell? ⟨gb133, 7, none⟩ = some (.int .i64 a0_7) := (blk_cell BK133.out 7).trans rfl
      have hcz38_8 : w3.cell? ⟨gb133, 8, none⟩ = some (.int .i64 a0_8) := (blk_cell BK133.out 8).trans rfl
      have hcz38_9 : w3.cell? ⟨gb133, 9, none⟩ = some (.slice A0_9 l0_9.length c0_9) := (blk_cell BK133.out 9).trans rfl
      have hcz38_10 : w3.cell? ⟨gb133, 10, none⟩ = some (.slice A0_10 l0_10.length c0_10) := (blk_cell BK133.out 10).trans rfl
      have hcz38_11 : w3.cell? ⟨gb133, 11, none⟩ = some (.slice A0_11 l0_11.length c0_11) := (blk_cell BK133.out 11).trans rfl
      have hfz38_0 := blk_frozen BK133.out 0
      have hfz38_1 := blk_frozen BK133.out 1
      have hfz38_2 := blk_frozen BK133.out 2
      have hfz38_3 := blk_frozen BK133.out 3
      have hfz38_4 := blk_frozen BK133.out 4
      have hfz38_5 := blk_frozen BK133.out 5
      have hfz38_6 := blk_frozen BK133.out 6
      have hfz38_7 := blk_frozen BK133.out 7
      have hfz38_8 := blk_frozen BK133.out 8
      have hfz38_9 := blk_frozen BK133.out 9
      have hfz38_10 := blk_frozen BK133.out 10
      have hfz38_11 := blk_frozen BK133.out 11
      go_wp2_with (first | ((with_reducible refine gate_callee (f := 55) rfl ?_); refine goesL_ (some 8) rfl rfl Try.func55 (by kernel_rfl) rfl #[.agg #[.string a0_0, .bool a0_1, .int .i64 a0_2, .int .i64 a0_3, .slice A0_4 l0_4.length c0_4]] rfl (by (try simp only [List.map_toArray, List.map_cons, List.map_nil]); first | done | rfl | (simp only [List.length_drop, List.length_take]; rfl)) ?_; (with_reducible refine (spec_TrieOK.calls k a0_0 a0_1 a0_2 a0_3 _ _ l0_4 true _ ?side1 ?side2 A4.out).mono ?_); (case side1 => repeat (first | exact (Kd.C_below HR0_4.out HB.out) | (with_reducible refine Kd.C_alloc ?_ _) | (with_reducible refine Kd.C_drewN ?_ _) | (with_reducible refine Kd.C_drew ?_))); (case side2 => exact HC0_4.out); rintro e w39 ⟨rfl, hb⟩; refine ⟨_, rfl, ?_⟩; have n0_ := Aside0.mk (blk_below (BKx BK133) hb); have n1_ := Aside0.mk (below_step (Bx1 HB GE133) hb); clear BK133; clear HB; have BK133 := n0_; have HB := n1_; clear n0_ n1_; (try clear hb); (try clear hb2); (try clear hk); (try clear hi); have hcz40_0 : w39.cell? ⟨gb133, 0, none⟩ = some (.string a0_0) := (blk_cell BK133.out 0).trans rfl; have hcz40_1 : w39.cell? ⟨gb133, 1, none⟩ = some (.bool a0_1) := (blk_cell BK133.out 1).trans rfl; have hcz40_2 : w39.cell? ⟨gb133, 2, none⟩ = some (.int .i64 a0_2) := (blk_cell BK133.out 2).trans rfl; have hcz40_3 : w39.cell? ⟨gb133, 3, none⟩ = some (.int .i64 a0_3) := (blk_cell BK133.out 3).trans rfl; have hcz40_4 : w39.cell? ⟨gb133, 4, none⟩ = some (.slice A0_4 l0_4.length c0_4) := (blk_cell BK133.out 4).trans rfl; have hcz40_5 : w39.cell? ⟨gb133, 5, none⟩ = some (.string a0_5) := (blk_cell BK133.out 5).trans rfl; have hcz40_6 : w39.cell? ⟨gb133, 6, none⟩ = some (.bool a0_6) := (blk_cell BK133.out 6).trans rfl; have hcz40_7 : w39.cell? ⟨gb133, 7, none⟩ = some (.int .i64 a0_7) := (blk_cell BK133.out 7).trans rfl; have hcz40_8 : w39.cell? ⟨gb133, 8, none⟩ = some (.int .i64 a0_8) := (blk_cell BK133.out 8).trans rfl; have hcz40_9 : w39.cell? ⟨gb133, 9, none⟩ = some (.slice A0_9 l0_9.length c0_9) := (blk_cell BK133.out 9).trans rfl; have hcz40_10 : w39.cell? ⟨gb133, 10, none⟩ = some (.slice A0_10 l0_10.length c0_10) := (blk_cell BK133.out 10).trans rfl; have hcz40_11 : w39.cell? ⟨gb133, 11, none⟩ = some (.slice A0_11 l0_11.length c0_11) := (blk_cell BK133.out 11).trans rfl; have hfz40_0 := blk_frozen BK133.out 0; have hfz40_1 := blk_frozen BK133.out 1; have hfz40_2 := blk_frozen BK133.out 2; have hfz40_3 := blk_frozen BK133.out 3; have hfz40_4 := blk_frozen BK133.out 4; have hfz40_5 := blk_frozen BK133.out 5; have hfz40_6 := blk_frozen BK133.out 6; have hfz40_7 := blk_frozen BK133.out 7; have hfz40_8 := blk_frozen BK133.out 8; have hfz40_9 := blk_frozen BK133.out 9; have hfz40_10 := blk_frozen BK133.out 10; have hfz40_11 := blk_frozen BK133.out 11) | (go_at_call 55; (with_reducible refine (spec_TrieOK.calls k a0_5 a0_6 a0_7 a0_8 _ _ l0_9 true _ ?side1 ?side2 A6.out).mono ?_); (case side1 => repeat (first | exact (Kd.C_below HR0_9.out HB.out) | (with_reducible refine Kd.C_alloc ?_ _) | (with_reducible refine Kd.C_drewN ?_ _) | (with_reducible refine Kd.C_drew ?_))); (case side2 => exact HC0_9.out); rintro e w41 ⟨rfl, hb⟩; have n0_ := Aside0.mk (blk_below (BKx BK133) hb); have n1_ := Aside0.mk (below_step (Bx1 HB GE133) hb); clear BK133; clear HB; have BK133 := n0_; have HB := n1_; clear n0_ n1_; (try clear hb); (try clear hb2); (try clear hk); (try clear hi); have hcz42_0 : w41.cell? ⟨gb133, 0, none⟩ = some (.string a0_0) := (blk_cell BK133.out 0).trans rfl; have hcz42_1 : w41.cell? ⟨gb133, 1, none⟩ = some (.bool a0_1) := (blk_cell BK133.out 1).trans rfl; have hcz42_2 : w41.cell? ⟨gb133, 2, none⟩ = some (.int .i64 a0_2) := (blk_cell BK133.out 2).trans rfl; have hcz42_3 : w41.cell? ⟨gb133, 3, none⟩ = some (.int .i64 a0_3) := (blk_cell BK133.out 3).trans rfl; have hcz42_4 : w41.cell? ⟨gb133, 4, none⟩ = some (.slice A0_4 l0_4.length c0_4) := (blk_cell BK133.out 4).trans rfl; have hcz42_5 : w41.cell? ⟨gb133, 5, none⟩ = some (.string a0_5) := (blk_cell BK133.out 5).trans rfl; have hcz42_6 : w41.cell? ⟨gb133, 6, none⟩ = some (.bool a0_6) := (blk_cell BK133.out 6).trans rfl; have hcz42_7 : w41.cell? ⟨gb133, 7, none⟩ = some (.int .i64 a0_7) := (blk_cell BK133.out 7).trans rfl; have hcz42_8 : w41.cell? ⟨gb133, 8, none⟩ = some (.int .i64 a0_8) := (blk_cell BK133.out 8).trans rfl; have hcz42_9 : w41.cell? ⟨gb133, 9, none⟩ = some (.slice A0_9 l0_9.length c0_9) := (blk_cell BK133.out 9).trans rfl; have hcz42_10 : w41.cell? ⟨gb133, 10, none⟩ = some (.slice A0_10 l0_10.length c0_10) := (blk_cell BK133.out 10).trans rfl; have hcz42_11 : w41.cell? ⟨gb133, 11, none⟩ = some (.slice A0_11 l0_11.length c0_11) := (blk_cell BK133.out 11).trans rfl; have hfz42_0 := blk_frozen BK133.out 0; have hfz42_1 := blk_frozen BK133.out 1; have hfz42_2 := blk_frozen BK133.out 2; have hfz42_3 := blk_frozen BK133.out 3; have hfz42_4 := blk_frozen BK133.out 4; have hfz42_5 := blk_frozen BK133.out 5; have hfz42_6 := blk_frozen BK133.out 6; have hfz42_7 := blk_frozen BK133.out 7; have hfz42_8 := blk_frozen BK133.out 8; have hfz42_9 := blk_frozen BK133.out 9; have hfz42_10 := blk_frozen BK133.out 10; have hfz42_11 := blk_frozen BK133.out 11) | (go_at_call 81; (with_reducible refine (spec_l01In.calls (l0_11.length : Int) 1 6 false _ A8.out).mono ?_); rintro e w' ⟨rfl, ⟨nd, rfl⟩⟩))
      go_meet
      case rel => exact ⟨_, (true), (by first | rfl | (simp; done) | (simp [*]; done)), H', ⟨by first | omega | exact Nat.le_refl _⟩, ⟨by (with_reducible repeat (first | refine blk_drewN ?_ _ | refine blk_drew ?_ | refine blk_alloc ?_ _)); exact BK133.out⟩, ⟨Bx1 HB GE133⟩⟩
    subst c9
    have H1 : (if (l0_10.length : Int) = 0 then (spec_NodeOK.j0 k true a0_0 a0_1 a0_2 a0_3 l0_4 a0_5 a0_6 a0_7 a0_8 l0_9 l0_10 l0_11) else (if (l0_10.length : Int) > 8 then (spec_NodeOK.j0 k true a0_0 a0_1 a0_2 a0_3 l0_4 a0_5 a0_6 a0_7 a0_8 l0_9 l0_10 l0_11) else ((spec_l07Bits.f k a0_0 a0_1 a0_2 a0_3 l0_4 32).bind fun t137 => (if t137 = true then (if 0 < (l0_10.length : Int) then (spec_NodeOK.j0 k (((rdOf ByteArray.empty l0_10 0).size : Int) != 4) a0_0 a0_1 a0_2 a0_3 l0_4 a0_5 a0_6 a0_7 a0_8 l0_9 l0_10 l0_11) else (none)) else (spec_NodeOK.j0 k true a0_0 a0_1 a0_2 a0_3 l0_4 a0_5 a0_6 a0_7 a0_8 l0_9 l0_10 l0_11))))) = some r := by rw [if_pos rfl] at H; exact H
    clear H
    have H := H1
    clear H1
    by_cases c10 : (l0_10.length : Int) = 0
    · rw [if_pos c10] at H
      have c10b0 : ((l0_10.length : Int) == 0) = true := beq_iff_eq.mpr c10
      have c10b1 : ((l0_10.length : Int) != 0) = false := bne_eq_false_iff_eq.mpr c10
      clear c10
      (first | rw [c10b0] | (simp only [i64_w, i32_w]; rw [c10b0]) | skip)
      have H' := Aside0.mk H
      clear H
      have hcz11_0 : w3.cell? ⟨gb133, 0, none⟩ = some (.string a0_0) := (blk_cell BK133.out 0).trans rfl
      have hcz11_1 : w3.cell? ⟨gb133, 1, none⟩ = some (.bool a0_1) := (blk_cell BK133.out 1).trans rfl
      have hcz11_2 : w3.cell? ⟨gb133, 2, none⟩ = some (.int .i64 a0_2) := (blk_cell BK133.out 2).trans rfl
      have hcz11_3 : w3.cell? ⟨gb133, 3, none⟩ = some (.int .i64 a0_3) := (blk_cell BK133.out 3).trans rfl
      have hcz11_4 : w3.cell? ⟨gb133, 4, none⟩ = some (.slice A0_4 l0_4.length c0_4) := (blk_cell BK133.out 4).trans rfl
      have hcz11_5 : w3.cell? ⟨gb133, 5, none⟩ = some (.string a0_5) := (blk_cell BK133.out 5).trans rfl
      have hcz11_6 : w3.cell? ⟨gb133, 6, none⟩ = some (.bool a0_6) := (blk_cell BK133.out 6).trans rfl
      have hcz11_7 : w3.cell? ⟨gb133, 7, none⟩ = some (.int .i64 a0_7) := (blk_cell BK133.out 7).trans rfl
      have hcz11_8 : w3.cell? ⟨gb133, 8, none⟩ = some (.int .i64 a0_8) := (blk_cell BK133.out 8).trans rfl
      have hcz11_9 : w3.cell? ⟨gb133, 9, none⟩ = some (.slice A0_9 l0_9.length c0_9) := (blk_cell BK133.out 9).trans rfl
      have hcz11_10 : w3.cell? ⟨gb133, 10, none⟩ = some (.slice A0_10 l0_10.length c0_10) := (blk_cell BK133.out 10).trans rfl
      have hcz11_11 : w3.cell? ⟨gb133, 11, none⟩ = some (.slice A0_11 l0_11.length c0_11) := (blk_cell BK133.out 11).trans rfl
      have hfz11_0 := blk_frozen BK133.out 0
      have hfz11_1 := blk_frozen BK133.out 1
      have hfz11_2 := blk_frozen BK133.out 2
      have hfz11_3 := blk_frozen BK133.out 3
      have hfz11_4 := blk_frozen BK133.out 4
      have hfz11_5 := blk_frozen BK133.out 5
      have hfz11_6 := blk_frozen BK133.out 6
      have hfz11_7 := blk_frozen BK133.out 7
      have hfz11_8 := blk_frozen BK133.out 8
      have hfz11_9 := blk_frozen BK133.out 9
      have hfz11_10 := blk_frozen BK133.out 10
      have hfz11_11 := blk_frozen BK133.out 11
      go_wp2_with (first | ((with_reducible refine gate_callee (f := 55) rfl ?_); refine goesL_ (some 8) rfl rfl Try.func55 (by kernel_rfl) rfl #[.agg #[.string a0_0, .bool a0_1, .int .i64 a0_2, .int .i64 a0_3, .slice A0_4 l0_4.length c0_4]] rfl (by (try simp only [List.map_toArray, List.map_cons, List.map_nil]); first | done | rfl | (simp only [List.length_drop, List.length_take]; rfl)) ?_; (with_reducible refine (spec_TrieOK.calls k a0_0 a0_1 a0_2 a0_3 _ _ l0_4 true _ ?side1 ?side2 A4.out).mono ?_); (case side1 => repeat (first | exact (Kd.C_below HR0_4.out HB.out) | (with_reducible refine Kd.C_alloc ?_ _) | (with_reducible refine Kd.C_drewN ?_ _) | (with_reducible refine Kd.C_drew ?_))); (case side2 => exact HC0_4.out); rintro e w12 ⟨rfl, hb⟩; refine ⟨_, rfl, ?_⟩; have n0_ := Aside0.mk (blk_below (BKx BK133) hb); have n1_ := Aside0.mk (below_step (Bx1 HB GE133) hb); clear BK133; clear HB; have BK133 := n0_; have HB := n1_; clear n0_ n1_; (try clear hb); (try clear hb2); (try clear hk); (try clear hi); have hcz13_0 : w12.cell? ⟨gb133, 0, none⟩ = some (.string a0_0) := (blk_cell BK133.out 0).trans rfl; have hcz13_1 : w12.cell? ⟨gb133, 1, none⟩ = some (.bool a0_1) := (blk_cell BK133.out 1).trans rfl; have hcz13_2 : w12.cell? ⟨gb133, 2, none⟩ = some (.int .i64 a0_2) := (blk_cell BK133.out 2).trans rfl; have hcz13_3 : w12.cell? ⟨gb133, 3, none⟩ = some (.int .i64 a0_3) := (blk_cell BK133.out 3).trans rfl; have hcz13_4 : w12.cell? ⟨gb133, 4, none⟩ = some (.slice A0_4 l0_4.length c0_4) := (blk_cell BK133.out 4).trans rfl; have hcz13_5 : w12.cell? ⟨gb133, 5, none⟩ = some (.string a0_5) := (blk_cell BK133.out 5).trans rfl; have hcz13_6 : w12.cell? ⟨gb133, 6, none⟩ = some (.bool a0_6) := (blk_cell BK133.out 6).trans rfl; have hcz13_7 : w12.cell? ⟨gb133, 7, none⟩ = some (.int .i64 a0_7) := (blk_cell BK133.out 7).trans rfl; have hcz13_8 : w12.cell? ⟨gb133, 8, none⟩ = some (.int .i64 a0_8) := (blk_cell BK133.out 8).trans rfl; have hcz13_9 : w12.cell? ⟨gb133, 9, none⟩ = some (.slice A0_9 l0_9.length c0_9) := (blk_cell BK133.out 9).trans rfl; have hcz13_10 : w12.cell? ⟨gb133, 10, none⟩ = some (.slice A0_10 l0_10.length c0_10) := (blk_cell BK133.out 10).trans rfl; have hcz13_11 : w12.cell? ⟨gb133, 11, none⟩ = some (.slice A0_11 l0_11.length c0_11) := (blk_cell BK133.out 11).trans rfl; have hfz13_0 := blk_frozen BK133.out 0; have hfz13_1 := blk_frozen BK133.out 1; have hfz13_2 := blk_frozen BK133.out 2; have hfz13_3 := blk_frozen BK133.out 3; have hfz13_4 := blk_frozen BK133.out 4; have hfz13_5 := blk_frozen BK133.out 5; have hfz13_6 := blk_frozen BK133.out 6; have hfz13_7 := blk_frozen BK133.out 7; have hfz13_8 := blk_frozen BK133.out 8; have hfz13_9 := blk_frozen BK133.out 9; have hfz13_10 := blk_frozen BK133.out 10; have hfz13_11 := blk_frozen BK133.out 11) | (go_at_call 55; (with_reducible refine (spec_TrieOK.calls k a0_5 a0_6 a0_7 a0_8 _ _ l0_9 true _ ?side1 ?side2 A6.out).mono ?_); (case side1 => repeat (first | exact (Kd.C_below HR0_9.out HB.out) | (with_reducible refine Kd.C_alloc ?_ _) | (with_reducible refine Kd.C_drewN ?_ _) | (with_reducible refine Kd.C_drew ?_))); (case side2 => exact HC0_9.out); rintro e w14 ⟨rfl, hb⟩; have n0_ := Aside0.mk (blk_below (BKx BK133) hb); have n1_ := Aside0.mk (below_step (Bx1 HB GE133) hb); clear BK133; clear HB; have BK133 := n0_; have HB := n1_; clear n0_ n1_; (try clear hb); (try clear hb2); (try clear hk); (try clear hi); have hcz15_0 : w14.cell? ⟨gb133, 0, none⟩ = some (.string a0_0) := (blk_cell BK133.out 0).trans rfl; have hcz15_1 : w14.cell? ⟨gb133, 1, none⟩ = some (.bool a0_1) := (blk_cell BK133.out 1).trans rfl; have hcz15_2 : w14.cell? ⟨gb133, 2, none⟩ = some (.int .i64 a0_2) := (blk_cell BK133.out 2).trans rfl; have hcz15_3 : w14.cell? ⟨gb133, 3, none⟩ = some (.int .i64 a0_3) := (blk_cell BK133.out 3).trans rfl; have hcz15_4 : w14.cell? ⟨gb133, 4, none⟩ = some (.slice A0_4 l0_4.length c0_4) := (blk_cell BK133.out 4).trans rfl; have hcz15_5 : w14.cell? ⟨gb133, 5, none⟩ = some (.string a0_5) := (blk_cell BK133.out 5).trans rfl; have hcz15_6 : w14.cell? ⟨gb133, 6, none⟩ = some (.bool a0_6) := (blk_cell BK133.out 6).trans rfl; have hcz15_7 : w14.cell? ⟨gb133, 7, none⟩ = some (.int .i64 a0_7) := (blk_cell BK133.out 7).trans rfl; have hcz15_8 : w14.cell? ⟨gb133, 8, none⟩ = some (.int .i64 a0_8) := (blk_cell BK133.out 8).trans rfl; have hcz15_9 : w14.cell? ⟨gb133, 9, none⟩ = some (.slice A0_9 l0_9.length c0_9) := (blk_cell BK133.out 9).trans rfl; have hcz15_10 : w14.cell? ⟨gb133, 10, none⟩ = some (.slice A0_10 l0_10.length c0_10) := (blk_cell BK133.out 10).trans rfl; have hcz15_11 : w14.cell? ⟨gb133, 11, none⟩ = some (.slice A0_11 l0_11.length c0_11) := (blk_cell BK133.out 11).trans rfl; have hfz15_0 := blk_frozen BK133.out 0; have hfz15_1 := blk_frozen BK133.out 1; have hfz15_2 := blk_frozen BK133.out 2; have hfz15_3 := blk_frozen BK133.out 3; have hfz15_4 := blk_frozen BK133.out 4; have hfz15_5 := blk_frozen BK133.out 5; have hfz15_6 := blk_frozen BK133.out 6; have hfz15_7 := blk_frozen BK133.out 7; have hfz15_8 := blk_frozen BK133.out 8; have hfz15_9 := blk_frozen BK133.out 9; have hfz15_10 := blk_frozen BK133.out 10; have hfz15_11 := blk_frozen BK133.out 11) | (go_at_call 81; (with_reducible refine (spec_l01In.calls (l0_11.length : Int) 1 6 true _ A8.out).mono ?_); rintro e w' ⟨rfl, ⟨nd, rfl⟩⟩))
      go_meet
      case rel => exact ⟨_, (true), (by first | rfl | (simp; done) | (simp [*]; done)), H', ⟨by first | omega | exact Nat.le_refl _⟩, ⟨by (with_reducible repeat (first | refine blk_drewN ?_ _ | refine blk_drew ?_ | refine blk_alloc ?_ _)); exact BK133.out⟩, ⟨Bx1 HB GE133⟩⟩
    rw [if_neg c10] at H
    have c10b0 : ((l0_10.length : Int) == 0) = false := beq_eq_false_iff_ne.mpr c10
    have c10b1 : ((l0_10.length : Int) != 0) = true := bne_iff_ne.mpr c10
    have c10b2 : ¬ (l0_10 = []) := fun h_ => c10 (by rw [h_]; rfl)
    (first | rw [c10b0] | (simp only [i64_w, i32_w]; rw [c10b0]) | skip)
    by_cases c16 : (l0_10.length : Int) > 8
    · rw [if_pos c16] at H
      have c16b0 : decide (8 < (l0_10.length : Int)) = true := decide_eq_true c16
      have c16b1 : decide (8 < l0_10.length) = true := decide_eq_true (by omega)
      clear c16
      have H' := Aside0.mk H
      clear H
      have hcz17_0 : w3.cell? ⟨gb133, 0, none⟩ = some (.string a0_0) := (blk_cell BK133.out 0).trans rfl
      have hcz17_1 : w3.cell? ⟨gb133, 1, none⟩ = some (.bool a0_1) := (blk_cell BK133.out 1).trans rfl
      have hcz17_2 : w3.cell? ⟨gb133, 2, none⟩ = some (.int .i64 a0_2) := (blk_cell BK133.out 2).trans rfl
      have hcz17_3 : w3.cell? ⟨gb133, 3, none⟩ = some (.int .i64 a0_3) := (blk_cell BK133.out 3).trans rfl
      have hcz17_4 : w3.cell? ⟨gb133, 4, none⟩ = some (.slice A0_4 l0_4.length c0_4) := (blk_cell BK133.out 4).trans rfl
      have hcz17_5 : w3.cell? ⟨gb133, 5, none⟩ = some (.string a0_5) := (blk_cell BK133.out 5).trans rfl
      have hcz17_6 : w3.cell? ⟨gb133, 6, none⟩ = some (.bool a0_6) := (blk_cell BK133.out 6).trans rfl
      have hcz17_7 : w3.cell? ⟨gb133, 7, none⟩ = some (.int .i64 a0_7) := (blk_cell BK133.out 7).trans rfl
      have hcz17_8 : w3.cell? ⟨gb133, 8, none⟩ = some (.int .i64 a0_8) := (blk_cell BK133.out 8).trans rfl
      have hcz17_9 : w3.cell? ⟨gb133, 9, none⟩ = some (.slice A0_9 l0_9.length c0_9) := (blk_cell BK133.out 9).trans rfl
      have hcz17_10 : w3.cell? ⟨gb133, 10, none⟩ = some (.slice A0_10 l0_10.length c0_10) := (blk_cell BK133.out 10).trans rfl
      have hcz17_11 : w3.cell? ⟨gb133, 11, none⟩ = some (.slice A0_11 l0_11.length c0_11) := (blk_cell BK133.out 11).trans rfl
      have hfz17_0 := blk_frozen BK133.out 0
      have hfz17_1 := blk_frozen BK133.out 1
      have hfz17_2 := blk_frozen BK133.out 2
      have hfz17_3 := blk_frozen BK133.out 3
      have hfz17_4 := blk_frozen BK133.out 4
      have hfz17_5 := blk_frozen BK133.out 5
      have hfz17_6 := blk_frozen BK133.out 6
      have hfz17_7 := blk_frozen BK133.out 7
      have hfz17_8 := blk_frozen BK133.out 8
      have hfz17_9 := blk_frozen BK133.out 9
      have hfz17_10 := blk_frozen BK133.out 10
      have hfz17_11 := blk_frozen BK133.out 11
      go_wp2_with (first | ((with_reducible refine gate_callee (f := 55) rfl ?_); refine goesL_ (some 8) rfl rfl Try.func55 (by kernel_rfl) rfl #[.agg #[.string a0_0, .bool a0_1, .int .i64 a0_2, .int .i64 a0_3, .slice A0_4 l0_4.length c0_4]] rfl (by (try simp only [List.map_toArray, List.map_cons, List.map_nil]); first | done | rfl | (simp only [List.length_drop, List.length_take]; rfl)) ?_; (with_reducible refine (spec_TrieOK.calls k a0_0 a0_1 a0_2 a0_3 _ _ l0_4 true _ ?side1 ?side2 A4.out).mono ?_); (case side1 => repeat (first | exact (Kd.C_below HR0_4.out HB.out) | (with_reducible refine Kd.C_alloc ?_ _) | (with_reducible refine Kd.C_drewN ?_ _) | (with_reducible refine Kd.C_drew ?_))); (case side2 => exact HC0_4.out); rintro e w18 ⟨rfl, hb⟩; refine ⟨_, rfl, ?_⟩; have n0_ := Aside0.mk (blk_below (BKx BK133) hb); have n1_ := Aside0.mk (below_step (Bx1 HB GE133) hb); clear BK133; clear HB; have BK133 := n0_; have HB := n1_; clear n0_ n1_; (try clear hb); (try clear hb2); (try clear hk); (try clear hi); have hcz19_0 : w18.cell? ⟨gb133, 0, none⟩ = some (.string a0_0) := (blk_cell BK133.out 0).trans rfl; have hcz19_1 : w18.cell? ⟨gb133, 1, none⟩ = some (.bool a0_1) := (blk_cell BK133.out 1).trans rfl; have hcz19_2 : w18.cell? ⟨gb133, 2, none⟩ = some (.int .i64 a0_2) := (blk_cell BK133.out 2).trans rfl; have hcz19_3 : w18.cell? ⟨gb133, 3, none⟩ = some (.int .i64 a0_3) := (blk_cell BK133.out 3).trans rfl; have hcz19_4 : w18.cell? ⟨gb133, 4, none⟩ = some (.slice A0_4 l0_4.length c0_4) := (blk_cell BK133.out 4).trans rfl; have hcz19_5 : w18.cell? ⟨gb133, 5, none⟩ = some (.string a0_5) := (blk_cell BK133.out 5).trans rfl; have hcz19_6 : w18.cell? ⟨gb133, 6, none⟩ = some (.bool a0_6) := (blk_cell BK133.out 6).trans rfl; have hcz19_7 : w18.cell? ⟨gb133, 7, none⟩ = some (.int .i64 a0_7) := (blk_cell BK133.out 7).trans rfl; have hcz19_8 : w18.cell? ⟨gb133, 8, none⟩ = some (.int .i64 a0_8) := (blk_cell BK133.out 8).trans rfl; have hcz19_9 : w18.cell? ⟨gb133, 9, none⟩ = some (.slice A0_9 l0_9.length c0_9) := (blk_cell BK133.out 9).trans rfl; have hcz19_10 : w18.cell? ⟨gb133, 10, none⟩ = some (.slice A0_10 l0_10.length c0_10) := (blk_cell BK133.out 10).trans rfl; have hcz19_11 : w18.cell? ⟨gb133, 11, none⟩ = some (.slice A0_11 l0_11.length c0_11) := (blk_cell BK133.out 11).trans rfl; have hfz19_0 := blk_frozen BK133.out 0; have hfz19_1 := blk_frozen BK133.out 1; have hfz19_2 := blk_frozen BK133.out 2; have hfz19_3 := blk_frozen BK133.out 3; have hfz19_4 := blk_frozen BK133.out 4; have hfz19_5 := blk_frozen BK133.out 5; have hfz19_6 := blk_frozen BK133.out 6; have hfz19_7 := blk_frozen BK133.out 7; have hfz19_8 := blk_frozen BK133.out 8; have hfz19_9 := blk_frozen BK133.out 9; have hfz19_10 := blk_frozen BK133.out 10; have hfz19_11 := blk_frozen BK133.out 11) | (go_at_call 55; (with_reducible refine (spec_TrieOK.calls k a0_5 a0_6 a0_7 a0_8 _ _ l0_9 true _ ?side1 ?side2 A6.out).mono ?_); (case side1 => repeat (first | exact (Kd.C_below HR0_9.out HB.out) | (with_reducible refine Kd.C_alloc ?_ _) | (with_reducible refine Kd.C_drewN ?_ _) | (with_reducible refine Kd.C_drew ?_))); (case side2 => exact HC0_9.out); rintro e w20 ⟨rfl, hb⟩; have n0_ := Aside0.mk (blk_below (BKx BK133) hb); have n1_ := Aside0.mk (below_step (Bx1 HB GE133) hb); clear BK133; clear HB; have BK133 := n0_; have HB := n1_; clear n0_ n1_; (try clear hb); (try clear hb2); (try clear hk); (try clear hi); have hcz21_0 : w20.cell? ⟨gb133, 0, none⟩ = some (.string a0_0) := (blk_cell BK133.out 0).trans rfl; have hcz21_1 : w20.cell? ⟨gb133, 1, none⟩ = some (.bool a0_1) := (blk_cell BK133.out 1).trans rfl; have hcz21_2 : w20.cell? ⟨gb133, 2, none⟩ = some (.int .i64 a0_2) := (blk_cell BK133.out 2).trans rfl; have hcz21_3 : w20.cell? ⟨gb133, 3, none⟩ = some (.int .i64 a0_3) := (blk_cell BK133.out 3).trans rfl; have hcz21_4 : w20.cell? ⟨gb133, 4, none⟩ = some (.slice A0_4 l0_4.length c0_4) := (blk_cell BK133.out 4).trans rfl; have hcz21_5 : w20.cell? ⟨gb133, 5, none⟩ = some (.string a0_5) := (blk_cell BK133.out 5).trans rfl; have hcz21_6 : w20.cell? ⟨gb133, 6, none⟩ = some (.bool a0_6) := (blk_cell BK133.out 6).trans rfl; have hcz21_7 : w20.cell? ⟨gb133, 7, none⟩ = some (.int .i64 a0_7) := (blk_cell BK133.out 7).trans rfl; have hcz21_8 : w20.cell? ⟨gb133, 8, none⟩ = some (.int .i64 a0_8) := (blk_cell BK133.out 8).trans rfl; have hcz21_9 : w20.cell? ⟨gb133, 9, none⟩ = some (.slice A0_9 l0_9.length c0_9) := (blk_cell BK133.out 9).trans rfl; have hcz21_10 : w20.cell? ⟨gb133, 10, none⟩ = some (.slice A0_10 l0_10.length c0_10) := (blk_cell BK133.out 10).trans rfl; have hcz21_11 : w20.cell? ⟨gb133, 11, none⟩ = some (.slice A0_11 l0_11.length c0_11) := (blk_cell BK133.out 11).trans rfl; have hfz21_0 := blk_frozen BK133.out 0; have hfz21_1 := blk_frozen BK133.out 1; have hfz21_2 := blk_frozen BK133.out 2; have hfz21_3 := blk_frozen BK133.out 3; have hfz21_4 := blk_frozen BK133.out 4; have hfz21_5 := blk_frozen BK133.out 5; have hfz21_6 := blk_frozen BK133.out 6; have hfz21_7 := blk_frozen BK133.out 7; have hfz21_8 := blk_frozen BK133.out 8; have hfz21_9 := blk_frozen BK133.out 9; have hfz21_10 := blk_frozen BK133.out 10; have hfz21_11 := blk_frozen BK133.out 11) | (go_at_call 81; (with_reducible refine (spec_l01In.calls (l0_11.length : Int) 1 6 true _ A8.out).mono ?_); rintro e w' ⟨rfl, ⟨nd, rfl⟩⟩))
      go_meet
      case rel => exact ⟨_, (true), (by first | rfl | (simp; done) | (simp [*]; done)), H', ⟨by first | omega | exact Nat.le_refl _⟩, ⟨by (with_reducible repeat (first | refine blk_drewN ?_ _ | refine blk_drew ?_ | refine blk_alloc ?_ _)); exact BK133.out⟩, ⟨Bx1 HB GE133⟩⟩
    rw [if_neg c16] at H
    have c16b0 : decide (8 < (l0_10.length : Int)) = false := decide_eq_false c16
    have c16b1 : decide (8 < l0_10.length) = false := decide_eq_false (by omega)
    clear c16
    replace H := Option.bind_eq_some_iff.mp H
    obtain ⟨t137, A220, H⟩ := H
    replace H : (if t137 = true then (if 0 < (l0_10.length : Int) then (spec_NodeOK.j0 k (((rdOf ByteArray.empty l0_10 0).size : Int) != 4) a0_0 a0_1 a0_2 a0_3 l0_4 a0_5 a0_6 a0_7 a0_8 l0_9 l0_10 l0_11) else (none)) else (spec_NodeOK.j0 k true a0_0 a0_1 a0_2 a0_3 l0_4 a0_5 a0_6 a0_7 a0_8 l0_9 l0_10 l0_11)) = some r := H
    have A22 := Aside0.mk A220
    clear A220
    by_cases c23 : t137 = true
    rotate_left
    · replace c23 := Bool.eq_false_iff.mpr c23
      subst c23
      have H1 : (spec_NodeOK.j0 k true a0_0 a0_1 a0_2 a0_3 l0_4 a0_5 a0_6 a0_7 a0_8 l0_9 l0_10 l0_11) = some r := by rw [if_neg (show ¬ (false = true) by decide)] at H; exact H
      clear H
      have H := H1
      clear H1
      have H' := Aside0.mk H
      clear H
      have hcz32_0 : w3.cell? ⟨gb133, 0, none⟩ = some (.string a0_0) := (blk_cell BK133.out 0).trans rfl
      have hcz32_1 : w3.cell? ⟨gb133, 1, none⟩ = some (.bool a0_1) := (blk_cell BK133.out 1).trans rfl
      have hcz32_2 : w3.cell? ⟨gb133, 2, none⟩ = some (.int .i64 a0_2) := (blk_cell BK133.out 2).trans rfl
      have hcz32_3 : w3.cell? ⟨gb133, 3, none⟩ = some (.int .i64 a0_3) := (blk_cell BK133.out 3).trans rfl
      have hcz32_4 : w3.cell? ⟨gb133, 4, none⟩ = some (.slice A0_4 l0_4.length c0_4) := (blk_cell BK133.out 4).trans rfl
      have hcz32_5 : w3.cell? ⟨gb133, 5, none⟩ = some (.string a0_5) := (blk_cell BK133.out 5).trans rfl
      have hcz32_6 : w3.cell? ⟨gb133, 6, none⟩ = some (.bool a0_6) := (blk_cell BK133.out 6).trans rfl
      have hcz32_7 : w3.cell? ⟨gb133, 7, none⟩ = some (.int .i64 a0_7) := (blk_cell BK133.out 7).trans rfl
      have hcz32_8 : w3.cell? ⟨gb133, 8, none⟩ = some (.int .i64 a0_8) := (blk_cell BK133.out 8).trans rfl
      have hcz32_9 : w3.cell? ⟨gb133, 9, none⟩ = some (.slice A0_9 l0_9.length c0_9) := (blk_cell BK133.out 9).trans rfl
      have hcz32_10 : w3.cell? ⟨gb133, 10, none⟩ = some (.slice A0_10 l0_10.length c0_10) := (blk_cell BK133.out 10).trans rfl
      have hcz32_11 : w3.cell? ⟨gb133, 11, none⟩ = some (.slice A0_11 l0_11.length c0_11) := (blk_cell BK133.out 11).trans rfl
      have hfz32_0 := blk_frozen BK133.out 0
      have hfz32_1 := blk_frozen BK133.out 1
      have hfz32_2 := blk_frozen BK133.out 2
      have hfz32_3 := blk_frozen BK133.out 3
      have hfz32_4 := blk_frozen BK133.out 4
      have hfz32_5 := blk_frozen BK133.out 5
      have hfz32_6 := blk_frozen BK133.out 6
      have hfz32_7 := blk_frozen BK133.out 7
      have hfz32_8 := blk_frozen BK133.out 8
      have hfz32_9 := blk_frozen BK133.out 9
      have hfz32_10 := blk_frozen BK133.out 10
      have hfz32_11 := blk_frozen BK133.out 11
      go_wp2_with (first | ((with_reducible refine gate_callee (f := 55) rfl ?_); refine goesL_ (some 8) rfl rfl Try.func55 (by kernel_rfl) rfl #[.agg #[.string a0_0, .bool a0_1, .int .i64 a0_2, .int .i64 a0_3, .slice A0_4 l0_4.length c0_4]] rfl (by (try simp only [List.map_toArray, List.map_cons, List.map_nil]); first | done | rfl | (simp only [List.length_drop, List.length_take]; rfl)) ?_; (with_reducible refine (spec_TrieOK.calls k a0_0 a0_1 a0_2 a0_3 _ _ l0_4 true _ ?side1 ?side2 A4.out).mono ?_); (case side1 => repeat (first | exact (Kd.C_below HR0_4.out HB.out) | (with_reducible refine Kd.C_alloc ?_ _) | (with_reducible refine Kd.C_drewN ?_ _) | (with_reducible refine Kd.C_drew ?_))); (case side2 => exact HC0_4.out); rintro e w33 ⟨rfl, hb⟩; refine ⟨_, rfl, ?_⟩; have n0_ := Aside0.mk (blk_below (BKx BK133) hb); have n1_ := Aside0.mk (below_step (Bx1 HB GE133) hb); clear BK133; clear HB; have BK133 := n0_; have HB := n1_; clear n0_ n1_; (try clear hb); (try clear hb2); (try clear hk); (try clear hi); have hcz34_0 : w33.cell? ⟨gb133, 0, none⟩ = some (.string a0_0) := (blk_cell BK133.out 0).trans rfl; have hcz34_1 : w33.cell? ⟨gb133, 1, none⟩ = some (.bool a0_1) := (blk_cell BK133.out 1).trans rfl; have hcz34_2 : w33.cell? ⟨gb133, 2, none⟩ = some (.int .i64 a0_2) := (blk_cell BK133.out 2).trans rfl; have hcz34_3 : w33.cell? ⟨gb133, 3, none⟩ = some (.int .i64 a0_3) := (blk_cell BK133.out 3).trans rfl; have hcz34_4 : w33.cell? ⟨gb133, 4, none⟩ = some (.slice A0_4 l0_4.length c0_4) := (blk_cell BK133.out 4).trans rfl; have hcz34_5 : w33.cell? ⟨gb133, 5, none⟩ = some (.string a0_5) := (blk_cell BK133.out 5).trans rfl; have hcz34_6 : w33.cell? ⟨gb133, 6, none⟩ = some (.bool a0_6) := (blk_cell BK133.out 6).trans rfl; have hcz34_7 : w33.cell? ⟨gb133, 7, none⟩ = some (.int .i64 a0_7) := (blk_cell BK133.out 7).trans rfl; have hcz34_8 : w33.cell? ⟨gb133, 8, none⟩ = some (.int .i64 a0_8) := (blk_cell BK133.out 8).trans rfl; have hcz34_9 : w33.cell? ⟨gb133, 9, none⟩ = some (.slice A0_9 l0_9.length c0_9) := (blk_cell BK133.out 9).trans rfl; have hcz34_10 : w33.cell? ⟨gb133, 10, none⟩ = some (.slice A0_10 l0_10.length c0_10) := (blk_cell BK133.out 10).trans rfl; have hcz34_11 : w33.cell? ⟨gb133, 11, none⟩ = some (.slice A0_11 l0_11.length c0_11) := (blk_cell BK133.out 11).trans rfl; have hfz34_0 := blk_frozen BK133.out 0; have hfz34_1 := blk_frozen BK133.out 1; have hfz34_2 := blk_frozen BK133.out 2; have hfz34_3 := blk_frozen BK133.out 3; have hfz34_4 := blk_frozen BK133.out 4; have hfz34_5 := blk_frozen BK133.out 5; have hfz34_6 := blk_frozen BK133.out 6; have hfz34_7 := blk_frozen BK133.out 7; have hfz34_8 := blk_frozen BK133.out 8; have hfz34_9 := blk_frozen BK133.out 9; have hfz34_10 := blk_frozen BK133.out 10; have hfz34_11 := blk_frozen BK133.out 11) | (go_at_call 55; (with_reducible refine (spec_TrieOK.calls k a0_5 a0_6 a0_7 a0_8 _ _ l0_9 true _ ?side1 ?side2 A6.out).mono ?_); (case side1 => repeat (first | exact (Kd.C_below HR0_9.out HB.out) | (with_reducible refine Kd.C_alloc ?_ _) | (with_reducible refine Kd.C_drewN ?_ _) | (with_reducible refine Kd.C_drew ?_))); (case side2 => exact HC0_9.out); rintro e w35 ⟨rfl, hb⟩; have n0_ := Aside0.mk (blk_below (BKx BK133) hb); have n1_ := Aside0.mk (below_step (Bx1 HB GE133) hb); clear BK133; clear HB; have BK133 := n0_; have HB := n1_; clear n0_ n1_; (try clear hb); (try clear hb2); (try clear hk); (try clear hi); have hcz36_0 : w35.cell? ⟨gb133, 0, none⟩ = some (.string a0_0) := (blk_cell BK133.out 0).trans rfl; have hcz36_1 : w35.cell? ⟨gb133, 1, none⟩ = some (.bool a0_1) := (blk_cell BK133.out 1).trans rfl; have hcz36_2 : w35.cell? ⟨gb133, 2, none⟩ = some (.int .i64 a0_2) := (blk_cell BK133.out 2).trans rfl; have hcz36_3 : w35.cell? ⟨gb133, 3, none⟩ = some (.int .i64 a0_3) := (blk_cell BK133.out 3).trans rfl; have hcz36_4 : w35.cell? ⟨gb133, 4, none⟩ = some (.slice A0_4 l0_4.length c0_4) := (blk_cell BK133.out 4).trans rfl; have hcz36_5 : w35.cell? ⟨gb133, 5, none⟩ = some (.string a0_5) := (blk_cell BK133.out 5).trans rfl; have hcz36_6 : w35.cell? ⟨gb133, 6, none⟩ = some (.bool a0_6) := (blk_cell BK133.out 6).trans rfl; have hcz36_7 : w35.cell? ⟨gb133, 7, none⟩ = some (.int .i64 a0_7) := (blk_cell BK133.out 7).trans rfl; have hcz36_8 : w35.cell? ⟨gb133, 8, none⟩ = some (.int .i64 a0_8) := (blk_cell BK133.out 8).trans rfl; have hcz36_9 : w35.cell? ⟨gb133, 9, none⟩ = some (.slice A0_9 l0_9.length c0_9) := (blk_cell BK133.out 9).trans rfl; have hcz36_10 : w35.cell? ⟨gb133, 10, none⟩ = some (.slice A0_10 l0_10.length c0_10) := (blk_cell BK133.out 10).trans rfl; have hcz36_11 : w35.cell? ⟨gb133, 11, none⟩ = some (.slice A0_11 l0_11.length c0_11) := (blk_cell BK133.out 11).trans rfl; have hfz36_0 := blk_frozen BK133.out 0; have hfz36_1 := blk_frozen BK133.out 1; have hfz36_2 := blk_frozen BK133.out 2; have hfz36_3 := blk_frozen BK133.out 3; have hfz36_4 := blk_frozen BK133.out 4; have hfz36_5 := blk_frozen BK133.out 5; have hfz36_6 := blk_frozen BK133.out 6; have hfz36_7 := blk_frozen BK133.out 7; have hfz36_8 := blk_frozen BK133.out 8; have hfz36_9 := blk_frozen BK133.out 9; have hfz36_10 := blk_frozen BK133.out 10; have hfz36_11 := blk_frozen BK133.out 11) | (go_at_call 81; (with_reducible refine (spec_l01In.calls (l0_11.length : Int) 1 6 true _ A8.out).mono ?_); rintro e w' ⟨rfl, ⟨nd, rfl⟩⟩) | (go_at_call 147; (with_reducible refine (spec_l07Bits.calls k a0_0 a0_1 a0_2 a0_3 _ _ l0_4 32 false _ ?side1 ?side2 A22.out).mono ?_); (case side1 => repeat (first | exact (Kd.C_below HR0_4.out (Bx1 HB GE133)) | (with_reducible refine Kd.C_alloc ?_ _) | (with_reducible refine Kd.C_drewN ?_ _) | (with_reducible refine Kd.C_drew ?_))); (case side2 => exact HC0_4.out); rintro e w37 ⟨rfl, hb⟩; have n0_ := Aside0.mk (blk_below (BKx BK133) hb); have n1_ := Aside0.mk (below_step (Bx1 HB GE133) hb); clear BK133; clear HB; have BK133 := n0_; have HB := n1_; clear n0_ n1_; (try clear hb); (try clear hb2); (try clear hk); (try clear hi)))
      go_meet
      case rel => exact ⟨_, (true), (by first | rfl | (simp; done) | (simp [*]; done)), H', ⟨by first | omega | exact Nat.le_refl _⟩, ⟨by (with_reducible repeat (first | refine blk_drewN ?_ _ | refine blk_drew ?_ | refine blk_alloc ?_ _)); exact BK133.out⟩, ⟨Bx1 HB GE133⟩⟩
    subst c23
    have H1 : (if 0 < (l0_10.length : Int) then (spec_NodeOK.j0 k (((rdOf ByteArray.empty l0_10 0).size : Int) != 4) a0_0 a0_1 a0_2 a0_3 l0_4 a0_5 a0_6 a0_7 a0_8 l0_9 l0_10 l0_11) else (none)) = some r := by rw [if_pos rfl] at H; exact H
    clear H
    have H := H1
    clear H1
    by_cases c24 : 0 < (l0_10.length : Int)
    rotate_left
    · rw [if_neg c24] at H
      exact absurd H (by simp)
    rw [if_pos c24] at H
    have c24b0 : decide (0 < (l0_10.length : Int)) = true := decide_eq_true c24
    have c24b1 : decide (0 < l0_10.length) = true := decide_eq_true (by omega)
    clear c24
    have H' := Aside0.mk H
    clear H
    have hcz25_0 : w3.cell? ⟨gb133, 0, none⟩ = some (.string a0_0) := (blk_cell BK133.out 0).trans rfl
    have hcz25_1 : w3.cell? ⟨gb133, 1, none⟩ = some (.bool a0_1) := (blk_cell BK133.out 1).trans rfl
    have hcz25_2 : w3.cell? ⟨gb133, 2, none⟩ = some (.int .i64 a0_2) := (blk_cell BK133.out 2).trans rfl
    have hcz25_3 : w3.cell? ⟨gb133, 3, none⟩ = some (.int .i64 a0_3) := (blk_cell BK133.out 3).trans rfl
    have hcz25_4 : w3.cell? ⟨gb133, 4, none⟩ = some (.slice A0_4 l0_4.length c0_4) := (blk_cell BK133.out 4).trans rfl
    have hcz25_5 : w3.cell? ⟨gb133, 5, none⟩ = some (.string a0_5) := (blk_cell BK133.out 5).trans rfl
    have hcz25_6 : w3.cell? ⟨gb133, 6, none⟩ = some (.bool a0_6) := (blk_cell BK133.out 6).trans rfl
    have hcz25_7 : w3.cell? ⟨gb133, 7, none⟩ = some (.int .i64 a0_7) := (blk_cell BK133.out 7).trans rfl
    have hcz25_8 : w3.cell? ⟨gb133, 8, none⟩ = some (.int .i64 a0_8) := (blk_cell BK133.out 8).trans rfl
    have hcz25_9 : w3.cell? ⟨gb133, 9, none⟩ = some (.slice A0_9 l0_9.length c0_9) := (blk_cell BK133.out 9).trans rfl
    have hcz25_10 : w3.cell? ⟨gb133, 10, none⟩ = some (.slice A0_10 l0_10.length c0_10) := (blk_cell BK133.out 10).trans rfl
    have hcz25_11 : w3.cell? ⟨gb133, 11, none⟩ = some (.slice A0_11 l0_11.length c0_11) := (blk_cell BK133.out 11).trans rfl
    have hfz25_0 := blk_frozen BK133.out 0
    have hfz25_1 := blk_frozen BK133.out 1
    have hfz25_2 := blk_frozen BK133.out 2
    have hfz25_3 := blk_frozen BK133.out 3
    have hfz25_4 := blk_frozen BK133.out 4
    have hfz25_5 := blk_frozen BK133.out 5
    have hfz25_6 := blk_frozen BK133.out 6
    have hfz25_7 := blk_frozen BK133.out 7
    have hfz25_8 := blk_frozen BK133.out 8
    have hfz25_9 := blk_frozen BK133.out 9
    have hfz25_10 := blk_frozen BK133.out 10
    have hfz25_11 := blk_frozen BK133.out 11
    go_wp2_with (first | ((with_reducible refine gate_callee (f := 55) rfl ?_); refine goesL_ (some 8) rfl rfl Try.func55 (by kernel_rfl) rfl #[.agg #[.string a0_0, .bool a0_1, .int .i64 a0_2, .int .i64 a0_3, .slice A0_4 l0_4.length c0_4]] rfl (by (try simp only [List.map_toArray, List.map_cons, List.map_nil]); first | done | rfl | (simp only [List.length_drop, List.length_take]; rfl)) ?_; (with_reducible refine (spec_TrieOK.calls k a0_0 a0_1 a0_2 a0_3 _ _ l0_4 true _ ?side1 ?side2 A4.out).mono ?_); (case side1 => repeat (first | exact (Kd.C_below HR0_4.out HB.out) | (with_reducible refine Kd.C_alloc ?_ _) | (with_reducible refine Kd.C_drewN ?_ _) | (with_reducible refine Kd.C_drew ?_))); (case side2 => exact HC0_4.out); rintro e w26 ⟨rfl, hb⟩; refine ⟨_, rfl, ?_⟩; have n0_ := Aside0.mk (blk_below (BKx BK133) hb); have n1_ := Aside0.mk (below_step (Bx1 HB GE133) hb); clear BK133; clear HB; have BK133 := n0_; have HB := n1_; clear n0_ n1_; (try clear hb); (try clear hb2); (try clear hk); (try clear hi); have hcz27_0 : w26.cell? ⟨gb133, 0, none⟩ = some (.string a0_0) := (blk_cell BK133.out 0).trans rfl; have hcz27_1 : w26.cell? ⟨gb133, 1, none⟩ = some (.bool a0_1) := (blk_cell BK133.out 1).trans rfl; have hcz27_2 : w26.cell? ⟨gb133, 2, none⟩ = some (.int .i64 a0_2) := (blk_cell BK133.out 2).trans rfl; have hcz27_3 : w26.cell? ⟨gb133, 3, none⟩ = some (.int .i64 a0_3) := (blk_cell BK133.out 3).trans rfl; have hcz27_4 : w26.cell? ⟨gb133, 4, none⟩ = some (.slice A0_4 l0_4.length c0_4) := (blk_cell BK133.out 4).trans rfl; have hcz27_5 : w26.cell? ⟨gb133, 5, none⟩ = some (.string a0_5) := (blk_cell BK133.out 5).trans rfl; have hcz27_6 : w26.cell? ⟨gb133, 6, none⟩ = some (.bool a0_6) := (blk_cell BK133.out 6).trans rfl; have hcz27_7 : w26.cell? ⟨gb133, 7, none⟩ = some (.int .i64 a0_7) := (blk_cell BK133.out 7).trans rfl; have hcz27_8 : w26.cell? ⟨gb133, 8, none⟩ = some (.int .i64 a0_8) := (blk_cell BK133.out 8).trans rfl; have hcz27_9 : w26.cell? ⟨gb133, 9, none⟩ = some (.slice A0_9 l0_9.length c0_9) := (blk_cell BK133.out 9).trans rfl; have hcz27_10 : w26.cell? ⟨gb133, 10, none⟩ = some (.slice A0_10 l0_10.length c0_10) := (blk_cell BK133.out 10).trans rfl; have hcz27_11 : w26.cell? ⟨gb133, 11, none⟩ = some (.slice A0_11 l0_11.length c0_11) := (blk_cell BK133.out 11).trans rfl; have hfz27_0 := blk_frozen BK133.out 0; have hfz27_1 := blk_frozen BK133.out 1; have hfz27_2 := blk_frozen BK133.out 2; have hfz27_3 := blk_frozen BK133.out 3; have hfz27_4 := blk_frozen BK133.out 4; have hfz27_5 := blk_frozen BK133.out 5; have hfz27_6 := blk_frozen BK133.out 6; have hfz27_7 := blk_frozen BK133.out 7; have hfz27_8 := blk_frozen BK133.out 8; have hfz27_9 := blk_frozen BK133.out 9; have hfz27_10 := blk_frozen BK133.out 10; have hfz27_11 := blk_frozen BK133.out 11) | (go_at_call 55; (with_reducible refine (spec_TrieOK.calls k a0_5 a0_6 a0_7 a0_8 _ _ l0_9 true _ ?side1 ?side2 A6.out).mono ?_); (case side1 => repeat (first | exact (Kd.C_below HR0_9.out HB.out) | (with_reducible refine Kd.C_alloc ?_ _) | (with_reducible refine Kd.C_drewN ?_ _) | (with_reducible refine Kd.C_drew ?_))); (case side2 => exact HC0_9.out); rintro e w28 ⟨rfl, hb⟩; have n0_ := Aside0.mk (blk_below (BKx BK133) hb); have n1_ := Aside0.mk (below_step (Bx1 HB GE133) hb); clear BK133; clear HB; have BK133 := n0_; have HB := n1_; clear n0_ n1_; (try clear hb); (try clear hb2); (try clear hk); (try clear hi); have hcz29_0 : w28.cell? ⟨gb133, 0, none⟩ = some (.string a0_0) := (blk_cell BK133.out 0).trans rfl; have hcz29_1 : w28.cell? ⟨gb133, 1, none⟩ = some (.bool a0_1) := (blk_cell BK133.out 1).trans rfl; have hcz29_2 : w28.cell? ⟨gb133, 2, none⟩ = some (.int .i64 a0_2) := (blk_cell BK133.out 2).trans rfl; have hcz29_3 : w28.cell? ⟨gb133, 3, none⟩ = some (.int .i64 a0_3) := (blk_cell BK133.out 3).trans rfl; have hcz29_4 : w28.cell? ⟨gb133, 4, none⟩ = some (.slice A0_4 l0_4.length c0_4) := (blk_cell BK133.out 4).trans rfl; have hcz29_5 : w28.cell? ⟨gb133, 5, none⟩ = some (.string a0_5) := (blk_cell BK133.out 5).trans rfl; have hcz29_6 : w28.cell? ⟨gb133, 6, none⟩ = some (.bool a0_6) := (blk_cell BK133.out 6).trans rfl; have hcz29_7 : w28.cell? ⟨gb133, 7, none⟩ = some (.int .i64 a0_7) := (blk_cell BK133.out 7).trans rfl; have hcz29_8 : w28.cell? ⟨gb133, 8, none⟩ = some (.int .i64 a0_8) := (blk_cell BK133.out 8).trans rfl; have hcz29_9 : w28.cell? ⟨gb133, 9, none⟩ = some (.slice A0_9 l0_9.length c0_9) := (blk_cell BK133.out 9).trans rfl; have hcz29_10 : w28.cell? ⟨gb133, 10, none⟩ = some (.slice A0_10 l0_10.length c0_10) := (blk_cell BK133.out 10).trans rfl; have hcz29_11 : w28.cell? ⟨gb133, 11, none⟩ = some (.slice A0_11 l0_11.length c0_11) := (blk_cell BK133.out 11).trans rfl; have hfz29_0 := blk_frozen BK133.out 0; have hfz29_1 := blk_frozen BK133.out 1; have hfz29_2 := blk_frozen BK133.out 2; have hfz29_3 := blk_frozen BK133.out 3; have hfz29_4 := blk_frozen BK133.out 4; have hfz29_5 := blk_frozen BK133.out 5; have hfz29_6 := blk_frozen BK133.out 6; have hfz29_7 := blk_frozen BK133.out 7; have hfz29_8 := blk_frozen BK133.out 8; have hfz29_9 := blk_frozen BK133.out 9; have hfz29_10 := blk_frozen BK133.out 10; have hfz29_11 := blk_frozen BK133.out 11) | (go_at_call 81; (with_reducible refine (spec_l01In.calls (l0_11.length : Int) 1 6 true _ A8.out).mono ?_); rintro e w' ⟨rfl, ⟨nd, rfl⟩⟩) | (go_at_call 147; (with_reducible refine (spec_l07Bits.calls k a0_0 a0_1 a0_2 a0_3 _ _ l0_4 32 true _ ?side1 ?side2 A22.out).mono ?_); (case side1 => repeat (first | exact (Kd.C_below HR0_4.out (Bx1 HB GE133)) | (with_reducible refine Kd.C_alloc ?_ _) | (with_reducible refine Kd.C_drewN ?_ _) | (with_reducible refine Kd.C_drew ?_))); (case side2 => exact HC0_4.out); rintro e w30 ⟨rfl, hb⟩; have n0_ := Aside0.mk (blk_below (BKx BK133) hb); have n1_ := Aside0.mk (below_step (Bx1 HB GE133) hb); clear BK133; clear HB; have BK133 := n0_; have HB := n1_; clear n0_ n1_; (try clear hb); (try clear hb2); (try clear hk); (try clear hi); have hcz31_0 : w30.cell? ⟨gb133, 0, none⟩ = some (.string a0_0) := (blk_cell BK133.out 0).trans rfl; have hcz31_1 : w30.cell? ⟨gb133, 1, none⟩ = some (.bool a0_1) := (blk_cell BK133.out 1).trans rfl; have hcz31_2 : w30.cell? ⟨gb133, 2, none⟩ = some (.int .i64 a0_2) := (blk_cell BK133.out 2).trans rfl; have hcz31_3 : w30.cell? ⟨gb133, 3, none⟩ = some (.int .i64 a0_3) := (blk_cell BK133.out 3).trans rfl; have hcz31_4 : w30.cell? ⟨gb133, 4, none⟩ = some (.slice A0_4 l0_4.length c0_4) := (blk_cell BK133.out 4).trans rfl; have hcz31_5 : w30.cell? ⟨gb133, 5, none⟩ = some (.string a0_5) := (blk_cell BK133.out 5).trans rfl; have hcz31_6 : w30.cell? ⟨gb133, 6, none⟩ = some (.bool a0_6) := (blk_cell BK133.out 6).trans rfl; have hcz31_7 : w30.cell? ⟨gb133, 7, none⟩ = some (.int .i64 a0_7) := (blk_cell BK133.out 7).trans rfl; have hcz31_8 : w30.cell? ⟨gb133, 8, none⟩ = some (.int .i64 a0_8) := (blk_cell BK133.out 8).trans rfl; have hcz31_9 : w30.cell? ⟨gb133, 9, none⟩ = some (.slice A0_9 l0_9.length c0_9) := (blk_cell BK133.out 9).trans rfl; have hcz31_10 : w30.cell? ⟨gb133, 10, none⟩ = some (.slice A0_10 l0_10.length c0_10) := (blk_cell BK133.out 10).trans rfl; have hcz31_11 : w30.cell? ⟨gb133, 11, none⟩ = some (.slice A0_11 l0_11.length c0_11) := (blk_cell BK133.out 11).trans rfl; have hfz31_0 := blk_frozen BK133.out 0; have hfz31_1 := blk_frozen BK133.out 1; have hfz31_2 := blk_frozen BK133.out 2; have hfz31_3 := blk_frozen BK133.out 3; have hfz31_4 := blk_frozen BK133.out 4; have hfz31_5 := blk_frozen BK133.out 5; have hfz31_6 := blk_frozen BK133.out 6; have hfz31_7 := blk_frozen BK133.out 7; have hfz31_8 := blk_frozen BK133.out 8; have hfz31_9 := blk_frozen BK133.out 9; have hfz31_10 := blk_frozen BK133.out 10; have hfz31_11 := blk_frozen BK133.out 11; have p138 : 0 ≤ (0 : Int) := (by omega); have q138 : 0 < (l0_10.length : Int) := of_decide_eq_true (by first | (with_reducible assumption) | assumption); obtain ⟨ad138, e138, hx138_0⟩ := Kd.at_string HR0_10.out 0 p138 q138; cases e138; have qi138 : (0 < l0_10.length) = True := eq_true (by omega); (try rw [show ((0 : Int)).toNat = 0 from rfl] at hx138_0); (try rw [Addr.add_zero'] at hx138_0); replace hx138_0 := (HB.out.cell (World.block_lt_of_cell? w _ hx138_0)).trans hx138_0; replace p138 := eq_true p138; replace q138 := eq_true q138))
    go_meet
    case rel => exact ⟨_, ((((rdOf ByteArray.empty l0_10 0).size : Int) != 4)), (by first | rfl | (simp; done) | (simp [*]; done)), H', ⟨by first | omega | exact Nat.le_refl _⟩, ⟨by (with_reducible repeat (first | refine blk_drewN ?_ _ | refine blk_drew ?_ | refine blk_alloc ?_ _)); exact BK133.out⟩, ⟨Bx1 HB GE133⟩⟩
  case rest =>
    clear HC2
    try clear c1
    try clear p1
    try clear q1
    try clear hx1
    try clear qi1
    try clear c2
    try clear p2
    try clear c5
    try clear c7
    try clear c9
    try clear c10
    try clear c10b0
    try clear c10b1
    try clear c10b2
    try clear p13
    try clear q13
    try clear hx13
    try clear qi13
    try clear c16
    try clear c16b0
    try clear c16b1
    try clear c23
    try clear c24
    try clear c24b0
    try clear c24b1
    try clear hcz11_0 hcz11_1 hcz11_10 hcz11_11 hcz11_2 hcz11_3 hcz11_4 hcz11_5 hcz11_6 hcz11_7 hcz11_8 hcz11_9
    try clear hcz13_0 hcz13_1 hcz13_10 hcz13_11 hcz13_2 hcz13_3 hcz13_4 hcz13_5 hcz13_6 hcz13_7 hcz13_8 hcz13_9
    try clear hcz15_0 hcz15_1 hcz15_10 hcz15_11 hcz15_2 hcz15_3 hcz15_4 hcz15_5 hcz15_6 hcz15_7 hcz15_8 hcz15_9
    try clear hcz17_0 hcz17_1 hcz17_10 hcz17_11 hcz17_2 hcz17_3 hcz17_4 hcz17_5 hcz17_6 hcz17_7 hcz17_8 hcz17_9
    try clear hcz19_0 hcz19_1 hcz19_10 hcz19_11 hcz19_2 hcz19_3 hcz19_4 hcz19_5 hcz19_6 hcz19_7 hcz19_8 hcz19_9
    try clear hcz21_0 hcz21_1 hcz21_10 hcz21_11 hcz21_2 hcz21_3 hcz21_4 hcz21_5 hcz21_6 hcz21_7 hcz21_8 hcz21_9
    try clear hcz25_0 hcz25_1 hcz25_10 hcz25_11 hcz25_2 hcz25_3 hcz25_4 hcz25_5 hcz25_6 hcz25_7 hcz25_8 hcz25_9
    try clear hcz27_0 hcz27_1 hcz27_10 hcz27_11 hcz27_2 hcz27_3 hcz27_4 hcz27_5 hcz27_6 hcz27_7 hcz27_8 hcz27_9
    try clear hcz29_0 hcz29_1 hcz29_10 hcz29_11 hcz29_2 hcz29_3 hcz29_4 hcz29_5 hcz29_6 hcz29_7 hcz29_8 hcz29_9
    try clear hcz31_0 hcz31_1 hcz31_10 hcz31_11 hcz31_2 hcz31_3 hcz31_4 hcz31_5 hcz31_6 hcz31_7 hcz31_8 hcz31_9
    try clear hcz32_0 hcz32_1 hcz32_10 hcz32_11 hcz32_2 hcz32_3 hcz32_4 hcz32_5 hcz32_6 hcz32_7 hcz32_8 hcz32_9
    try clear hcz34_0 hcz34_1 hcz34_10 hcz34_11 hcz34_2 hcz34_3 hcz34_4 hcz34_5 hcz34_6 hcz34_7 hcz34_8 hcz34_9
    try clear hcz36_0 hcz36_1 hcz36_10 hcz36_11 hcz36_2 hcz36_3 hcz36_4 hcz36_5 hcz36_6 hcz36_7 hcz36_8 hcz36_9
    try clear hcz38_0 hcz38_1 hcz38_10 hcz38_11 hcz38_2 hcz38_3 hcz38_4 hcz38_5 hcz38_6 hcz38_7 hcz38_8 hcz38_9
    try clear hcz40_0 hcz40_1 hcz40_10 hcz40_11 hcz40_2 hcz40_3 hcz40_4 hcz40_5 hcz40_6 hcz40_7 hcz40_8 hcz40_9
    try clear hcz42_0 hcz42_1 hcz42_10 hcz42_11 hcz42_2 hcz42_3 hcz42_4 hcz42_5 hcz42_6 hcz42_7 hcz42_8 hcz42_9
    try clear hcz43_0 hcz43_1 hcz43_10 hcz43_11 hcz43_2 hcz43_3 hcz43_4 hcz43_5 hcz43_6 hcz43_7 hcz43_8 hcz43_9
    try clear hcz45_0 hcz45_1 hcz45_10 hcz45_11 hcz45_2 hcz45_3 hcz45_4 hcz45_5 hcz45_6 hcz45_7 hcz45_8 hcz45_9
    try clear hcz47_0 hcz47_1 hcz47_10 hcz47_11 hcz47_2 hcz47_3 hcz47_4 hcz47_5 hcz47_6 hcz47_7 hcz47_8 hcz47_9
    try clear hfz11_0 hfz11_1 hfz11_10 hfz11_11 hfz11_2 hfz11_3 hfz11_4 hfz11_5 hfz11_6 hfz11_7 hfz11_8 hfz11_9
    try clear hfz13_0 hfz13_1 hfz13_10 hfz13_11 hfz13_2 hfz13_3 hfz13_4 hfz13_5 hfz13_6 hfz13_7 hfz13_8 hfz13_9
    try clear hfz15_0 hfz15_1 hfz15_10 hfz15_11 hfz15_2 hfz15_3 hfz15_4 hfz15_5 hfz15_6 hfz15_7 hfz15_8 hfz15_9
    try clear hfz17_0 hfz17_1 hfz17_10 hfz17_11 hfz17_2 hfz17_3 hfz17_4 hfz17_5 hfz17_6 hfz17_7 hfz17_8 hfz17_9
    try clear hfz19_0 hfz19_1 hfz19_10 hfz19_11 hfz19_2 hfz19_3 hfz19_4 hfz19_5 hfz19_6 hfz19_7 hfz19_8 hfz19_9
    try clear hfz21_0 hfz21_1 hfz21_10 hfz21_11 hfz21_2 hfz21_3 hfz21_4 hfz21_5 hfz21_6 hfz21_7 hfz21_8 hfz21_9
    try clear hfz25_0 hfz25_1 hfz25_10 hfz25_11 hfz25_2 hfz25_3 hfz25_4 hfz25_5 hfz25_6 hfz25_7 hfz25_8 hfz25_9
    try clear hfz27_0 hfz27_1 hfz27_10 hfz27_11 hfz27_2 hfz27_3 hfz27_4 hfz27_5 hfz27_6 hfz27_7 hfz27_8 hfz27_9
    try clear hfz29_0 hfz29_1 hfz29_10 hfz29_11 hfz29_2 hfz29_3 hfz29_4 hfz29_5 hfz29_6 hfz29_7 hfz29_8 hfz29_9
    try clear hfz31_0 hfz31_1 hfz31_10 hfz31_11 hfz31_2 hfz31_3 hfz31_4 hfz31_5 hfz31_6 hfz31_7 hfz31_8 hfz31_9
    try clear hfz32_0 hfz32_1 hfz32_10 hfz32_11 hfz32_2 hfz32_3 hfz32_4 hfz32_5 hfz32_6 hfz32_7 hfz32_8 hfz32_9
    try clear hfz34_0 hfz34_1 hfz34_10 hfz34_11 hfz34_2 hfz34_3 hfz34_4 hfz34_5 hfz34_6 hfz34_7 hfz34_8 hfz34_9
    try clear hfz36_0 hfz36_1 hfz36_10 hfz36_11 hfz36_2 hfz36_3 hfz36_4 hfz36_5 hfz36_6 hfz36_7 hfz36_8 hfz36_9
    try clear hfz38_0 hfz38_1 hfz38_10 hfz38_11 hfz38_2 hfz38_3 hfz38_4 hfz38_5 hfz38_6 hfz38_7 hfz38_8 hfz38_9
    try clear hfz40_0 hfz40_1 hfz40_10 hfz40_11 hfz40_2 hfz40_3 hfz40_4 hfz40_5 hfz40_6 hfz40_7 hfz40_8 hfz40_9
    try clear hfz42_0 hfz42_1 hfz42_10 hfz42_11 hfz42_2 hfz42_3 hfz42_4 hfz42_5 hfz42_6 hfz42_7 hfz42_8 hfz42_9
    try clear hfz43_0 hfz43_1 hfz43_10 hfz43_11 hfz43_2 hfz43_3 hfz43_4 hfz43_5 hfz43_6 hfz43_7 hfz43_8 hfz43_9
    try clear hfz45_0 hfz45_1 hfz45_10 hfz45_11 hfz45_2 hfz45_3 hfz45_4 hfz45_5 hfz45_6 hfz45_7 hfz45_8 hfz45_9
    try clear hfz47_0 hfz47_1 hfz47_10 hfz47_11 hfz47_2 hfz47_3 hfz47_4 hfz47_5 hfz47_6 hfz47_7 hfz47_8 hfz47_9
    try clear hx138_0
    try clear p138
    try clear q138
    obtain ⟨kq, x48_1, rfl, HA, HJ1, BK133, HB⟩ := hcut
    cases kq with
    | zero => exact absurd HA.out (by simp [spec_NodeOK.j0])
    | succ kj1 =>
      have H := HA.out
      clear HA
      simp only [spec_NodeOK.j0] at H
      by_cases c49 : x48_1 = true
      · subst c49
        have H1 : (some false) = some r := by rw [if_pos rfl] at H; exact H
        clear H
        have H := H1
        clear H1
        obtain rfl := Option.some.inj H
        go_wp2
        go_ret
        exact ⟨by first | rfl | (simp [errW_none, errW_some] <;> rfl) | (simp [*, errW_none, errW_some] <;> rfl), Bx1 HB GE133⟩
      replace c49 := Bool.eq_false_iff.mpr c49
      subst c49
      have H1 : (spec_NodeOK.l0 kj1 0 a0_0 a0_1 a0_2 a0_3 l0_4 a0_5 a0_6 a0_7 a0_8 l0_9 l0_10 l0_11) = some r := by rw [if_neg (show ¬ (false = true) by decide)] at H; exact H
      clear H
      have H := H1
      clear H1
      have H' := Aside0.mk H
      clear H
      go_wp2
      go_loopg [3] kj1 (fun kq v3 w' => ∃ (x3_2 : Int), v3 = .int .i64 x3_2 ∧ Aside0 (spec_NodeOK.l0 kq x3_2 a0_0 a0_1 a0_2 a0_3 l0_4 a0_5 a0_6 a0_7 a0_8 l0_9 l0_10 l0_11 = some r) ∧ Aside0 (kq ≤ kj1) ∧ Aside0 (w'.heap[gb133]? = some (.cells #[.string a0_0, .bool a0_1, .int .i64 a0_2, .int .i64 a0_3, (.slice A0_4 l0_4.length c0_4), .string a0_5, .bool a0_6, .int .i64 a0_7, .int .i64 a0_8, (.slice A0_9 l0_9.length c0_9), (.slice A0_10 l0_10.length c0_10), (.slice A0_11 l0_11.length c0_11)] 102 (0, 0))) ∧ Aside0 (Below w.heap.size w w'))
      case atStart => exact ⟨(0), (by first | rfl | (simp; done) | (simp [*]; done)), H', ⟨Nat.le_refl _⟩, ⟨by (with_reducible repeat (first | refine blk_drewN ?_ _ | refine blk_drew ?_ | refine blk_alloc ?_ _)); exact BK133.out⟩, ⟨Bx1 HB GE133⟩⟩
      case round =>
        clear H'
        try clear c1
        try clear p1
        try clear q1
        try clear hx1
        try clear qi1
        try clear c2
        try clear p2
        try clear c4
        try clear c5
        try clear c7
        try clear c9
        try clear c10
        try clear c10b0
        try clear c10b1
        try clear c10b2
        try clear p13
        try clear q13
        try clear hx13
        try clear qi13
        try clear c16
        try clear c16b0
        try clear c16b1
        try clear c23
        try clear c24
        try clear c24b0
        try clear c24b1
        try clear c49
        try clear hcz11_0 hcz11_1 hcz11_10 hcz11_11 hcz11_2 hcz11_3 hcz11_4 hcz11_5 hcz11_6 hcz11_7 hcz11_8 hcz11_9
        try clear hcz13_0 hcz13_1 hcz13_10 hcz13_11 hcz13_2 hcz13_3 hcz13_4 hcz13_5 hcz13_6 hcz13_7 hcz13_8 hcz13_9
        try clear hcz15_0 hcz15_1 hcz15_10 hcz15_11 hcz15_2 hcz15_3 hcz15_4 hcz15_5 hcz15_6 hcz15_7 hcz15_8 hcz15_9
        try clear hcz17_0 hcz17_1 hcz17_10 hcz17_11 hcz17_2 hcz17_3 hcz17_4 hcz17_5 hcz17_6 hcz17_7 hcz17_8 hcz17_9
        try clear hcz19_0 hcz19_1 hcz19_10 hcz19_11 hcz19_2 hcz19_3 hcz19_4 hcz19_5 hcz19_6 hcz19_7 hcz19_8 hcz19_9
        try clear hcz21_0 hcz21_1 hcz21_10 hcz21_11 hcz21_2 hcz21_3 hcz21_4 hcz21_5 hcz21_6 hcz21_7 hcz21_8 hcz21_9
        try clear hcz25_0 hcz25_1 hcz25_10 hcz25_11 hcz25_2 hcz25_3 hcz25_4 hcz25_5 hcz25_6 hcz25_7 hcz25_8 hcz25_9
        try clear hcz27_0 hcz27_1 hcz27_10 hcz27_11 hcz27_2 hcz27_3 hcz27_4 hcz27_5 hcz27_6 hcz27_7 hcz27_8 hcz27_9
        try clear hcz29_0 hcz29_1 hcz29_10 hcz29_11 hcz29_2 hcz29_3 hcz29_4 hcz29_5 hcz29_6 hcz29_7 hcz29_8 hcz29_9
        try clear hcz31_0 hcz31_1 hcz31_10 hcz31_11 hcz31_2 hcz31_3 hcz31_4 hcz31_5 hcz31_6 hcz31_7 hcz31_8 hcz31_9
        try clear hcz32_0 hcz32_1 hcz32_10 hcz32_11 hcz32_2 hcz32_3 hcz32_4 hcz32_5 hcz32_6 hcz32_7 hcz32_8 hcz32_9
        try clear hcz34_0 hcz34_1 hcz34_10 hcz34_11 hcz34_2 hcz34_3 hcz34_4 hcz34_5 hcz34_6 hcz34_7 hcz34_8 hcz34_9
        try clear hcz36_0 hcz36_1 hcz36_10 hcz36_11 hcz36_2 hcz36_3 hcz36_4 hcz36_5 hcz36_6 hcz36_7 hcz36_8 hcz36_9
        try clear hcz38_0 hcz38_1 hcz38_10 hcz38_11 hcz38_2 hcz38_3 hcz38_4 hcz38_5 hcz38_6 hcz38_7 hcz38_8 hcz38_9
        try clear hcz40_0 hcz40_1 hcz40_10 hcz40_11 hcz40_2 hcz40_3 hcz40_4 hcz40_5 hcz40_6 hcz40_7 hcz40_8 hcz40_9
        try clear hcz42_0 hcz42_1 hcz42_10 hcz42_11 hcz42_2 hcz42_3 hcz42_4 hcz42_5 hcz42_6 hcz42_7 hcz42_8 hcz42_9
        try clear hcz43_0 hcz43_1 hcz43_10 hcz43_11 hcz43_2 hcz43_3 hcz43_4 hcz43_5 hcz43_6 hcz43_7 hcz43_8 hcz43_9
        try clear hcz45_0 hcz45_1 hcz45_10 hcz45_11 hcz45_2 hcz45_3 hcz45_4 hcz45_5 hcz45_6 hcz45_7 hcz45_8 hcz45_9
        try clear hcz47_0 hcz47_1 hcz47_10 hcz47_11 hcz47_2 hcz47_3 hcz47_4 hcz47_5 hcz47_6 hcz47_7 hcz47_8 hcz47_9
        try clear hfz11_0 hfz11_1 hfz11_10 hfz11_11 hfz11_2 hfz11_3 hfz11_4 hfz11_5 hfz11_6 hfz11_7 hfz11_8 hfz11_9
        try clear hfz13_0 hfz13_1 hfz13_10 hfz13_11 hfz13_2 hfz13_3 hfz13_4 hfz13_5 hfz13_6 hfz13_7 hfz13_8 hfz13_9
        try clear hfz15_0 hfz15_1 hfz15_10 hfz15_11 hfz15_2 hfz15_3 hfz15_4 hfz15_5 hfz15_6 hfz15_7 hfz15_8 hfz15_9
        try clear hfz17_0 hfz17_1 hfz17_10 hfz17_11 hfz17_2 hfz17_3 hfz17_4 hfz17_5 hfz17_6 hfz17_7 hfz17_8 hfz17_9
        try clear hfz19_0 hfz19_1 hfz19_10 hfz19_11 hfz19_2 hfz19_3 hfz19_4 hfz19_5 hfz19_6 hfz19_7 hfz19_8 hfz19_9
        try clear hfz21_0 hfz21_1 hfz21_10 hfz21_11 hfz21_2 hfz21_3 hfz21_4 hfz21_5 hfz21_6 hfz21_7 hfz21_8 hfz21_9
        try clear hfz25_0 hfz25_1 hfz25_10 hfz25_11 hfz25_2 hfz25_3 hfz25_4 hfz25_5 hfz25_6 hfz25_7 hfz25_8 hfz25_9
        try clear hfz27_0 hfz27_1 hfz27_10 hfz27_11 hfz27_2 hfz27_3 hfz27_4 hfz27_5 hfz27_6 hfz27_7 hfz27_8 hfz27_9
        try clear hfz29_0 hfz29_1 hfz29_10 hfz29_11 hfz29_2 hfz29_3 hfz29_4 hfz29_5 hfz29_6 hfz29_7 hfz29_8 hfz29_9
        try clear hfz31_0 hfz31_1 hfz31_10 hfz31_11 hfz31_2 hfz31_3 hfz31_4 hfz31_5 hfz31_6 hfz31_7 hfz31_8 hfz31_9
        try clear hfz32_0 hfz32_1 hfz32_10 hfz32_11 hfz32_2 hfz32_3 hfz32_4 hfz32_5 hfz32_6 hfz32_7 hfz32_8 hfz32_9
        try clear hfz34_0 hfz34_1 hfz34_10 hfz34_11 hfz34_2 hfz34_3 hfz34_4 hfz34_5 hfz34_6 hfz34_7 hfz34_8 hfz34_9
        try clear hfz36_0 hfz36_1 hfz36_10 hfz36_11 hfz36_2 hfz36_3 hfz36_4 hfz36_5 hfz36_6 hfz36_7 hfz36_8 hfz36_9
        try clear hfz38_0 hfz38_1 hfz38_10 hfz38_11 hfz38_2 hfz38_3 hfz38_4 hfz38_5 hfz38_6 hfz38_7 hfz38_8 hfz38_9
        try clear hfz40_0 hfz40_1 hfz40_10 hfz40_11 hfz40_2 hfz40_3 hfz40_4 hfz40_5 hfz40_6 hfz40_7 hfz40_8 hfz40_9
        try clear hfz42_0 hfz42_1 hfz42_10 hfz42_11 hfz42_2 hfz42_3 hfz42_4 hfz42_5 hfz42_6 hfz42_7 hfz42_8 hfz42_9
        try clear hfz43_0 hfz43_1 hfz43_10 hfz43_11 hfz43_2 hfz43_3 hfz43_4 hfz43_5 hfz43_6 hfz43_7 hfz43_8 hfz43_9
        try clear hfz45_0 hfz45_1 hfz45_10 hfz45_11 hfz45_2 hfz45_3 hfz45_4 hfz45_5 hfz45_6 hfz45_7 hfz45_8 hfz45_9
        try clear hfz47_0 hfz47_1 hfz47_10 hfz47_11 hfz47_2 hfz47_3 hfz47_4 hfz47_5 hfz47_6 hfz47_7 hfz47_8 hfz47_9
        try clear hx138_0
        try clear p1
        try clear p13
        try clear p138
        try clear p2
        try clear q1
        try clear q13
        try clear q138
        obtain ⟨x3_2, rfl, HA, HK2, BK133, HB⟩ := hrel
        cases gk with
        | zero => exact absurd HA.out (by simp [spec_NodeOK.l0])
        | succ k2 =>
          have H := HA.out
          clear HA
          simp only [spec_NodeOK.l0] at H
          by_cases c50 : x3_2 < (l0_11.length : Int)
          · rw [if_pos c50] at H
            have c50b0 : decide (x3_2 < (l0_11.length : Int)) = true := decide_eq_true c50
            clear c50
            by_cases c51 : 0 ≤ x3_2
            rotate_left
            · rw [if_neg c51] at H
              exact absurd H (by simp)
            rw [if_pos c51] at H
            have c51b0 : decide (0 ≤ x3_2) = true := decide_eq_true c51
            clear c51
            replace H := Option.bind_eq_some_iff.mp H
            obtain ⟨t140, A520, H⟩ := H
            replace H : (if t140 = true then (spec_NodeOK.l0 k2 (wrap64 (x3_2 + 1)) a0_0 a0_1 a0_2 a0_3 l0_4 a0_5 a0_6 a0_7 a0_8 l0_9 l0_10 l0_11) else (some false)) = some r := H
            have A52 := Aside0.mk A520
            clear A520
            by_cases c53 : t140 = true
            rotate_left
            · replace c53 := Bool.eq_false_iff.mpr c53
              subst c53
              have H1 : (some false) = some r := by rw [if_neg (show ¬ (false = true) by decide)] at H; exact H
              clear H
              have H := H1
              clear H1
              obtain rfl := Option.some.inj H
              have hcz55_0 : wr.cell? ⟨gb133, 0, none⟩ = some (.string a0_0) := (blk_cell BK133.out 0).trans rfl
              have hcz55_1 : wr.cell? ⟨gb133, 1, none⟩ = some (.bool a0_1) := (blk_cell BK133.out 1).trans rfl
              have hcz55_2 : wr.cell? ⟨gb133, 2, none⟩ = some (.int .i64 a0_2) := (blk_cell BK133.out 2).trans rfl
              have hcz55_3 : wr.cell? ⟨gb133, 3, none⟩ = some (.int .i64 a0_3) := (blk_cell BK133.out 3).trans rfl
              have hcz55_4 : wr.cell? ⟨gb133, 4, none⟩ = some (.slice A0_4 l0_4.length c0_4) := (blk_cell BK133.out 4).trans rfl
              have hcz55_5 : wr.cell? ⟨gb133, 5, none⟩ = some (.string a0_5) := (blk_cell BK133.out 5).trans rfl
              have hcz55_6 : wr.cell? ⟨gb133, 6, none⟩ = some (.bool a0_6) := (blk_cell BK133.out 6).trans rfl
              have hcz55_7 : wr.cell? ⟨gb133, 7, none⟩ = some (.int .i64 a0_7) := (blk_cell BK133.out 7).trans rfl
              have hcz55_8 : wr.cell? ⟨gb133, 8, none⟩ = some (.int .i64 a0_8) := (blk_cell BK133.out 8).trans rfl
              have hcz55_9 : wr.cell? ⟨gb133, 9, none⟩ = some (.slice A0_9 l0_9.length c0_9) := (blk_cell BK133.out 9).trans rfl
              have hcz55_10 : wr.cell? ⟨gb133, 10, none⟩ = some (.slice A0_10 l0_10.length c0_10) := (blk_cell BK133.out 10).trans rfl
              have hcz55_11 : wr.cell? ⟨gb133, 11, none⟩ = some (.slice A0_11 l0_11.length c0_11) := (blk_cell BK133.out 11).trans rfl
              have hfz55_0 := blk_frozen BK133.out 0
              have hfz55_1 := blk_frozen BK133.out 1
              have hfz55_2 := blk_frozen BK133.out 2
              have hfz55_3 := blk_frozen BK133.out 3
              have hfz55_4 := blk_frozen BK133.out 4
              have hfz55_5 := blk_frozen BK133.out 5
              have hfz55_6 := blk_frozen BK133.out 6
              have hfz55_7 := blk_frozen BK133.out 7
              have hfz55_8 := blk_frozen BK133.out 8
              have hfz55_9 := blk_frozen BK133.out 9
              have hfz55_10 := blk_frozen BK133.out 10
              have hfz55_11 := blk_frozen BK133.out 11
              have p139 : 0 ≤ (x3_2 : Int) := of_decide_eq_true (by first | (with_reducible assumption) | assumption)
              have q139 : x3_2 < (l0_11.length : Int) := of_decide_eq_true (by first | (with_reducible assumption) | assumption)
              obtain ⟨ad139, e139, hx139_0⟩ := Kd.at_int HR0_11.out x3_2 p139 q139
              cases e139
              replace hx139_0 := (HB.out.cell (World.block_lt_of_cell? w _ hx139_0)).trans hx139_0
              replace p139 := eq_true p139
              replace q139 := eq_true q139
              go_wp2_with (first | ((with_reducible refine gate_callee (f := 81) rfl ?_); refine goesL_ (some 61) rfl rfl Try.func81 (by kernel_rfl) rfl #[.int .i64 (rd l0_11 x3_2), .int .i64 576, .int .i64 1520] rfl (by (try simp only [List.map_toArray, List.map_cons, List.map_nil]); first | done | rfl | (simp only [List.length_drop, List.length_take]; rfl)) ?_; (with_reducible refine (spec_l01In.calls (rd l0_11 x3_2) 576 1520 false _ A52.out).mono ?_); rintro e w' ⟨rfl, ⟨nd, rfl⟩⟩; refine ⟨_, rfl, ?_⟩))
              go_ret
              exact ⟨by first | rfl | (simp [errW_none, errW_some] <;> rfl) | (simp [*, errW_none, errW_some] <;> rfl), Bx1 HB GE133⟩
            subst c53
            have H1 : (spec_NodeOK.l0 k2 (wrap64 (x3_2 + 1)) a0_0 a0_1 a0_2 a0_3 l0_4 a0_5 a0_6 a0_7 a0_8 l0_9 l0_10 l0_11) = some r := by rw [if_pos rfl] at H; exact H
            clear H
            have H := H1
            clear H1
            have H' := Aside0.mk H
            clear H
            have hcz54_0 : wr.cell? ⟨gb133, 0, none⟩ = some (.string a0_0) := (blk_cell BK133.out 0).trans rfl
            have hcz54_1 : wr.cell? ⟨gb133, 1, none⟩ = some (.bool a0_1) := (blk_cell BK133.out 1).trans rfl
            have hcz54_2 : wr.cell? ⟨gb133, 2, none⟩ = some (.int .i64 a0_2) := (blk_cell BK133.out 2).trans rfl
            have hcz54_3 : wr.cell? ⟨gb133, 3, none⟩ = some (.int .i64 a0_3) := (blk_cell BK133.out 3).trans rfl
            have hcz54_4 : wr.cell? ⟨gb133, 4, none⟩ = some (.slice A0_4 l0_4.length c0_4) := (blk_cell BK133.out 4).trans rfl
            have hcz54_5 : wr.cell? ⟨gb133, 5, none⟩ = some (.string a0_5) := (blk_cell BK133.out 5).trans rfl
            have hcz54_6 : wr.cell? ⟨gb133, 6, none⟩ = some (.bool a0_6) := (blk_cell BK133.out 6).trans rfl
            have hcz54_7 : wr.cell? ⟨gb133, 7, none⟩ = some (.int .i64 a0_7) := (blk_cell BK133.out 7).trans rfl
            have hcz54_8 : wr.cell? ⟨gb133, 8, none⟩ = some (.int .i64 a0_8) := (blk_cell BK133.out 8).trans rfl
            have hcz54_9 : wr.cell? ⟨gb133, 9, none⟩ = some (.slice A0_9 l0_9.length c0_9) := (blk_cell BK133.out 9).trans rfl
            have hcz54_10 : wr.cell? ⟨gb133, 10, none⟩ = some (.slice A0_10 l0_10.length c0_10) := (blk_cell BK133.out 10).trans rfl
            have hcz54_11 : wr.cell? ⟨gb133, 11, none⟩ = some (.slice A0_11 l0_11.length c0_11) := (blk_cell BK133.out 11).trans rfl
            have hfz54_0 := blk_frozen BK133.out 0
            have hfz54_1 := blk_frozen BK133.out 1
            have hfz54_2 := blk_frozen BK133.out 2
            have hfz54_3 := blk_frozen BK133.out 3
            have hfz54_4 := blk_frozen BK133.out 4
            have hfz54_5 := blk_frozen BK133.out 5
            have hfz54_6 := blk_frozen BK133.out 6
            have hfz54_7 := blk_frozen BK133.out 7
            have hfz54_8 := blk_frozen BK133.out 8
            have hfz54_9 := blk_frozen BK133.out 9
            have hfz54_10 := blk_frozen BK133.out 10
            have hfz54_11 := blk_frozen BK133.out 11
            have p139 : 0 ≤ (x3_2 : Int) := of_decide_eq_true (by first | (with_reducible assumption) | assumption)
            have q139 : x3_2 < (l0_11.length : Int) := of_decide_eq_true (by first | (with_reducible assumption) | assumption)
            obtain ⟨ad139, e139, hx139_0⟩ := Kd.at_int HR0_11.out x3_2 p139 q139
            cases e139
            replace hx139_0 := (HB.out.cell (World.block_lt_of_cell? w _ hx139_0)).trans hx139_0
            replace p139 := eq_true p139
            replace q139 := eq_true q139
            go_wp2_with (first | ((with_reducible refine gate_callee (f := 81) rfl ?_); refine goesL_ (some 61) rfl rfl Try.func81 (by kernel_rfl) rfl #[.int .i64 (rd l0_11 x3_2), .int .i64 576, .int .i64 1520] rfl (by (try simp only [List.map_toArray, List.map_cons, List.map_nil]); first | done | rfl | (simp only [List.length_drop, List.length_take]; rfl)) ?_; (with_reducible refine (spec_l01In.calls (rd l0_11 x3_2) 576 1520 true _ A52.out).mono ?_); rintro e w' ⟨rfl, ⟨nd, rfl⟩⟩; refine ⟨_, rfl, ?_⟩))
            go_roundg k2
            case measure => have := HJ1.out; have := HK2.out; omega
            case rel => exact ⟨(wrap64 (x3_2 + 1)), (by first | rfl | (simp; done) | (simp [*]; done)), H', ⟨by have := HJ1.out; have := HK2.out; omega⟩, ⟨by (with_reducible repeat (first | refine blk_drewN ?_ _ | refine blk_drew ?_ | refine blk_alloc ?_ _)); exact BK133.out⟩, ⟨Bx1 HB GE133⟩⟩
          rw [if_neg c50] at H
          have c50b0 : decide (x3_2 < (l0_11.length : Int)) = false := decide_eq_false c50
          clear c50
          have H' := Aside0.mk H
          clear H
          have hcz56_0 : wr.cell? ⟨gb133, 0, none⟩ = some (.string a0_0) := (blk_cell BK133.out 0).trans rfl
          have hcz56_1 : wr.cell? ⟨gb133, 1, none⟩ = some (.bool a0_1) := (blk_cell BK133.out 1).trans rfl
          have hcz56_2 : wr.cell? ⟨gb133, 2, none⟩ = some (.int .i64 a0_2) := (blk_cell BK133.out 2).trans rfl
          have hcz56_3 : wr.cell? ⟨gb133, 3, none⟩ = some (.int .i64 a0_3) := (blk_cell BK133.out 3).trans rfl
          have hcz56_4 : wr.cell? ⟨gb133, 4, none⟩ = some (.slice A0_4 l0_4.length c0_4) := (blk_cell BK133.out 4).trans rfl
          have hcz56_5 : wr.cell? ⟨gb133, 5, none⟩ = some (.string a0_5) := (blk_cell BK133.out 5).trans rfl
          have hcz56_6 : wr.cell? ⟨gb133, 6, none⟩ = some (.bool a0_6) := (blk_cell BK133.out 6).trans rfl
          have hcz56_7 : wr.cell? ⟨gb133, 7, none⟩ = some (.int .i64 a0_7) := (blk_cell BK133.out 7).trans rfl
          have hcz56_8 : wr.cell? ⟨gb133, 8, none⟩ = some (.int .i64 a0_8) := (blk_cell BK133.out 8).trans rfl
          have hcz56_9 : wr.cell? ⟨gb133, 9, none⟩ = some (.slice A0_9 l0_9.length c0_9) := (blk_cell BK133.out 9).trans rfl
          have hcz56_10 : wr.cell? ⟨gb133, 10, none⟩ = some (.slice A0_10 l0_10.length c0_10) := (blk_cell BK133.out 10).trans rfl
          have hcz56_11 : wr.cell? ⟨gb133, 11, none⟩ = some (.slice A0_11 l0_11.length c0_11) := (blk_cell BK133.out 11).trans rfl
          have hfz56_0 := blk_frozen BK133.out 0
          have hfz56_1 := blk_frozen BK133.out 1
          have hfz56_2 := blk_frozen BK133.out 2
          have hfz56_3 := blk_frozen BK133.out 3
          have hfz56_4 := blk_frozen BK133.out 4
          have hfz56_5 := blk_frozen BK133.out 5
          have hfz56_6 := blk_frozen BK133.out 6
          have hfz56_7 := blk_frozen BK133.out 7
          have hfz56_8 := blk_frozen BK133.out 8
          have hfz56_9 := blk_frozen BK133.out 9
          have hfz56_10 := blk_frozen BK133.out 10
          have hfz56_11 := blk_frozen BK133.out 11
          go_wp2
          go_loopg [4, 5] k2 (fun kq v4 v5 w' => ∃ (x4_3 : Bool) (x5_3 : Int), v4 = .bool x4_3 ∧ v5 = .int .i64 x5_3 ∧ Aside0 (spec_NodeOK.l1 kq x4_3 x5_3 a0_0 a0_1 a0_2 a0_3 l0_4 a0_5 a0_6 a0_7 a0_8 l0_9 l0_10 l0_11 = some r) ∧ Aside0 (kq ≤ k2) ∧ Aside0 (w'.heap[gb133]? = some (.cells #[.string a0_0, .bool a0_1, .int .i64 a0_2, .int .i64 a0_3, (.slice A0_4 l0_4.length c0_4), .string a0_5, .bool a0_6, .int .i64 a0_7, .int .i64 a0_8, (.slice A0_9 l0_9.length c0_9), (.slice A0_10 l0_10.length c0_10), (.slice A0_11 l0_11.length c0_11)] 102 (0, 0))) ∧ Aside0 (Below w.heap.size w w'))
          case atStart => exact ⟨(false), (0), (by first | rfl | (simp; done) | (simp [*]; done)), (by first | rfl | (simp; done) | (simp [*]; done)), H', ⟨Nat.le_refl _⟩, ⟨by (with_reducible repeat (first | refine blk_drewN ?_ _ | refine blk_drew ?_ | refine blk_alloc ?_ _)); exact BK133.out⟩, ⟨Bx1 HB GE133⟩⟩
          case round =>
            clear H'
            try clear p1
            try clear q1
            try clear hx1
            try clear p2
            try clear c5
            try clear p6
            try clear c8
            try clear p13
            try clear q13
            try clear hx13
            try clear c50
            try clear c50b0
            try clear c51
            try clear c51b0
            try clear c53
            try clear hcz11_2 hcz11_3 hcz11_4 hcz11_5 hcz11_6 hcz11_7 hcz11_8 hcz11_9
            try clear hcz13_0 hcz13_1 hcz13_10 hcz13_11 hcz13_2 hcz13_3 hcz13_4 hcz13_5 hcz13_6 hcz13_7 hcz13_8 hcz13_9
            try clear hcz15_0 hcz15_1 hcz15_10 hcz15_11 hcz15_2 hcz15_3 hcz15_4 hcz15_5 hcz15_6 hcz15_7 hcz15_8 hcz15_9
            try clear hcz17_0 hcz17_1 hcz17_10 hcz17_11 hcz17_2 hcz17_3 hcz17_4 hcz17_5 hcz17_6 hcz17_7 hcz17_8 hcz17_9
            try clear hcz19_0 hcz19_1 hcz19_10 hcz19_11 hcz19_2 hcz19_3 hcz19_4 hcz19_5 hcz19_6 hcz19_7 hcz19_8 hcz19_9
            try clear hcz21_0 hcz21_1 hcz21_10 hcz21_11 hcz21_2 hcz21_3 hcz21_4 hcz21_5 hcz21_6 hcz21_7 hcz21_8 hcz21_9
            try clear hcz25_0 hcz25_1 hcz25_10 hcz25_11 hcz25_2 hcz25_3 hcz25_4 hcz25_5 hcz25_6 hcz25_7 hcz25_8 hcz25_9
            try clear hcz27_0 hcz27_1 hcz27_10 hcz27_11 hcz27_2 hcz27_3 hcz27_4 hcz27_5 hcz27_6 hcz27_7 hcz27_8 hcz27_9
            try clear hcz29_0 hcz29_1 hcz29_10 hcz29_11 hcz29_2 hcz29_3 hcz29_4 hcz29_5 hcz29_6 hcz29_7 hcz29_8 hcz29_9
            try clear hcz31_0 hcz31_1 hcz31_10 hcz31_11 hcz31_2 hcz31_3 hcz31_4 hcz31_5 hcz31_6 hcz31_7 hcz31_8 hcz31_9
            try clear hcz32_0 hcz32_1 hcz32_10 hcz32_11 hcz32_2 hcz32_3 hcz32_4 hcz32_5 hcz32_6 hcz32_7 hcz32_8 hcz32_9
            try clear hcz34_0 hcz34_1 hcz34_10 hcz34_11 hcz34_2 hcz34_3 hcz34_4 hcz34_5 hcz34_6 hcz34_7 hcz34_8 hcz34_9
            try clear hcz36_0 hcz36_1 hcz36_10 hcz36_11 hcz36_2 hcz36_3 hcz36_4 hcz36_5 hcz36_6 hcz36_7 hcz36_8 hcz36_9
            try clear hcz38_0 hcz38_1 hcz38_10 hcz38_11 hcz38_2 hcz38_3 hcz38_4 hcz38_5 hcz38_6 hcz38_7 hcz38_8 hcz38_9
            try clear hcz40_0 hcz40_1 hcz40_10 hcz40_11 hcz40_2 hcz40_3 hcz40_4 hcz40_5 hcz40_6 hcz40_7 hcz40_8 hcz40_9
            try clear hcz42_0 hcz42_1 hcz42_10 hcz42_11 hcz42_2 hcz42_3 hcz42_4 hcz42_5 hcz42_6 hcz42_7 hcz42_8 hcz42_9
            try clear hcz43_0 hcz43_1 hcz43_10 hcz43_11 hcz43_2 hcz43_3 hcz43_4 hcz43_5 hcz43_6 hcz43_7 hcz43_8 hcz43_9
            try clear hcz45_0 hcz45_1 hcz45_10 hcz45_11 hcz45_2 hcz45_3 hcz45_4 hcz45_5 hcz45_6 hcz45_7 hcz45_8 hcz45_9
            try clear hcz47_0 hcz47_1 hcz47_10 hcz47_11 hcz47_2 hcz47_3 hcz47_4 hcz47_5 hcz47_6 hcz47_7 hcz47_8 hcz47_9
            try clear hcz54_0 hcz54_1 hcz54_10 hcz54_11 hcz54_2 hcz54_3 hcz54_4 hcz54_5 hcz54_6 hcz54_7 hcz54_8 hcz54_9
            try clear hcz55_0 hcz55_1 hcz55_10 hcz55_11 hcz55_2 hcz55_3 hcz55_4 hcz55_5 hcz55_6 hcz55_7 hcz55_8 hcz55_9
            try clear hcz56_0 hcz56_1 hcz56_10 hcz56_11 hcz56_2 hcz56_3 hcz56_4 hcz56_5 hcz56_6 hcz56_7 hcz56_8 hcz56_9
            try clear hfz11_0 hfz11_1 hfz11_10 hfz11_11 hfz11_2 hfz11_3 hfz11_4 hfz11_5 hfz11_6 hfz11_7 hfz11_8 hfz11_9
            try clear hfz13_0 hfz13_1 hfz13_10 hfz13_11 hfz13_2 hfz13_3 hfz13_4 hfz13_5 hfz13_6 hfz13_7 hfz13_8 hfz13_9
            try clear hfz15_0 hfz15_1 hfz15_10 hfz15_11 hfz15_2 hfz15_3 hfz15_4 hfz15_5 hfz15_6 hfz15_7 hfz15_8 hfz15_9
            try clear hfz17_0 hfz17_1 hfz17_10 hfz17_11 hfz17_2 hfz17_3 hfz17_4 hfz17_5 hfz17_6 hfz17_7 hfz17_8 hfz17_9
            try clear hfz19_0 hfz19_1 hfz19_10 hfz19_11 hfz19_2 hfz19_3 hfz19_4 hfz19_5 hfz19_6 hfz19_7 hfz19_8 hfz19_9
            try clear hfz21_0 hfz21_1 hfz21_10 hfz21_11 hfz21_2 hfz21_3 hfz21_4 hfz21_5 hfz21_6 hfz21_7 hfz21_8 hfz21_9
            try clear hfz25_0 hfz25_1 hfz25_10 hfz25_11 hfz25_2 hfz25_3 hfz25_4 hfz25_5 hfz25_6 hfz25_7 hfz25_8 hfz25_9
            try clear hfz27_0 hfz27_1 hfz27_10 hfz27_11 hfz27_2 hfz27_3 hfz27_4 hfz27_5 hfz27_6 hfz27_7 hfz27_8 hfz27_9
            try clear hfz29_0 hfz29_1 hfz29_10 hfz29_11 hfz29_2 hfz29_3 hfz29_4 hfz29_5 hfz29_6 hfz29_7 hfz29_8 hfz29_9
            try clear hfz31_0 hfz31_1 hfz31_10 hfz31_11 hfz31_2 hfz31_3 hfz31_4 hfz31_5 hfz31_6 hfz31_7 hfz31_8 hfz31_9
            try clear hfz32_0 hfz32_1 hfz32_10 hfz32_11 hfz32_2 hfz32_3 hfz32_4 hfz32_5 hfz32_6 hfz32_7 hfz32_8 hfz32_9
            try clear hfz34_0 hfz34_1 hfz34_10 hfz34_11 hfz34_2 hfz34_3 hfz34_4 hfz34_5 hfz34_6 hfz34_7 hfz34_8 hfz34_9
            try clear hfz36_0 hfz36_1 hfz36_10 hfz36_11 hfz36_2 hfz36_3 hfz36_4 hfz36_5 hfz36_6 hfz36_7 hfz36_8 hfz36_9
            try clear hfz38_0 hfz38_1 hfz38_10 hfz38_11 hfz38_2 hfz38_3 hfz38_4 hfz38_5 hfz38_6 hfz38_7 hfz38_8 hfz38_9
            try clear hfz40_0 hfz40_1 hfz40_10 hfz40_11 hfz40_2 hfz40_3 hfz40_4 hfz40_5 hfz40_6 hfz40_7 hfz40_8 hfz40_9
            try clear hfz42_0 hfz42_1 hfz42_10 hfz42_11 hfz42_2 hfz42_3 hfz42_4 hfz42_5 hfz42_6 hfz42_7 hfz42_8 hfz42_9
            try clear hfz43_0 hfz43_1 hfz43_10 hfz43_11 hfz43_2 hfz43_3 hfz43_4 hfz43_5 hfz43_6 hfz43_7 hfz43_8 hfz43_9
            try clear hfz45_0 hfz45_1 hfz45_10 hfz45_11 hfz45_2 hfz45_3 hfz45_4 hfz45_5 hfz45_6 hfz45_7 hfz45_8 hfz45_9
            try clear hfz47_0 hfz47_1 hfz47_10 hfz47_11 hfz47_2 hfz47_3 hfz47_4 hfz47_5 hfz47_6 hfz47_7 hfz47_8 hfz47_9
            try clear hfz54_0 hfz54_1 hfz54_10 hfz54_11 hfz54_2 hfz54_3 hfz54_4 hfz54_5 hfz54_6 hfz54_7 hfz54_8 hfz54_9
            try clear hfz55_0 hfz55_1 hfz55_10 hfz55_11 hfz55_2 hfz55_3 hfz55_4 hfz55_5 hfz55_6 hfz55_7 hfz55_8 hfz55_9
            try clear hfz56_0 hfz56_1 hfz56_10 hfz56_11 hfz56_2 hfz56_3 hfz56_4 hfz56_5 hfz56_6 hfz56_7 hfz56_8 hfz56_9
            try clear hx138_0
            try clear hx139_0
            try clear p1
            try clear p13
            try clear p138
            try clear p139
            try clear p2
            try clear q1
            try clear q13
            try clear q138
            try clear q139
            obtain ⟨x4_3, x5_3, rfl, rfl, HA, HK3, BK133, HB⟩ := hrel
            cases gk with
            | zero => exact absurd HA.out (by simp [spec_NodeOK.l1])
            | succ k3 =>
              have H := HA.out
              clear HA
              simp only [spec_NodeOK.l1] at H
              by_cases c57 : x5_3 < (l0_10.length : Int)
              rotate_left
              · rw [if_neg c57] at H
                have c57b0 : decide (x5_3 < (l0_10.length : Int)) = false := decide_eq_false c57
                clear c57
                obtain rfl := Option.some.inj H
                have hcz68_0 : wr.cell? ⟨gb133, 0, none⟩ = some (.string a0_0) := (blk_cell BK133.out 0).trans rfl
                have hcz68_1 : wr.cell? ⟨gb133, 1, none⟩ = some (.bool a0_1) := (blk_cell BK133.out 1).trans rfl
                have hcz68_2 : wr.cell? ⟨gb133, 2, none⟩ = some (.int .i64 a0_2) := (blk_cell BK133.out 2).trans rfl
                have hcz68_3 : wr.cell? ⟨gb133, 3, none⟩ = some (.int .i64 a0_3) := (blk_cell BK133.out 3).trans rfl
                have hcz68_4 : wr.cell? ⟨gb133, 4, none⟩ = some (.slice A0_4 l0_4.length c0_4) := (blk_cell BK133.out 4).trans rfl
                have hcz68_5 : wr.cell? ⟨gb133, 5, none⟩ = some (.string a0_5) := (blk_cell BK133.out 5).trans rfl
                have hcz68_6 : wr.cell? ⟨gb133, 6, none⟩ = some (.bool a0_6) := (blk_cell BK133.out 6).trans rfl
                have hcz68_7 : wr.cell? ⟨gb133, 7, none⟩ = some (.int .i64 a0_7) := (blk_cell BK133.out 7).trans rfl
                have hcz68_8 : wr.cell? ⟨gb133, 8, none⟩ = some (.int .i64 a0_8) := (blk_cell BK133.out 8).trans rfl
                have hcz68_9 : wr.cell? ⟨gb133, 9, none⟩ = some (.slice A0_9 l0_9.length c0_9) := (blk_cell BK133.out 9).trans rfl
                have hcz68_10 : wr.cell? ⟨gb133, 10, none⟩ = some (.slice A0_10 l0_10.length c0_10) := (blk_cell BK133.out 10).trans rfl
                have hcz68_11 : wr.cell? ⟨gb133, 11, none⟩ = some (.slice A0_11 l0_11.length c0_11) := (blk_cell BK133.out 11).trans rfl
                have hfz68_0 := blk_frozen BK133.out 0
                have hfz68_1 := blk_frozen BK133.out 1
                have hfz68_2 := blk_frozen BK133.out 2
                have hfz68_3 := blk_frozen BK133.out 3
                have hfz68_4 := blk_frozen BK133.out 4
                have hfz68_5 := blk_frozen BK133.out 5
                have hfz68_6 := blk_frozen BK133.out 6
                have hfz68_7 := blk_frozen BK133.out 7
                have hfz68_8 := blk_frozen BK133.out 8
                have hfz68_9 := blk_frozen BK133.out 9
                have hfz68_10 := blk_frozen BK133.out 10
                have hfz68_11 := blk_frozen BK133.out 11
                go_wp2
                go_ret
                exact ⟨by first | rfl | (simp [errW_none, errW_some] <;> rfl) | (simp [*, errW_none, errW_some] <;> rfl), Bx1 HB GE133⟩

              rw [if_pos c57] at H
              have c57b0 : decide (x5_3 < (l0_10.length : Int)) = true := decide_eq_true c57
              clear c57
              by_cases c58 : 0 ≤ x5_3
              rotate_left
              · rw [if_neg c58] at H
                exact absurd H (by simp)
              rw [if_pos c58] at H
              have c58b0 : decide (0 ≤ x5_3) = true := decide_eq_true c58
              clear c58
              by_cases c59 : ((rdOf ByteArray.empty l0_10 x5_3).size : Int) = 4
              · rw [if_pos c59] at H
                have c59b0 : (((rdOf ByteArray.empty l0_10 x5_3).size : Int) == 4) = true := beq_iff_eq.mpr c59
                have c59b1 : (((rdOf ByteArray.empty l0_10 x5_3).size : Int) != 4) = false := bne_eq_false_iff_eq.mpr c59
                clear c59
                by_cases c60 : x4_3 = true
                · subst c60
                  have H1 : (spec_NodeOK.l1 k3 true (wrap64 (x5_3 + 1)) a0_0 a0_1 a0_2 a0_3 l0_4 a0_5 a0_6 a0_7 a0_8 l0_9 l0_10 l0_11) = some r := by rw [if_pos rfl] at H; exact H
                  clear H
                  have H := H1
                  clear H1
                  have H' := Aside0.mk H
                  clear H
                  have hcz61_0 : wr.cell? ⟨gb133, 0, none⟩ = some (.string a0_0) := (blk_cell BK133.out 0).trans rfl
                  have hcz61_1 : wr.cell? ⟨gb133, 1, none⟩ = some (.bool a0_1) := (blk_cell BK133.out 1).trans rfl
                  have hcz61_2 : wr.cell? ⟨gb133, 2, none⟩ = some (.int .i64 a0_2) := (blk_cell BK133.out 2).trans rfl
                  have hcz61_3 : wr.cell? ⟨gb133, 3, none⟩ = some (.int .i64 a0_3) := (blk_cell BK133.out 3).trans rfl
                  have hcz61_4 : wr.cell? ⟨gb133, 4, none⟩ = some (.slice A0_4 l0_4.length c0_4) := (blk_cell BK133.out 4).trans rfl
                  have hcz61_5 : wr.cell? ⟨gb133, 5, none⟩ = some (.string a0_5) := (blk_cell BK133.out 5).trans rfl
                  have hcz61_6 : wr.cell? ⟨gb133, 6, none⟩ = some (.bool a0_6) := (blk_cell BK133.out 6).trans rfl
                  have hcz61_7 : wr.cell? ⟨gb133, 7, none⟩ = some (.int .i64 a0_7) := (blk_cell BK133.out 7).trans rfl
                  have hcz61_8 : wr.cell? ⟨gb133, 8, none⟩ = some (.int .i64 a0_8) := (blk_cell BK133.out 8).trans rfl
                  have hcz61_9 : wr.cell? ⟨gb133, 9, none⟩ = some (.slice A0_9 l0_9.length c0_9) := (blk_cell BK133.out 9).trans rfl
                  have hcz61_10 : wr.cell? ⟨gb133, 10, none⟩ = some (.slice A0_10 l0_10.length c0_10) := (blk_cell BK133.out 10).trans rfl
                  have hcz61_11 : wr.cell? ⟨gb133, 11, none⟩ = some (.slice A0_11 l0_11.length c0_11) := (blk_cell BK133.out 11).trans rfl
                  have hfz61_0 := blk_frozen BK133.out 0
                  have hfz61_1 := blk_frozen BK133.out 1
                  have hfz61_2 := blk_frozen BK133.out 2
                  have hfz61_3 := blk_frozen BK133.out 3
                  have hfz61_4 := blk_frozen BK133.out 4
                  have hfz61_5 := blk_frozen BK133.out 5
                  have hfz61_6 := blk_frozen BK133.out 6
                  have hfz61_7 := blk_frozen BK133.out 7
                  have hfz61_8 := blk_frozen BK133.out 8
                  have hfz61_9 := blk_frozen BK133.out 9
                  have hfz61_10 := blk_frozen BK133.out 10
                  have hfz61_11 := blk_frozen BK133.out 11
                  have p141 : 0 ≤ (x5_3 : Int) := of_decide_eq_true (by first | (with_reducible assumption) | assumption)
                  have q141 : x5_3 < (l0_10.length : Int) := of_decide_eq_true (by first | (with_reducible assumption) | assumption)
                  obtain ⟨ad141, e141, hx141_0⟩ := Kd.at_string HR0_10.out x5_3 p141 q141
                  cases e141
                  replace hx141_0 := (HB.out.cell (World.block_lt_of_cell? w _ hx141_0)).trans hx141_0
                  replace p141 := eq_true p141
                  replace q141 := eq_true q141
                  go_wp2
                  go_roundg k3
                  case measure => have := HJ1.out; have := HK2.out; have := HK3.out; omega
                  case rel => exact ⟨(true), (wrap64 (x5_3 + 1)), (by first | rfl | (simp; done) | (simp [*]; done)), (by first | rfl | (simp; done) | (simp [*]; done)), H', ⟨by have := HJ1.out; have := HK2.out; have := HK3.out; omega⟩, ⟨by (with_reducible repeat (first | refine blk_drewN ?_ _ | refine blk_drew ?_ | refine blk_alloc ?_ _)); exact BK133.out⟩, ⟨Bx1 HB GE133⟩⟩
                replace c60 := Bool.eq_false_iff.mpr c60
                subst c60
                have H1 : (spec_NodeOK.l1 k3 (((rdOf ByteArray.empty l0_10 x5_3).size : Int) == 16) (wrap64 (x5_3 + 1)) a0_0 a0_1 a0_2 a0_3 l0_4 a0_5 a0_6 a0_7 a0_8 l0_9 l0_10 l0_11) = some r := by rw [if_neg (show ¬ (false = true) by decide)] at H; exact H
                clear H
                have H := H1
                clear H1
                have H' := Aside0.mk H
                clear H
                have hcz62_0 : wr.cell? ⟨gb133, 0, none⟩ = some (.string a0_0) := (blk_cell BK133.out 0).trans rfl
                have hcz62_1 : wr.cell? ⟨gb133, 1, none⟩ = some (.bool a0_1) := (blk_cell BK133.out 1).trans rfl
                have hcz62_2 : wr.cell? ⟨gb133, 2, none⟩ = some (.int .i64 a0_2) := (blk_cell BK133.out 2).trans rfl
                have hcz62_3 : wr.cell? ⟨gb133, 3, none⟩ = some (.int .i64 a0_3) := (blk_cell BK133.out 3).trans rfl
                have hcz62_4 : wr.cell? ⟨gb133, 4, none⟩ = some (.slice A0_4 l0_4.length c0_4) := (blk_cell BK133.out 4).trans rfl
                have hcz62_5 : wr.cell? ⟨gb133, 5, none⟩ = some (.string a0_5) := (blk_cell BK133.out 5).trans rfl
                have hcz62_6 : wr.cell? ⟨gb133, 6, none⟩ = some (.bool a0_6) := (blk_cell BK133.out 6).trans rfl
                have hcz62_7 : wr.cell? ⟨gb133, 7, none⟩ = some (.int .i64 a0_7) := (blk_cell BK133.out 7).trans rfl
                have hcz62_8 : wr.cell? ⟨gb133, 8, none⟩ = some (.int .i64 a0_8) := (blk_cell BK133.out 8).trans rfl
                have hcz62_9 : wr.cell? ⟨gb133, 9, none⟩ = some (.slice A0_9 l0_9.length c0_9) := (blk_cell BK133.out 9).trans rfl
                have hcz62_10 : wr.cell? ⟨gb133, 10, none⟩ = some (.slice A0_10 l0_10.length c0_10) := (blk_cell BK133.out 10).trans rfl
                have hcz62_11 : wr.cell? ⟨gb133, 11, none⟩ = some (.slice A0_11 l0_11.length c0_11) := (blk_cell BK133.out 11).trans rfl
                have hfz62_0 := blk_frozen BK133.out 0
                have hfz62_1 := blk_frozen BK133.out 1
                have hfz62_2 := blk_frozen BK133.out 2
                have hfz62_3 := blk_frozen BK133.out 3
                have hfz62_4 := blk_frozen BK133.out 4
                have hfz62_5 := blk_frozen BK133.out 5
                have hfz62_6 := blk_frozen BK133.out 6
                have hfz62_7 := blk_frozen BK133.out 7
                have hfz62_8 := blk_frozen BK133.out 8
                have hfz62_9 := blk_frozen BK133.out 9
                have hfz62_10 := blk_frozen BK133.out 10
                have hfz62_11 := blk_frozen BK133.out 11
                have p141 : 0 ≤ (x5_3 : Int) := of_decide_eq_true (by first | (with_reducible assumption) | assumption)
                have q141 : x5_3 < (l0_10.length : Int) := of_decide_eq_true (by first | (with_reducible assumption) | assumption)
                obtain ⟨ad141, e141, hx141_0⟩ := Kd.at_string HR0_10.out x5_3 p141 q141
                cases e141
                replace hx141_0 := (HB.out.cell (World.block_lt_of_cell? w _ hx141_0)).trans hx141_0
                replace p141 := eq_true p141
                replace q141 := eq_true q141
                have p142 : 0 ≤ (x5_3 : Int) := of_decide_eq_true (by first | (with_reducible assumption) | assumption)
                have q142 : x5_3 < (l0_10.length : Int) := of_decide_eq_true (by first | (with_reducible assumption) | assumption)
                obtain ⟨ad142, e142, hx142_0⟩ := Kd.at_string HR0_10.out x5_3 p142 q142
                obtain rfl : ad141 = ad142 := (by injection e142)
                replace hx142_0 := (HB.out.cell (World.block_lt_of_cell? w _ hx142_0)).trans hx142_0
                replace p142 := eq_true p142
                replace q142 := eq_true q142
                go_wp2
                go_roundg k3
                case measure => have := HJ1.out; have := HK2.out; have := HK3.out; omega
                case rel => exact ⟨((((rdOf ByteArray.empty l0_10 x5_3).size : Int) == 16)), (wrap64 (x5_3 + 1)), (by first | rfl | (simp; done) | (simp [*]; done)), (by first | rfl | (simp; done) | (simp [*]; done)), H', ⟨by have := HJ1.out; have := HK2.out; have := HK3.out; omega⟩, ⟨by (with_reducible repeat (first | refine blk_drewN ?_ _ | refine blk_drew ?_ | refine blk_alloc ?_ _)); exact BK133.out⟩, ⟨Bx1 HB GE133⟩⟩
              rw [if_neg c59] at H
              have c59b0 : (((rdOf ByteArray.empty l0_10 x5_3).size : Int) == 4) = false := beq_eq_false_iff_ne.mpr c59
              have c59b1 : (((rdOf ByteArray.empty l0_10 x5_3).size : Int) != 4) = true := bne_iff_ne.mpr c59
              by_cases c63 : ((rdOf ByteArray.empty l0_10 x5_3).size : Int) = 16
              rotate_left
              · rw [if_neg c63] at H
                have c63b0 : (((rdOf ByteArray.empty l0_10 x5_3).size : Int) == 16) = false := beq_eq_false_iff_ne.mpr c63
                have c63b1 : (((rdOf ByteArray.empty l0_10 x5_3).size : Int) != 16) = true := bne_iff_ne.mpr c63
                obtain rfl := Option.some.inj H
                have hcz67_0 : wr.cell? ⟨gb133, 0, none⟩ = some (.string a0_0) := (blk_cell BK133.out 0).trans rfl
                have hcz67_1 : wr.cell? ⟨gb133, 1, none⟩ = some (.bool a0_1) := (blk_cell BK133.out 1).trans rfl
                have hcz67_2 : wr.cell? ⟨gb133, 2, none⟩ = some (.int .i64 a0_2) := (blk_cell BK133.out 2).trans rfl
                have hcz67_3 : wr.cell? ⟨gb133, 3, none⟩ = some (.int .i64 a0_3) := (blk_cell BK133.out 3).trans rfl
                have hcz67_4 : wr.cell? ⟨gb133, 4, none⟩ = some (.slice A0_4 l0_4.length c0_4) := (blk_cell BK133.out 4).trans rfl
                have hcz67_5 : wr.cell? ⟨gb133, 5, none⟩ = some (.string a0_5) := (blk_cell BK133.out 5).trans rfl
                have hcz67_6 : wr.cell? ⟨gb133, 6, none⟩ = some (.bool a0_6) := (blk_cell BK133.out 6).trans rfl
                have hcz67_7 : wr.cell? ⟨gb133, 7, none⟩ = some (.int .i64 a0_7) := (blk_cell BK133.out 7).trans rfl
                have hcz67_8 : wr.cell? ⟨gb133, 8, none⟩ = some (.int .i64 a0_8) := (blk_cell BK133.out 8).trans rfl
                have hcz67_9 : wr.cell? ⟨gb133, 9, none⟩ = some (.slice A0_9 l0_9.length c0_9) := (blk_cell BK133.out 9).trans rfl
                have hcz67_10 : wr.cell? ⟨gb133, 10, none⟩ = some (.slice A0_10 l0_10.length c0_10) := (blk_cell BK133.out 10).trans rfl
                have hcz67_11 : wr.cell? ⟨gb133, 11, none⟩ = some (.slice A0_11 l0_11.length c0_11) := (blk_cell BK133.out 11).trans rfl
                have hfz67_0 := blk_frozen BK133.out 0
                have hfz67_1 := blk_frozen BK133.out 1
                have hfz67_2 := blk_frozen BK133.out 2
                have hfz67_3 := blk_frozen BK133.out 3
                have hfz67_4 := blk_frozen BK133.out 4
                have hfz67_5 := blk_frozen BK133.out 5
                have hfz67_6 := blk_frozen BK133.out 6
                have hfz67_7 := blk_frozen BK133.out 7
                have hfz67_8 := blk_frozen BK133.out 8
                have hfz67_9 := blk_frozen BK133.out 9
                have hfz67_10 := blk_frozen BK133.out 10
                have hfz67_11 := blk_frozen BK133.out 11
                have p141 : 0 ≤ (x5_3 : Int) := of_decide_eq_true (by first | (with_reducible assumption) | assumption)
                have q141 : x5_3 < (l0_10.length : Int) := of_decide_eq_true (by first | (with_reducible assumption) | assumption)
                obtain ⟨ad141, e141, hx141_0⟩ := Kd.at_string HR0_10.out x5_3 p141 q141
                cases e141
                replace hx141_0 := (HB.out.cell (World.block_lt_of_cell? w _ hx141_0)).trans hx141_0
                replace p141 := eq_true p141
                replace q141 := eq_true q141
                have p143 : 0 ≤ (x5_3 : Int) := of_decide_eq_true (by first | (with_reducible assumption) | assumption)
                have q143 : x5_3 < (l0_10.length : Int) := of_decide_eq_true (by first | (with_reducible assumption) | assumption)
                obtain ⟨ad143, e143, hx143_0⟩ := Kd.at_string HR0_10.out x5_3 p143 q143
                obtain rfl : ad141 = ad143 := (by injection e143)
                replace hx143_0 := (HB.out.cell (World.block_lt_of_cell? w _ hx143_0)).trans hx143_0
                replace p143 := eq_true p143
                replace q143 := eq_true q143
                go_wp2
                go_ret
                exact ⟨by first | rfl | (simp [errW_none, errW_some] <;> rfl) | (simp [*, errW_none, errW_some] <;> rfl), Bx1 HB GE133⟩
              rw [if_pos c63] at H
              have c63b0 : (((rdOf ByteArray.empty l0_10 x5_3).size : Int) == 16) = true := beq_iff_eq.mpr c63
              have c63b1 : (((rdOf ByteArray.empty l0_10 x5_3).size : Int) != 16) = false := bne_eq_false_iff_eq.mpr c63
              clear c63
              by_cases c64 : x4_3 = true
              · subst c64
                have H1 : (spec_NodeOK.l1 k3 true (wrap64 (x5_3 + 1)) a0_0 a0_1 a0_2 a0_3 l0_4 a0_5 a0_6 a0_7 a0_8 l0_9 l0_10 l0_11) = some r := by rw [if_pos rfl] at H; exact H
                clear H
                have H := H1
                clear H1
                have H' := Aside0.mk H
                clear H
                have hcz65_0 : wr.cell? ⟨gb133, 0, none⟩ = some (.string a0_0) := (blk_cell BK133.out 0).trans rfl
                have hcz65_1 : wr.cell? ⟨gb133, 1, none⟩ = some (.bool a0_1) := (blk_cell BK133.out 1).trans rfl
                have hcz65_2 : wr.cell? ⟨gb133, 2, none⟩ = some (.int .i64 a0_2) := (blk_cell BK133.out 2).trans rfl
                have hcz65_3 : wr.cell? ⟨gb133, 3, none⟩ = some (.int .i64 a0_3) := (blk_cell BK133.out 3).trans rfl
                have hcz65_4 : wr.cell? ⟨gb133, 4, none⟩ = some (.slice A0_4 l0_4.length c0_4) := (blk_cell BK133.out 4).trans rfl
                have hcz65_5 : wr.cell? ⟨gb133, 5, none⟩ = some (.string a0_5) := (blk_cell BK133.out 5).trans rfl
                have hcz65_6 : wr.cell? ⟨gb133, 6, none⟩ = some (.bool a0_6) := (blk_cell BK133.out 6).trans rfl
                have hcz65_7 : wr.cell? ⟨gb133, 7, none⟩ = some (.int .i64 a0_7) := (blk_cell BK133.out 7).trans rfl
                have hcz65_8 : wr.cell? ⟨gb133, 8, none⟩ = some (.int .i64 a0_8) := (blk_cell BK133.out 8).trans rfl
                have hcz65_9 : wr.cell? ⟨gb133, 9, none⟩ = some (.slice A0_9 l0_9.length c0_9) := (blk_cell BK133.out 9).trans rfl
                have hcz65_10 : wr.cell? ⟨gb133, 10, none⟩ = some (.slice A0_10 l0_10.length c0_10) := (blk_cell BK133.out 10).trans rfl
                have hcz65_11 : wr.cell? ⟨gb133, 11, none⟩ = some (.slice A0_11 l0_11.length c0_11) := (blk_cell BK133.out 11).trans rfl
                have hfz65_0 := blk_frozen BK133.out 0
                have hfz65_1 := blk_frozen BK133.out 1
                have hfz65_2 := blk_frozen BK133.out 2
                have hfz65_3 := blk_frozen BK133.out 3
                have hfz65_4 := blk_frozen BK133.out 4
                have hfz65_5 := blk_frozen BK133.out 5
                have hfz65_6 := blk_frozen BK133.out 6
                have hfz65_7 := blk_frozen BK133.out 7
                have hfz65_8 := blk_frozen BK133.out 8
                have hfz65_9 := blk_frozen BK133.out 9
                have hfz65_10 := blk_frozen BK133.out 10
                have hfz65_11 := blk_frozen BK133.out 11
                have p141 : 0 ≤ (x5_3 : Int) := of_decide_eq_true (by first | (with_reducible assumption) | assumption)
                have q141 : x5_3 < (l0_10.length : Int) := of_decide_eq_true (by first | (with_reducible assumption) | assumption)
                obtain ⟨ad141, e141, hx141_0⟩ := Kd.at_string HR0_10.out x5_3 p141 q141
                cases e141
                replace hx141_0 := (HB.out.cell (World.block_lt_of_cell? w _ hx141_0)).trans hx141_0
                replace p141 := eq_true p141
                replace q141 := eq_true q141
                have p143 : 0 ≤ (x5_3 : Int) := of_decide_eq_true (by first | (with_reducible assumption) | assumption)
                have q143 : x5_3 < (l0_10.length : Int) := of_decide_eq_true (by first | (with_reducible assumption) | assumption)
                obtain ⟨ad143, e143, hx143_0⟩ := Kd.at_string HR0_10.out x5_3 p143 q143
                obtain rfl : ad141 = ad143 := (by injection e143)
                replace hx143_0 := (HB.out.cell (World.block_lt_of_cell? w _ hx143_0)).trans hx143_0
                replace p143 := eq_true p143
                replace q143 := eq_true q143
                go_wp2
                go_roundg k3
                case measure => have := HJ1.out; have := HK2.out; have := HK3.out; omega
                case rel => exact ⟨(true), (wrap64 (x5_3 + 1)), (by first | rfl | (simp; done) | (simp [*]; done)), (by first | rfl | (simp; done) | (simp [*]; done)), H', ⟨by have := HJ1.out; have := HK2.out; have := HK3.out; omega⟩, ⟨by (with_reducible repeat (first | refine blk_drewN ?_ _ | refine blk_drew ?_ | refine blk_alloc ?_ _)); exact BK133.out⟩, ⟨Bx1 HB GE133⟩⟩
              replace c64 := Bool.eq_false_iff.mpr c64
              subst c64
              have H1 : (spec_NodeOK.l1 k3 true (wrap64 (x5_3 + 1)) a0_0 a0_1 a0_2 a0_3 l0_4 a0_5 a0_6 a0_7 a0_8 l0_9 l0_10 l0_11) = some r := by rw [if_neg (show ¬ (false = true) by decide)] at H; exact H
              clear H
              have H := H1
              clear H1
              have H' := Aside0.mk H
              clear H
              have hcz66_0 : wr.cell? ⟨gb133, 0, none⟩ = some (.string a0_0) := (blk_cell BK133.out 0).trans rfl
              have hcz66_1 : wr.cell? ⟨gb133, 1, none⟩ = some (.bool a0_1) := (blk_cell BK133.out 1).trans rfl
              have hcz66_2 : wr.cell? ⟨gb133, 2, none⟩ = some (.int .i64 a0_2) := (blk_cell BK133.out 2).trans rfl
              have hcz66_3 : wr.cell? ⟨gb133, 3, none⟩ = some (.int .i64 a0_3) := (blk_cell BK133.out 3).trans rfl
              have hcz66_4 : wr.cell? ⟨gb133, 4, none⟩ = some (.slice A0_4 l0_4.length c0_4) := (blk_cell BK133.out 4).trans rfl
              have hcz66_5 : wr.cell? ⟨gb133, 5, none⟩ = some (.string a0_5) := (blk_cell BK133.out 5).trans rfl
              have hcz66_6 : wr.cell? ⟨gb133, 6, none⟩ = some (.bool a0_6) := (blk_cell BK133.out 6).trans rfl
              have hcz66_7 : wr.cell? ⟨gb133, 7, none⟩ = some (.int .i64 a0_7) := (blk_cell BK133.out 7).trans rfl
              have hcz66_8 : wr.cell? ⟨gb133, 8, none⟩ = some (.int .i64 a0_8) := (blk_cell BK133.out 8).trans rfl
              have hcz66_9 : wr.cell? ⟨gb133, 9, none⟩ = some (.slice A0_9 l0_9.length c0_9) := (blk_cell BK133.out 9).trans rfl
              have hcz66_10 : wr.cell? ⟨gb133, 10, none⟩ = some (.slice A0_10 l0_10.length c0_10) := (blk_cell BK133.out 10).trans rfl
              have hcz66_11 : wr.cell? ⟨gb133, 11, none⟩ = some (.slice A0_11 l0_11.length c0_11) := (blk_cell BK133.out 11).trans rfl
              have hfz66_0 := blk_frozen BK133.out 0
              have hfz66_1 := blk_frozen BK133.out 1
              have hfz66_2 := blk_frozen BK133.out 2
              have hfz66_3 := blk_frozen BK133.out 3
              have hfz66_4 := blk_frozen BK133.out 4
              have hfz66_5 := blk_frozen BK133.out 5
              have hfz66_6 := blk_frozen BK133.out 6
              have hfz66_7 := blk_frozen BK133.out 7
              have hfz66_8 := blk_frozen BK133.out 8
              have hfz66_9 := blk_frozen BK133.out 9
              have hfz66_10 := blk_frozen BK133.out 10
              have hfz66_11 := blk_frozen BK133.out 11
              have p141 : 0 ≤ (x5_3 : Int) := of_decide_eq_true (by first | (with_reducible assumption) | assumption)
              have q141 : x5_3 < (l0_10.length : Int) := of_decide_eq_true (by first | (with_reducible assumption) | assumption)
              obtain ⟨ad141, e141, hx141_0⟩ := Kd.at_string HR0_10.out x5_3 p141 q141
              cases e141
              replace hx141_0 := (HB.out.cell (World.block_lt_of_cell? w _ hx141_0)).trans hx141_0
              replace p141 := eq_true p141
              replace q141 := eq_true q141
              have p143 : 0 ≤ (x5_3 : Int) := of_decide_eq_true (by first | (with_reducible assumption) | assumption)
              have q143 : x5_3 < (l0_10.length : Int) := of_decide_eq_true (by first | (with_reducible assumption) | assumption)
              obtain ⟨ad143, e143, hx143_0⟩ := Kd.at_string HR0_10.out x5_3 p143 q143
              obtain rfl : ad141 = ad143 := (by injection e143)
              replace hx143_0 := (HB.out.cell (World.block_lt_of_cell? w _ hx143_0)).trans hx143_0
              replace p143 := eq_true p143
              replace q143 := eq_true q143
              have p144 : 0 ≤ (x5_3 : Int) := of_decide_eq_true (by first | (with_reducible assumption) | assumption)
              have q144 : x5_3 < (l0_10.length : Int) := of_decide_eq_true (by first | (with_reducible assumption) | assumption)
              obtain ⟨ad144, e144, hx144_0⟩ := Kd.at_string HR0_10.out x5_3 p144 q144
              obtain rfl : ad141 = ad144 := (by injection e144)
              replace hx144_0 := (HB.out.cell (World.block_lt_of_cell? w _ hx144_0)).trans hx144_0
              replace p144 := eq_true p144
              replace q144 := eq_true q144
              go_wp2
              go_roundg k3
              case measure => have := HJ1.out; have := HK2.out; have := HK3.out; omega
              case rel => exact ⟨(true), (wrap64 (x5_3 + 1)), (by first | rfl | (simp; done) | (simp [*]; done)), (by first | rfl | (simp; done) | (simp [*]; done)), H', ⟨by have := HJ1.out; have := HK2.out; have := HK3.out; omega⟩, ⟨by (with_reducible repeat (first | refine blk_drewN ?_ _ | refine blk_drew ?_ | refine blk_alloc ?_ _)); exact BK133.out⟩, ⟨Bx1 HB GE133⟩⟩
end Go.Proofs.Ythknoffionodmaa.QFnExactNodeOK

/- Written by a program of this session. -/
import Derived.Test.YtildepkogbcdpaaBEnv
import Derived.Test.YtildepkogbcdpaaBHd
namespace Go.Proofs.Ytildepkogbcdpaa.B
open Go Go.B
set_option linter.unusedVariables false
set_option linter.unusedSimpArgs false
def f22.l3.step {R : Type} (k : Nat) (rec_ : (List Int) → Int → (List Int) → Option R) (ret : ((List Int)) → Option R) (xs2 : List Int) (a3 : Int) (xs4 : List Int) : Option R :=
  if (decide (a3 < (((List.length xs2) : Nat) : Int))) = true then
    if (0 : Int) ≤ a3 then
      if a3 < ((List.length xs2 : Nat) : Int) then
        if (0 : Int) ≤ a3 then
          if a3 < ((List.length xs4 : Nat) : Int) then
            rec_ xs2 (IntKind.i64.wrap (a3 + (1 : Int))) (List.set xs4 (Int.toNat a3) (List.getD xs2 (Int.toNat a3) (0 : Int)))
          else none
        else none
      else none
    else none
  else
    ret xs4
def f22.l3 (k : Nat) : Nat → (List Int) → Int → (List Int) → Option ((List Int))
  | 0, _, _, _ => none
  | j + 1, xs2, a3, xs4 => f22.l3.step k (fun xs2 a3 xs4 => f22.l3 k j xs2 a3 xs4) some xs2 a3 xs4
def f22.l3.w {R : Type} : ((List Int)) → (Exit → St env → Option R) → Option R := fun t6 K => K (.exit 0) ⟨fullT [3] 0 22 [.v (.c (.row 49))], [(49, .row true 3 t6)], 337⟩
def f22.l3.st (xs2 : List Int) (a3 : Int) (xs4 : List Int) : St env := ⟨fullT [0, 3, 4] 0 22 [.v (.c (.imm 3 xs2)), .v (.c (.row 49)), .v (.c (.s (.int .i64 a3)))], [(49, .row true 3 xs4)], 97⟩
def f22.l3.hd (k : Nat) (ts_ : List (AV env)) (mm_ : Mem env) (n_ : Nat) : LCl env :=
  gTs LCl.no [0, 3, 4] 22 ts_ fun l_ => gV LCl.no l_ fun a_ l_ => rImm LCl.no 3 a_ fun xs2 => gV LCl.no l_ fun a_ l_ => rRow LCl.no 49 a_ <| gV LCl.no l_ fun a_ l_ => rV LCl.no a_ fun v_ => vI LCl.no .i64 v_ fun a3 => gE LCl.no l_ <| mRow LCl.no 49 true 3 mm_ fun xs4 m_ => gE LCl.no m_ <| gN LCl.no 97 n_ { α := (List Int), o := f22.l3 k k xs2 a3 xs4, w := f22.l3.w }
def f22.step {R : Type} (k : Nat) (ret : ((List Int)) → Option R) (xs1 : List Int) : Option R :=
  if (0 : Int) ≤ (((List.length xs1) : Nat) : Int) then
    if (Int.toNat (((List.length xs1) : Nat) : Int)) * 8 ≤ maxN then
      (f22.l3 k k xs1 (0 : Int) (List.replicate (Int.toNat (((List.length xs1) : Nat) : Int)) (0 : Int))).bind fun t5 => ret t5
    else none
  else none
def f22 (k : Nat) (xs1 : List Int) : Option ((List Int)) := f22.step k some xs1
def f22.w {R : Type} : ((List Int)) → (Res env → Option R) → Option R := fun t7 K => K ⟨.v (.c (.own true 3 t7)), [[]]⟩
theorem f22.wn (x : ((List Int))) : ∃ res, ∀ {R : Type} (K : Res env → Option R), f22.w x K = K res := by
  exact ⟨_, fun _ => rfl⟩
def f22.hd (k : Nat) (ps_ : List (P2 env)) : Cl env :=
  gC Cl.no ps_ fun p_ ps_ => qC Cl.no p_ fun c_ => qSl Cl.no 3 c_ fun xs1 => gE Cl.no ps_ <| { α := (List Int), o := f22 k xs1, w := f22.w, nat := fun x _ => f22.wn x }
def f22.e (k : Nat) : Entry env := ⟨fun ps => f22.hd k (coer [[.rd 3]] ps), []⟩
def f22.X (k : Nat) : Ctx env := { C := lookE [], L := lookE [(3, fun S => f22.l3.hd k S.ts S.m S.n)], J := lookE [], keep := lookD [(3, [0, 3, 4])], keepX := lookD [(3, [3])], span := lookN [(3, 240)], eff := fun n => memN n [], prep := lookP [], np := 0 }
theorem f22.l3.nat {R : Type} (k : Nat) (rec_ : (List Int) → Int → (List Int) → Option ((List Int))) (g : ((List Int)) → Option R) (xs2 : List Int) (a3 : Int) (xs4 : List Int) : (f22.l3.step k rec_ some xs2 a3 xs4).bind g = f22.l3.step k (fun xs2 a3 xs4 => (rec_ xs2 a3 xs4).bind g) g xs2 a3 xs4 := by
  simp only [f22.l3.step, bind_ite, bind_sum, Option.bind_assoc, Option.bind_some, Option.bind_none]
theorem f22.l3.good (k : Nat) (xs2 : List Int) (a3 : Int) (xs4 : List Int) : GoodL (f22.X k) (nthC 0 (loopsOf (bodyOf Try.f22))) (f22.l3.st xs2 a3 xs4) { α := ((List Int)), o := f22.l3 k k xs2 a3 xs4, w := f22.l3.w } :=
  loop_good (ι := (List Int) × Int × (List Int)) (α := ((List Int))) (fun i => f22.l3.st i.1 i.2.1 i.2.2) (fun j i => f22.l3 k j i.1 i.2.1 i.2.2) f22.l3.w (fun rec_ ret i => f22.l3.step k (fun xs2 a3 xs4 => rec_ (xs2, a3, xs4)) ret i.1 i.2.1 i.2.2)
    (fun _ => rfl) (fun _ _ => rfl) (fun rec_ g i => f22.l3.nat k _ g i.1 i.2.1 i.2.2) (fun {R} i0 i rec_ K => by kernel_rfl) k (xs2, a3, xs4)
theorem f22.l3.all (k : Nat) (S : St env) : GoodL (f22.X k) (nthC 0 (loopsOf (bodyOf Try.f22))) S (f22.l3.hd k S.ts S.m S.n) := by
  obtain ⟨ts_, m_, n_⟩ := S
  show GoodL _ _ _ (f22.l3.hd k ts_ m_ n_)
  unfold f22.l3.hd
  refine gTs_ok (p := GoodL _ _ _) goodL_no fun _ h => ?_
  subst h
  refine gV_ok (p := GoodL _ _ _) goodL_no fun _ _ h => ?_
  subst h
  refine rImm_ok (p := GoodL _ _ _) goodL_no fun _ h => ?_
  subst h
  refine gV_ok (p := GoodL _ _ _) goodL_no fun _ _ h => ?_
  subst h
  refine rRow_ok (p := GoodL _ _ _) goodL_no fun h => ?_
  subst h
  refine gV_ok (p := GoodL _ _ _) goodL_no fun _ _ h => ?_
  subst h
  refine rV_ok (p := GoodL _ _ _) goodL_no fun _ h => ?_
  subst h
  refine vI_ok (p := GoodL _ _ _) goodL_no fun _ h => ?_
  subst h
  refine gE_ok (p := GoodL _ _ _) goodL_no fun h => ?_
  subst h
  refine mRow_ok (p := GoodL _ _ _) goodL_no fun _ _ h => ?_
  subst h
  refine gE_ok (p := GoodL _ _ _) goodL_no fun h => ?_
  subst h
  refine gN_ok (p := GoodL _ _ _) goodL_no fun h => ?_
  subst h
  exact f22.l3.good k _ _ _
theorem f22.nat {R : Type} (k : Nat) (g : ((List Int)) → Option R) (xs1 : List Int) : f22.step k g xs1 = (f22 k xs1).bind g := by
  simp only [f22, f22.step, bind_ite, bind_sum, Option.bind_assoc, Option.bind_some, Option.bind_none]
theorem f22.ev (k : Nat) (xs1 : List Int) : evF (f22.X k) (bodyOf Try.f22) Try.f22.ntmps Try.f22.results.toList [.v (.c (.sl 3 xs1))] = f22.step k (fun x => f22.w x some) xs1 := by kernel_rfl
theorem f22.hok (k : Nat) : HOK (f22.X k) (bodyOf Try.f22) where
  l := allP_mem (by exact ⟨ls_of (h0 := fun S => f22.l3.hd k S.ts S.m S.n) (by kernel_rfl) (f22.l3.all k), trivial⟩)
  j := allP_mem (by exact trivial)
theorem f22.sound0 (k : Nat) : SoundC env Try.prog 22 (f22.hd k) := by
  intro ps_
  show GoodC _ _ _ ps_ (f22.hd k ps_)
  unfold f22.hd
  refine gC_ok (p := GoodC env Try.prog 22 _) goodC_no fun _ _ h => ?_
  subst h
  refine qC_ok (p := GoodC env Try.prog 22 _) goodC_no fun _ h => ?_
  subst h
  refine qSl_ok (p := GoodC env Try.prog 22 _) goodC_no fun _ h => ?_
  subst h
  refine gE_ok (p := GoodC env Try.prog 22 _) goodC_no fun h => ?_
  subst h
  exact fun_good (fun_sound envOK (cs_sound _ (by exact trivial)) (f22.hok k) Try.func22 rfl) ((f22.ev k _).trans (f22.nat k _ _))
theorem f22.sound (k : Nat) : SoundC env Try.prog 22 (f22.e k).F := soundC_coer (f22.sound0 k) [[.rd 3]]
theorem f22.says (k : Nat) (xs1 : List Int) (t8 : (List Int)) (h_ : f22 k xs1 = some t8) : SoundAt env Try.prog 22 [.v (.c (.sl 3 xs1))] ⟨.v (.c (.own true 3 t8)), [[]]⟩ :=
  fun_sound envOK (cs_sound _ (by exact trivial)) (f22.hok k) Try.func22 rfl _ _ (((f22.ev k xs1).trans (f22.nat k _ xs1)).trans (by rw [h_]; rfl))
theorem f22.fnok : FnOK Try.prog 22 := fn_ok Try.func22 (by kernel_rfl) rfl
def f86.step {R : Type} (k : Nat) (ret : Bool → Option R) (a1 : Int) (a2 : Int) (a3 : Int) : Option R :=
  if (decide (a1 ≥ a2)) = true then
    ret (decide (a1 ≤ a3))
  else
    ret false
def f86 (k : Nat) (a1 : Int) (a2 : Int) (a3 : Int) : Option Bool := f86.step k some a1 a2 a3
def f86.w {R : Type} : Bool → (Res env → Option R) → Option R := fun t4 K => K ⟨.v (.c (.s (.bool t4))), [[], [], []]⟩
theorem f86.wn (x : Bool) : ∃ res, ∀ {R : Type} (K : Res env → Option R), f86.w x K = K res := by
  exact ⟨_, fun _ => rfl⟩
def f86.hd (k : Nat) (ps_ : List (P2 env)) : Cl env :=
  gC Cl.no ps_ fun p_ ps_ => qC Cl.no p_ fun c_ => qS Cl.no c_ fun v_ => vI Cl.no .i64 v_ fun a1 => gC Cl.no ps_ fun p_ ps_ => qC Cl.no p_ fun c_ => qS Cl.no c_ fun v_ => vI Cl.no .i64 v_ fun a2 => gC Cl.no ps_ fun p_ ps_ => qC Cl.no p_ fun c_ => qS Cl.no c_ fun v_ => vI Cl.no .i64 v_ fun a3 => gE Cl.no ps_ <| { α := Bool, o := f86 k a1 a2 a3, w := f86.w, nat := fun x _ => f86.wn x }
def f86.e (k : Nat) : Entry env := ⟨f86.hd k, []⟩
def f86.X (k : Nat) : Ctx env := { C := lookE [], L := lookE [], J := lookE [], keep := lookD [], keepX := lookD [], span := lookN [], eff := fun n => memN n [], prep := lookP [], np := 0 }
theorem f86.nat {R : Type} (k : Nat) (g : Bool → Option R) (a1 : Int) (a2 : Int) (a3 : Int) : f86.step k g a1 a2 a3 = (f86 k a1 a2 a3).bind g := by
  simp only [f86, f86.step, bind_ite, bind_sum, Option.bind_assoc, Option.bind_some, Option.bind_none]
theorem f86.ev (k : Nat) (a1 : Int) (a2 : Int) (a3 : Int) : evF (f86.X k) (bodyOf Try.f86) Try.f86.ntmps Try.f86.results.toList [.v (.c (.s (.int .i64 a1))), .v (.c (.s (.int .i64 a2))), .v (.c (.s (.int .i64 a3)))] = f86.step k (fun x => f86.w x some) a1 a2 a3 := by kernel_rfl
theorem f86.hok (k : Nat) : HOK (f86.X k) (bodyOf Try.f86) where
  l := allP_mem (by exact trivial)
  j := allP_mem (by exact trivial)
theorem f86.sound (k : Nat) : SoundC env Try.prog 86 ((f86.e k).F) := by
  intro ps_
  show GoodC _ _ _ ps_ (f86.hd k ps_)
  unfold f86.hd
  refine gC_ok (p := GoodC env Try.prog 86 _) goodC_no fun _ _ h => ?_
  subst h
  refine qC_ok (p := GoodC env Try.prog 86 _) goodC_no fun _ h => ?_
  subst h
  refine qS_ok (p := GoodC env Try.prog 86 _) goodC_no fun _ h => ?_
  subst h
  refine vI_ok (p := GoodC env Try.prog 86 _) goodC_no fun _ h => ?_
  subst h
  refine gC_ok (p := GoodC env Try.prog 86 _) goodC_no fun _ _ h => ?_
  subst h
  refine qC_ok (p := GoodC env Try.prog 86 _) goodC_no fun _ h => ?_
  subst h
  refine qS_ok (p := GoodC env Try.prog 86 _) goodC_no fun _ h => ?_
  subst h
  refine vI_ok (p := GoodC env Try.prog 86 _) goodC_no fun _ h => ?_
  subst h
  refine gC_ok (p := GoodC env Try.prog 86 _) goodC_no fun _ _ h => ?_
  subst h
  refine qC_ok (p := GoodC env Try.prog 86 _) goodC_no fun _ h => ?_
  subst h
  refine qS_ok (p := GoodC env Try.prog 86 _) goodC_no fun _ h => ?_
  subst h
  refine vI_ok (p := GoodC env Try.prog 86 _) goodC_no fun _ h => ?_
  subst h
  refine gE_ok (p := GoodC env Try.prog 86 _) goodC_no fun h => ?_
  subst h
  exact fun_good (fun_sound envOK (cs_sound _ (by exact trivial)) (f86.hok k) Try.func86 rfl) ((f86.ev k _ _ _).trans (f86.nat k _ _ _ _))
theorem f86.says (k : Nat) (a1 : Int) (a2 : Int) (a3 : Int) (t5 : Bool) (h_ : f86 k a1 a2 a3 = some t5) : SoundAt env Try.prog 86 [.v (.c (.s (.int .i64 a1))), .v (.c (.s (.int .i64 a2))), .v (.c (.s (.int .i64 a3)))] ⟨.v (.c (.s (.bool t5))), [[], [], []]⟩ :=
  fun_sound envOK (cs_sound _ (by exact trivial)) (f86.hok k) Try.func86 rfl _ _ (((f86.ev k a1 a2 a3).trans (f86.nat k _ a1 a2 a3)).trans (by rw [h_]; rfl))
theorem f86.fnok : FnOK Try.prog 86 := fn_ok Try.func86 (by kernel_rfl) rfl
def f21.l7.step {R : Type} (k : Nat) (rec_ : (List Int) → (List Int) → Int → Bool → Bool → (List S123) → Option R) (ret : ((Int × Bool × Bool × (List S123)) ⊕ (Bool × Bool × (List S123))) → Option R) (xs4 : List Int) (xs5 : List Int) (a6 : Int) (b7 : Bool) (b8 : Bool) (xs9 : List S123) : Option R :=
  if (decide (a6 < (((List.length xs4) : Nat) : Int))) = true then
    if (0 : Int) ≤ a6 then
      if a6 < ((List.length xs4 : Nat) : Int) then
        (f86 k (List.getD xs4 (Int.toNat a6) (0 : Int)) (1500 : Int) (3000 : Int)).bind fun t10 => if (!t10) = false then
            if (0 : Int) ≤ a6 then
              if a6 < ((List.length xs5 : Nat) : Int) then
                (f86 k (List.getD xs5 (Int.toNat a6) (0 : Int)) (0 : Int) (100000 : Int)).bind fun t11 => if (!t11) = true then
                    ret (.inl ((4 : Int), false, b8, xs9))
                  else
                    if (0 : Int) ≤ a6 then
                      if a6 < ((List.length xs4 : Nat) : Int) then
                        if (0 : Int) ≤ a6 then
                          if a6 < ((List.length xs5 : Nat) : Int) then
                            if (List.length xs9 + List.length ([(⟨(List.getD xs4 (Int.toNat a6) (0 : Int)), (List.getD xs5 (Int.toNat a6) (0 : Int)), [], (0 : Int), (0 : Int), (0 : Int)⟩ : S123)] : List S123)) * 64 ≤ maxN then
                              rec_ xs4 xs5 (IntKind.i64.wrap (a6 + (1 : Int))) b7 b8 (xs9 ++ ([(⟨(List.getD xs4 (Int.toNat a6) (0 : Int)), (List.getD xs5 (Int.toNat a6) (0 : Int)), [], (0 : Int), (0 : Int), (0 : Int)⟩ : S123)] : List S123))
                            else none
                          else none
                        else none
                      else none
                    else none
              else none
            else none
          else
            ret (.inl ((4 : Int), false, b8, xs9))
      else none
    else none
  else
    ret (.inr (b7, b8, xs9))
def f21.l7 (k : Nat) : Nat → (List Int) → (List Int) → Int → Bool → Bool → (List S123) → Option ((Int × Bool × Bool × (List S123)) ⊕ (Bool × Bool × (List S123)))
  | 0, _, _, _, _, _, _ => none
  | j + 1, xs4, xs5, a6, b7, b8, xs9 => f21.l7.step k (fun xs4 xs5 a6 b7 b8 xs9 => f21.l7 k j xs4 xs5 a6 b7 b8 xs9) some xs4 xs5 a6 b7 b8 xs9
def f21.l7.w {R : Type} : ((Int × Bool × Bool × (List S123)) ⊕ (Bool × Bool × (List S123))) → (Exit → St env → Option R) → Option R := fun x K => Sum.elim (fun t14 => K .ret ⟨fullT [4, 5, 6] 0 66 [.v (.c (.bp 2 0)), .v (.c (.s (.int .i64 t14.1))), .v (.c (.bp 354 0))], [(2, .box [.s (.slice none 0 0), .s (.slice none 0 0), .s (.bool t14.2.1)]), (354, .box [.row 402, .s (.slice none 0 0), .s (.bool t14.2.2.1)]), (402, .row true 123 t14.2.2.2)], 1042⟩) (fun t15 => K (.exit 0) ⟨fullT [4, 6] 0 66 [.v (.c (.bp 2 0)), .v (.c (.bp 354 0))], [(2, .box [.s (.slice none 0 0), .s (.slice none 0 0), .s (.bool t15.1)]), (354, .box [.row 402, .s (.slice none 0 0), .s (.bool t15.2.1)]), (402, .row true 123 t15.2.2)], 1042⟩) x
def f21.l7.st (xs4 : List Int) (xs5 : List Int) (a6 : Int) (b7 : Bool) (b8 : Bool) (xs9 : List S123) : St env := ⟨fullT [0, 1, 4, 6, 7] 0 66 [.v (.c (.imm 3 xs4)), .v (.c (.imm 3 xs5)), .v (.c (.bp 2 0)), .v (.c (.bp 354 0)), .v (.c (.s (.int .i64 a6)))], [(2, .box [.s (.slice none 0 0), .s (.slice none 0 0), .s (.bool b7)]), (354, .box [.row 402, .s (.slice none 0 0), .s (.bool b8)]), (402, .row true 123 xs9)], 418⟩
def f21.l7.hd (k : Nat) (ts_ : List (AV env)) (mm_ : Mem env) (n_ : Nat) : LCl env :=
  gTs LCl.no [0, 1, 4, 6, 7] 66 ts_ fun l_ => gV LCl.no l_ fun a_ l_ => rImm LCl.no 3 a_ fun xs4 => gV LCl.no l_ fun a_ l_ => rImm LCl.no 3 a_ fun xs5 => gV LCl.no l_ fun a_ l_ => rBp LCl.no 2 0 a_ <| gV LCl.no l_ fun a_ l_ => rBp LCl.no 354 0 a_ <| gV LCl.no l_ fun a_ l_ => rV LCl.no a_ fun v_ => vI LCl.no .i64 v_ fun a6 => gE LCl.no l_ <| mBox LCl.no 2 mm_ fun c_ m_ => gC LCl.no c_ fun a_ c_ => rV LCl.no a_ fun v_ => vNil LCl.no v_ <| gC LCl.no c_ fun a_ c_ => rV LCl.no a_ fun v_ => vNil LCl.no v_ <| gC LCl.no c_ fun a_ c_ => rV LCl.no a_ fun v_ => vB LCl.no v_ fun b7 => gE LCl.no c_ <| mBox LCl.no 354 m_ fun c_ m_ => gC LCl.no c_ fun a_ c_ => rRow LCl.no 402 a_ <| gC LCl.no c_ fun a_ c_ => rV LCl.no a_ fun v_ => vNil LCl.no v_ <| gC LCl.no c_ fun a_ c_ => rV LCl.no a_ fun v_ => vB LCl.no v_ fun b8 => gE LCl.no c_ <| mRow LCl.no 402 true 123 m_ fun xs9 m_ => gE LCl.no m_ <| gN LCl.no 418 n_ { α := (Int × Bool × Bool × (List S123)) ⊕ (Bool × Bool × (List S123)), o := f21.l7 k k xs4 xs5 a6 b7 b8 xs9, w := f21.l7.w }
def f21.step {R : Type} (k : Nat) (ret : ((Bool × Int) ⊕ ((List S123) × Bool × Int)) → Option R) (xs1 : List Int) (xs2 : List Int) : Option R :=
  if (decide ((((List.length xs1) : Nat) : Int) > (4096 : Int))) = false then
    if (decide ((((List.length xs2) : Nat) : Int) > (4096 : Int))) = true then
      ret (.inl (false, (2 : Int)))
    else
      (f86 k (((List.length xs1) : Nat) : Int) (1 : Int) (5 : Int)).bind fun t3 => if (!t3) = false then
          if (decide ((((List.length xs2) : Nat) : Int) ≠ (((List.length xs1) : Nat) : Int))) = true then
            ret (.inl (false, (6 : Int)))
          else
            (f21.l7 k k xs1 xs2 (0 : Int) false false ([] : List S123)).bind (Sum.elim (fun t12 => ret (.inl (t12.2.1, t12.1))) (fun t13 => ret (.inr (t13.2.2, t13.2.1, (0 : Int)))))
        else
          ret (.inl (false, (6 : Int)))
  else
    ret (.inl (false, (2 : Int)))
def f21 (k : Nat) (xs1 : List Int) (xs2 : List Int) : Option ((Bool × Int) ⊕ ((List S123) × Bool × Int)) := f21.step k some xs1 xs2
def f21.w {R : Type} : ((Bool × Int) ⊕ ((List S123) × Bool × Int)) → (Res env → Option R) → Option R := fun x K => Sum.elim (fun t16 => K ⟨.tup [.g [.s (.slice none 0 0), .s (.slice none 0 0), .s (.bool t16.1)], .c (.s (.int .i64 t16.2))], [[], []]⟩) (fun t17 => K ⟨.tup [.g [.own true 123 t17.1, .s (.slice none 0 0), .s (.bool t17.2.1)], .c (.s (.int .i64 t17.2.2))], [[], []]⟩) x
theorem f21.wn (x : ((Bool × Int) ⊕ ((List S123) × Bool × Int))) : ∃ res, ∀ {R : Type} (K : Res env → Option R), f21.w x K = K res := by
  rcases x with x | x <;> exact ⟨_, fun _ => rfl⟩
def f21.hd (k : Nat) (ps_ : List (P2 env)) : Cl env :=
  gC Cl.no ps_ fun p_ ps_ => qC Cl.no p_ fun c_ => qSl Cl.no 3 c_ fun xs1 => gC Cl.no ps_ fun p_ ps_ => qC Cl.no p_ fun c_ => qSl Cl.no 3 c_ fun xs2 => gE Cl.no ps_ <| { α := (Bool × Int) ⊕ ((List S123) × Bool × Int), o := f21 k xs1 xs2, w := f21.w, nat := fun x _ => f21.wn x }
def f21.e (k : Nat) : Entry env := ⟨fun ps => f21.hd k (coer [[.rd 3], [.rd 3]] ps), []⟩
def f21.X (k : Nat) : Ctx env := { C := lookE [(86, f86.e k)], L := lookE [(7, fun S => f21.l7.hd k S.ts S.m S.n)], J := lookE [], keep := lookD [(7, [0, 1, 4, 6, 7])], keepX := lookD [(7, [4, 5, 6])], span := lookN [(7, 624)], eff := fun n => memN n [11], prep := lookP [(7, [.nilB 354 0 123])], np := 0 }
theorem f21.l7.nat {R : Type} (k : Nat) (rec_ : (List Int) → (List Int) → Int → Bool → Bool → (List S123) → Option ((Int × Bool × Bool × (List S123)) ⊕ (Bool × Bool × (List S123)))) (g : ((Int × Bool × Bool × (List S123)) ⊕ (Bool × Bool × (List S123))) → Option R) (xs4 : List Int) (xs5 : List Int) (a6 : Int) (b7 : Bool) (b8 : Bool) (xs9 : List S123) : (f21.l7.step k rec_ some xs4 xs5 a6 b7 b8 xs9).bind g = f21.l7.step k (fun xs4 xs5 a6 b7 b8 xs9 => (rec_ xs4 xs5 a6 b7 b8 xs9).bind g) g xs4 xs5 a6 b7 b8 xs9 := by
  simp only [f21.l7.step, bind_ite, bind_sum, Option.bind_assoc, Option.bind_some, Option.bind_none]
theorem f21.l7.good (k : Nat) (xs4 : List Int) (xs5 : List Int) (a6 : Int) (b7 : Bool) (b8 : Bool) (xs9 : List S123) : GoodL (f21.X k) (nthC 0 (loopsOf (bodyOf Try.f21))) (f21.l7.st xs4 xs5 a6 b7 b8 xs9) { α := ((Int × Bool × Bool × (List S123)) ⊕ (Bool × Bool × (List S123))), o := f21.l7 k k xs4 xs5 a6 b7 b8 xs9, w := f21.l7.w } :=
  loop_good (ι := (List Int) × (List Int) × Int × Bool × Bool × (List S123)) (α := ((Int × Bool × Bool × (List S123)) ⊕ (Bool × Bool × (List S123)))) (fun i => f21.l7.st i.1 i.2.1 i.2.2.1 i.2.2.2.1 i.2.2.2.2.1 i.2.2.2.2.2) (fun j i => f21.l7 k j i.1 i.2.1 i.2.2.1 i.2.2.2.1 i.2.2.2.2.1 i.2.2.2.2.2) f21.l7.w (fun rec_ ret i => f21.l7.step k (fun xs4 xs5 a6 b7 b8 xs9 => rec_ (xs4, xs5, a6, b7, b8, xs9)) ret i.1 i.2.1 i.2.2.1 i.2.2.2.1 i.2.2.2.2.1 i.2.2.2.2.2)
    (fun _ => rfl) (fun _ _ => rfl) (fun rec_ g i => f21.l7.nat k _ g i.1 i.2.1 i.2.2.1 i.2.2.2.1 i.2.2.2.2.1 i.2.2.2.2.2) (fun {R} i0 i rec_ K => by kernel_rfl) k (xs4, xs5, a6, b7, b8, xs9)
theorem f21.l7.all (k : Nat) (S : St env) : GoodL (f21.X k) (nthC 0 (loopsOf (bodyOf Try.f21))) S (f21.l7.hd k S.ts S.m S.n) := by
  obtain ⟨ts_, m_, n_⟩ := S
  show GoodL _ _ _ (f21.l7.hd k ts_ m_ n_)
  unfold f21.l7.hd
  refine gTs_ok (p := GoodL _ _ _) goodL_no fun _ h => ?_
  subst h
  refine gV_ok (p := GoodL _ _ _) goodL_no fun _ _ h => ?_
  subst h
  refine rImm_ok (p := GoodL _ _ _) goodL_no fun _ h => ?_
  subst h
  refine gV_ok (p := GoodL _ _ _) goodL_no fun _ _ h => ?_
  subst h
  refine rImm_ok (p := GoodL _ _ _) goodL_no fun _ h => ?_
  subst h
  refine gV_ok (p := GoodL _ _ _) goodL_no fun _ _ h => ?_
  subst h
  refine rBp_ok (p := GoodL _ _ _) goodL_no fun h => ?_
  subst h
  refine gV_ok (p := GoodL _ _ _) goodL_no fun _ _ h => ?_
  subst h
  refine rBp_ok (p := GoodL _ _ _) goodL_no fun h => ?_
  subst h
  refine gV_ok (p := GoodL _ _ _) goodL_no fun _ _ h => ?_
  subst h
  refine rV_ok (p := GoodL _ _ _) goodL_no fun _ h => ?_
  subst h
  refine vI_ok (p := GoodL _ _ _) goodL_no fun _ h => ?_
  subst h
  refine gE_ok (p := GoodL _ _ _) goodL_no fun h => ?_
  subst h
  refine mBox_ok (p := GoodL _ _ _) goodL_no fun _ _ h => ?_
  subst h
  refine gC_ok (p := GoodL _ _ _) goodL_no fun _ _ h => ?_
  subst h
  refine rV_ok (p := GoodL _ _ _) goodL_no fun _ h => ?_
  subst h
  refine vNil_ok (p := GoodL _ _ _) goodL_no fun h => ?_
  subst h
  refine gC_ok (p := GoodL _ _ _) goodL_no fun _ _ h => ?_
  subst h
  refine rV_ok (p := GoodL _ _ _) goodL_no fun _ h => ?_
  subst h
  refine vNil_ok (p := GoodL _ _ _) goodL_no fun h => ?_
  subst h
  refine gC_ok (p := GoodL _ _ _) goodL_no fun _ _ h => ?_
  subst h
  refine rV_ok (p := GoodL _ _ _) goodL_no fun _ h => ?_
  subst h
  refine vB_ok (p := GoodL _ _ _) goodL_no fun _ h => ?_
  subst h
  refine gE_ok (p := GoodL _ _ _) goodL_no fun h => ?_
  subst h
  refine mBox_ok (p := GoodL _ _ _) goodL_no fun _ _ h => ?_
  subst h
  refine gC_ok (p := GoodL _ _ _) goodL_no fun _ _ h => ?_
  subst h
  refine rRow_ok (p := GoodL _ _ _) goodL_no fun h => ?_
  subst h
  refine gC_ok (p := GoodL _ _ _) goodL_no fun _ _ h => ?_
  subst h
  refine rV_ok (p := GoodL _ _ _) goodL_no fun _ h => ?_
  subst h
  refine vNil_ok (p := GoodL _ _ _) goodL_no fun h => ?_
  subst h
  refine gC_ok (p := GoodL _ _ _) goodL_no fun _ _ h => ?_
  subst h
  refine rV_ok (p := GoodL _ _ _) goodL_no fun _ h => ?_
  subst h
  refine vB_ok (p := GoodL _ _ _) goodL_no fun _ h => ?_
  subst h
  refine gE_ok (p := GoodL _ _ _) goodL_no fun h => ?_
  subst h
  refine mRow_ok (p := GoodL _ _ _) goodL_no fun _ _ h => ?_
  subst h
  refine gE_ok (p := GoodL _ _ _) goodL_no fun h => ?_
  subst h
  refine gN_ok (p := GoodL _ _ _) goodL_no fun h => ?_
  subst h
  exact f21.l7.good k _ _ _ _ _ _
theorem f21.nat {R : Type} (k : Nat) (g : ((Bool × Int) ⊕ ((List S123) × Bool × Int)) → Option R) (xs1 : List Int) (xs2 : List Int) : f21.step k g xs1 xs2 = (f21 k xs1 xs2).bind g := by
  simp only [f21, f21.step, bind_ite, bind_sum, Option.bind_assoc, Option.bind_some, Option.bind_none]
theorem f21.ev (k : Nat) (xs1 : List Int) (xs2 : List Int) : evF (f21.X k) (bodyOf Try.f21) Try.f21.ntmps Try.f21.results.toList [.v (.c (.sl 3 xs1)), .v (.c (.sl 3 xs2))] = f21.step k (fun x => f21.w x some) xs1 xs2 := by kernel_rfl
theorem f21.hok (k : Nat) : HOK (f21.X k) (bodyOf Try.f21) where
  l := allP_mem (by exact ⟨ls_of (h0 := fun S => f21.l7.hd k S.ts S.m S.n) (by kernel_rfl) (f21.l7.all k), trivial⟩)
  j := allP_mem (by exact trivial)
theorem f21.sound0 (k : Nat) : SoundC env Try.prog 21 (f21.hd k) := by
  intro ps_
  show GoodC _ _ _ ps_ (f21.hd k ps_)
  unfold f21.hd
  refine gC_ok (p := GoodC env Try.prog 21 _) goodC_no fun _ _ h => ?_
  subst h
  refine qC_ok (p := GoodC env Try.prog 21 _) goodC_no fun _ h => ?_
  subst h
  refine qSl_ok (p := GoodC env Try.prog 21 _) goodC_no fun _ h => ?_
  subst h
  refine gC_ok (p := GoodC env Try.prog 21 _) goodC_no fun _ _ h => ?_
  subst h
  refine qC_ok (p := GoodC env Try.prog 21 _) goodC_no fun _ h => ?_
  subst h
  refine qSl_ok (p := GoodC env Try.prog 21 _) goodC_no fun _ h => ?_
  subst h
  refine gE_ok (p := GoodC env Try.prog 21 _) goodC_no fun h => ?_
  subst h
  exact fun_good (fun_sound envOK (cs_sound _ (by exact ⟨⟨f86.sound k, f86.fnok⟩, trivial⟩)) (f21.hok k) Try.func21 rfl) ((f21.ev k _ _).trans (f21.nat k _ _ _))
theorem f21.sound (k : Nat) : SoundC env Try.prog 21 (f21.e k).F := soundC_coer (f21.sound0 k) [[.rd 3], [.rd 3]]
theorem f21.fnok : FnOK Try.prog 21 := fn_ok Try.func21 (by kernel_rfl) rfl
def f83.step {R : Type} (k : Nat) (ret : Bool → Option R) (a1 : Int) (a2 : Int) (a3 : Int) : Option R :=
  if (decide (a1 ≥ a2)) = true then
    ret (decide (a1 ≤ a3))
  else
    ret false
def f83 (k : Nat) (a1 : Int) (a2 : Int) (a3 : Int) : Option Bool := f83.step k some a1 a2 a3
def f83.w {R : Type} : Bool → (Res env → Option R) → Option R := fun t4 K => K ⟨.v (.c (.s (.bool t4))), [[], [], []]⟩
theorem f83.wn (x : Bool) : ∃ res, ∀ {R : Type} (K : Res env → Option R), f83.w x K = K res := by
  exact ⟨_, fun _ => rfl⟩
def f83.hd (k : Nat) (ps_ : List (P2 env)) : Cl env :=
  gC Cl.no ps_ fun p_ ps_ => qC Cl.no p_ fun c_ => qS Cl.no c_ fun v_ => vI Cl.no .i64 v_ fun a1 => gC Cl.no ps_ fun p_ ps_ => qC Cl.no p_ fun c_ => qS Cl.no c_ fun v_ => vI Cl.no .i64 v_ fun a2 => gC Cl.no ps_ fun p_ ps_ => qC Cl.no p_ fun c_ => qS Cl.no c_ fun v_ => vI Cl.no .i64 v_ fun a3 => gE Cl.no ps_ <| { α := Bool, o := f83 k a1 a2 a3, w := f83.w, nat := fun x _ => f83.wn x }
def f83.e (k : Nat) : Entry env := ⟨f83.hd k, []⟩
def f83.X (k : Nat) : Ctx env := { C := lookE [], L := lookE [], J := lookE [], keep := lookD [], keepX := lookD [], span := lookN [], eff := fun n => memN n [], prep := lookP [], np := 0 }
theorem f83.nat {R : Type} (k : Nat) (g : Bool → Option R) (a1 : Int) (a2 : Int) (a3 : Int) : f83.step k g a1 a2 a3 = (f83 k a1 a2 a3).bind g := by
  simp only [f83, f83.step, bind_ite, bind_sum, Option.bind_assoc, Option.bind_some, Option.bind_none]
theorem f83.ev (k : Nat) (a1 : Int) (a2 : Int) (a3 : Int) : evF (f83.X k) (bodyOf Try.f83) Try.f83.ntmps Try.f83.results.toList [.v (.c (.s (.int .i64 a1))), .v (.c (.s (.int .i64 a2))), .v (.c (.s (.int .i64 a3)))] = f83.step k (fun x => f83.w x some) a1 a2 a3 := by kernel_rfl
theorem f83.hok (k : Nat) : HOK (f83.X k) (bodyOf Try.f83) where
  l := allP_mem (by exact trivial)
  j := allP_mem (by exact trivial)
theorem f83.sound (k : Nat) : SoundC env Try.prog 83 ((f83.e k).F) := by
  intro ps_
  show GoodC _ _ _ ps_ (f83.hd k ps_)
  unfold f83.hd
  refine gC_ok (p := GoodC env Try.prog 83 _) goodC_no fun _ _ h => ?_
  subst h
  refine qC_ok (p := GoodC env Try.prog 83 _) goodC_no fun _ h => ?_
  subst h
  refine qS_ok (p := GoodC env Try.prog 83 _) goodC_no fun _ h => ?_
  subst h
  refine vI_ok (p := GoodC env Try.prog 83 _) goodC_no fun _ h => ?_
  subst h
  refine gC_ok (p := GoodC env Try.prog 83 _) goodC_no fun _ _ h => ?_
  subst h
  refine qC_ok (p := GoodC env Try.prog 83 _) goodC_no fun _ h => ?_
  subst h
  refine qS_ok (p := GoodC env Try.prog 83 _) goodC_no fun _ h => ?_
  subst h
  refine vI_ok (p := GoodC env Try.prog 83 _) goodC_no fun _ h => ?_
  subst h
  refine gC_ok (p := GoodC env Try.prog 83 _) goodC_no fun _ _ h => ?_
  subst h
  refine qC_ok (p := GoodC env Try.prog 83 _) goodC_no fun _ h => ?_
  subst h
  refine qS_ok (p := GoodC env Try.prog 83 _) goodC_no fun _ h => ?_
  subst h
  refine vI_ok (p := GoodC env Try.prog 83 _) goodC_no fun _ h => ?_
  subst h
  refine gE_ok (p := GoodC env Try.prog 83 _) goodC_no fun h => ?_
  subst h
  exact fun_good (fun_sound envOK (cs_sound _ (by exact trivial)) (f83.hok k) Try.func83 rfl) ((f83.ev k _ _ _).trans (f83.nat k _ _ _ _))
theorem f83.says (k : Nat) (a1 : Int) (a2 : Int) (a3 : Int) (t5 : Bool) (h_ : f83 k a1 a2 a3 = some t5) : SoundAt env Try.prog 83 [.v (.c (.s (.int .i64 a1))), .v (.c (.s (.int .i64 a2))), .v (.c (.s (.int .i64 a3)))] ⟨.v (.c (.s (.bool t5))), [[], [], []]⟩ :=
  fun_sound envOK (cs_sound _ (by exact trivial)) (f83.hok k) Try.func83 rfl _ _ (((f83.ev k a1 a2 a3).trans (f83.nat k _ a1 a2 a3)).trans (by rw [h_]; rfl))
theorem f83.fnok : FnOK Try.prog 83 := fn_ok Try.func83 (by kernel_rfl) rfl
def f23.l7.step {R : Type} (k : Nat) (rec_ : (List Int) → (List Int) → Int → Int → Bool → (List S123) → Bool → Option R) (ret : ((Int × Bool × (List S123) × Bool) ⊕ (Bool × (List S123) × Bool)) → Option R) (xs4 : List Int) (xs5 : List Int) (a6 : Int) (a7 : Int) (b8 : Bool) (xs9 : List S123) (b10 : Bool) : Option R :=
  if (decide (a7 < a6)) = true then
    if (0 : Int) ≤ a7 then
      if a7 < ((List.length xs4 : Nat) : Int) then
        (f83 k (List.getD xs4 (Int.toNat a7) (0 : Int)) (1500 : Int) (3000 : Int)).bind fun t11 => if (!t11) = false then
            if (0 : Int) ≤ a7 then
              if a7 < ((List.length xs5 : Nat) : Int) then
                (f83 k (List.getD xs5 (Int.toNat a7) (0 : Int)) (0 : Int) (100000 : Int)).bind fun t12 => if (!t12) = true then
                    ret (.inl ((4 : Int), false, xs9, b10))
                  else
                    if (0 : Int) ≤ a7 then
                      if a7 < ((List.length xs4 : Nat) : Int) then
                        if (0 : Int) ≤ a7 then
                          if a7 < ((List.length xs5 : Nat) : Int) then
                            if (0 : Int) ≤ a7 then
                              if a7 < ((List.length xs9 : Nat) : Int) then
                                rec_ xs4 xs5 a6 (IntKind.i64.wrap (a7 + (1 : Int))) b8 (List.set xs9 (Int.toNat a7) (⟨(List.getD xs4 (Int.toNat a7) (0 : Int)), (List.getD xs5 (Int.toNat a7) (0 : Int)), [], (0 : Int), (0 : Int), (0 : Int)⟩ : S123)) b10
                              else none
                            else none
                          else none
                        else none
                      else none
                    else none
              else none
            else none
          else
            ret (.inl ((4 : Int), false, xs9, b10))
      else none
    else none
  else
    ret (.inr (b8, xs9, b10))
def f23.l7 (k : Nat) : Nat → (List Int) → (List Int) → Int → Int → Bool → (List S123) → Bool → Option ((Int × Bool × (List S123) × Bool) ⊕ (Bool × (List S123) × Bool))
  | 0, _, _, _, _, _, _, _ => none
  | j + 1, xs4, xs5, a6, a7, b8, xs9, b10 => f23.l7.step k (fun xs4 xs5 a6 a7 b8 xs9 b10 => f23.l7 k j xs4 xs5 a6 a7 b8 xs9 b10) some xs4 xs5 a6 a7 b8 xs9 b10
def f23.l7.w {R : Type} : ((Int × Bool × (List S123) × Bool) ⊕ (Bool × (List S123) × Bool)) → (Exit → St env → Option R) → Option R := fun x K => Sum.elim (fun t15 => K .ret ⟨fullT [4, 5, 6] 0 68 [.v (.c (.bp 2 0)), .v (.c (.s (.int .i64 t15.1))), .v (.c (.bp 402 0))], [(2, .box [.s (.slice none 0 0), .s (.slice none 0 0), .s (.bool t15.2.1)]), (370, .row true 123 t15.2.2.1), (402, .box [.row 370, .s (.slice none 0 0), .s (.bool t15.2.2.2)])], 1058⟩) (fun t16 => K (.exit 0) ⟨fullT [4, 6] 0 68 [.v (.c (.bp 2 0)), .v (.c (.bp 402 0))], [(2, .box [.s (.slice none 0 0), .s (.slice none 0 0), .s (.bool t16.1)]), (370, .row true 123 t16.2.1), (402, .box [.row 370, .s (.slice none 0 0), .s (.bool t16.2.2)])], 1058⟩) x
def f23.l7.st (xs4 : List Int) (xs5 : List Int) (a6 : Int) (a7 : Int) (b8 : Bool) (xs9 : List S123) (b10 : Bool) : St env := ⟨fullT [0, 1, 4, 6, 34, 35] 0 68 [.v (.c (.imm 3 xs4)), .v (.c (.imm 3 xs5)), .v (.c (.bp 2 0)), .v (.c (.bp 402 0)), .v (.c (.s (.int .i64 a6))), .v (.c (.s (.int .i64 a7)))], [(2, .box [.s (.slice none 0 0), .s (.slice none 0 0), .s (.bool b8)]), (370, .row true 123 xs9), (402, .box [.row 370, .s (.slice none 0 0), .s (.bool b10)])], 482⟩
def f23.l7.hd (k : Nat) (ts_ : List (AV env)) (mm_ : Mem env) (n_ : Nat) : LCl env :=
  gTs LCl.no [0, 1, 4, 6, 34, 35] 68 ts_ fun l_ => gV LCl.no l_ fun a_ l_ => rImm LCl.no 3 a_ fun xs4 => gV LCl.no l_ fun a_ l_ => rImm LCl.no 3 a_ fun xs5 => gV LCl.no l_ fun a_ l_ => rBp LCl.no 2 0 a_ <| gV LCl.no l_ fun a_ l_ => rBp LCl.no 402 0 a_ <| gV LCl.no l_ fun a_ l_ => rV LCl.no a_ fun v_ => vI LCl.no .i64 v_ fun a6 => gV LCl.no l_ fun a_ l_ => rV LCl.no a_ fun v_ => vI LCl.no .i64 v_ fun a7 => gE LCl.no l_ <| mBox LCl.no 2 mm_ fun c_ m_ => gC LCl.no c_ fun a_ c_ => rV LCl.no a_ fun v_ => vNil LCl.no v_ <| gC LCl.no c_ fun a_ c_ => rV LCl.no a_ fun v_ => vNil LCl.no v_ <| gC LCl.no c_ fun a_ c_ => rV LCl.no a_ fun v_ => vB LCl.no v_ fun b8 => gE LCl.no c_ <| mRow LCl.no 370 true 123 m_ fun xs9 m_ => mBox LCl.no 402 m_ fun c_ m_ => gC LCl.no c_ fun a_ c_ => rRow LCl.no 370 a_ <| gC LCl.no c_ fun a_ c_ => rV LCl.no a_ fun v_ => vNil LCl.no v_ <| gC LCl.no c_ fun a_ c_ => rV LCl.no a_ fun v_ => vB LCl.no v_ fun b10 => gE LCl.no c_ <| gE LCl.no m_ <| gN LCl.no 482 n_ { α := (Int × Bool × (List S123) × Bool) ⊕ (Bool × (List S123) × Bool), o := f23.l7 k k xs4 xs5 a6 a7 b8 xs9 b10, w := f23.l7.w }
def f23.step {R : Type} (k : Nat) (ret : ((Bool × Int) ⊕ ((List S123) × Bool × Int)) → Option R) (xs1 : List Int) (xs2 : List Int) : Option R :=
  if (decide ((((List.length xs1) : Nat) : Int) > (4096 : Int))) = false then
    if (decide ((((List.length xs2) : Nat) : Int) > (4096 : Int))) = true then
      ret (.inl (false, (2 : Int)))
    else
      (f83 k (((List.length xs1) : Nat) : Int) (1 : Int) (5 : Int)).bind fun t3 => if (!t3) = false then
          if (decide ((((List.length xs1) : Nat) : Int) ≠ (((List.length xs2) : Nat) : Int))) = true then
            ret (.inl (false, (6 : Int)))
          else
            if (0 : Int) ≤ (((List.length xs1) : Nat) : Int) then
              if (Int.toNat (((List.length xs1) : Nat) : Int)) * 64 ≤ maxN then
                (f23.l7 k k xs1 xs2 (((List.length xs1) : Nat) : Int) (0 : Int) false (List.replicate (Int.toNat (((List.length xs1) : Nat) : Int)) (⟨(0 : Int), (0 : Int), [], (0 : Int), (0 : Int), (0 : Int)⟩ : S123)) false).bind (Sum.elim (fun t13 => ret (.inl (t13.2.1, t13.1))) (fun t14 => ret (.inr (t14.2.1, t14.2.2, (0 : Int)))))
              else none
            else none
        else
          ret (.inl (false, (6 : Int)))
  else
    ret (.inl (false, (2 : Int)))
def f23 (k : Nat) (xs1 : List Int) (xs2 : List Int) : Option ((Bool × Int) ⊕ ((List S123) × Bool × Int)) := f23.step k some xs1 xs2
def f23.w {R : Type} : ((Bool × Int) ⊕ ((List S123) × Bool × Int)) → (Res env → Option R) → Option R := fun x K => Sum.elim (fun t17 => K ⟨.tup [.g [.s (.slice none 0 0), .s (.slice none 0 0), .s (.bool t17.1)], .c (.s (.int .i64 t17.2))], [[], []]⟩) (fun t18 => K ⟨.tup [.g [.own true 123 t18.1, .s (.slice none 0 0), .s (.bool t18.2.1)], .c (.s (.int .i64 t18.2.2))], [[], []]⟩) x
theorem f23.wn (x : ((Bool × Int) ⊕ ((List S123) × Bool × Int))) : ∃ res, ∀ {R : Type} (K : Res env → Option R), f23.w x K = K res := by
  rcases x with x | x <;> exact ⟨_, fun _ => rfl⟩
def f23.hd (k : Nat) (ps_ : List (P2 env)) : Cl env :=
  gC Cl.no ps_ fun p_ ps_ => qC Cl.no p_ fun c_ => qSl Cl.no 3 c_ fun xs1 => gC Cl.no ps_ fun p_ ps_ => qC Cl.no p_ fun c_ => qSl Cl.no 3 c_ fun xs2 => gE Cl.no ps_ <| { α := (Bool × Int) ⊕ ((List S123) × Bool × Int), o := f23 k xs1 xs2, w := f23.w, nat := fun x _ => f23.wn x }
def f23.e (k : Nat) : Entry env := ⟨fun ps => f23.hd k (coer [[.rd 3], [.rd 3]] ps), []⟩
def f23.X (k : Nat) : Ctx env := { C := lookE [(83, f83.e k)], L := lookE [(7, fun S => f23.l7.hd k S.ts S.m S.n)], J := lookE [], keep := lookD [(7, [0, 1, 4, 6, 34, 35])], keepX := lookD [(7, [4, 5, 6])], span := lookN [(7, 576)], eff := fun n => memN n [11], prep := lookP [], np := 0 }
theorem f23.l7.nat {R : Type} (k : Nat) (rec_ : (List Int) → (List Int) → Int → Int → Bool → (List S123) → Bool → Option ((Int × Bool × (List S123) × Bool) ⊕ (Bool × (List S123) × Bool))) (g : ((Int × Bool × (List S123) × Bool) ⊕ (Bool × (List S123) × Bool)) → Option R) (xs4 : List Int) (xs5 : List Int) (a6 : Int) (a7 : Int) (b8 : Bool) (xs9 : List S123) (b10 : Bool) : (f23.l7.step k rec_ some xs4 xs5 a6 a7 b8 xs9 b10).bind g = f23.l7.step k (fun xs4 xs5 a6 a7 b8 xs9 b10 => (rec_ xs4 xs5 a6 a7 b8 xs9 b10).bind g) g xs4 xs5 a6 a7 b8 xs9 b10 := by
  simp only [f23.l7.step, bind_ite, bind_sum, Option.bind_assoc, Option.bind_some, Option.bind_none]
theorem f23.l7.good (k : Nat) (xs4 : List Int) (xs5 : List Int) (a6 : Int) (a7 : Int) (b8 : Bool) (xs9 : List S123) (b10 : Bool) : GoodL (f23.X k) (nthC 0 (loopsOf (bodyOf Try.f23))) (f23.l7.st xs4 xs5 a6 a7 b8 xs9 b10) { α := ((Int × Bool × (List S123) × Bool) ⊕ (Bool × (List S123) × Bool)), o := f23.l7 k k xs4 xs5 a6 a7 b8 xs9 b10, w := f23.l7.w } :=
  loop_good (ι := (List Int) × (List Int) × Int × Int × Bool × (List S123) × Bool) (α := ((Int × Bool × (List S123) × Bool) ⊕ (Bool × (List S123) × Bool))) (fun i => f23.l7.st i.1 i.2.1 i.2.2.1 i.2.2.2.1 i.2.2.2.2.1 i.2.2.2.2.2.1 i.2.2.2.2.2.2) (fun j i => f23.l7 k j i.1 i.2.1 i.2.2.1 i.2.2.2.1 i.2.2.2.2.1 i.2.2.2.2.2.1 i.2.2.2.2.2.2) f23.l7.w (fun rec_ ret i => f23.l7.step k (fun xs4 xs5 a6 a7 b8 xs9 b10 => rec_ (xs4, xs5, a6, a7, b8, xs9, b10)) ret i.1 i.2.1 i.2.2.1 i.2.2.2.1 i.2.2.2.2.1 i.2.2.2.2.2.1 i.2.2.2.2.2.2)
    (fun _ => rfl) (fun _ _ => rfl) (fun rec_ g i => f23.l7.nat k _ g i.1 i.2.1 i.2.2.1 i.2.2.2.1 i.2.2.2.2.1 i.2.2.2.2.2.1 i.2.2.2.2.2.2) (fun {R} i0 i rec_ K => by kernel_rfl) k (xs4, xs5, a6, a7, b8, xs9, b10)
theorem f23.l7.all (k : Nat) (S : St env) : GoodL (f23.X k) (nthC 0 (loopsOf (bodyOf Try.f23))) S (f23.l7.hd k S.ts S.m S.n) := by
  obtain ⟨ts_, m_, n_⟩ := S
  show GoodL _ _ _ (f23.l7.hd k ts_ m_ n_)
  unfold f23.l7.hd
  refine gTs_ok (p := GoodL _ _ _) goodL_no fun _ h => ?_
  subst h
  refine gV_ok (p := GoodL _ _ _) goodL_no fun _ _ h => ?_
  subst h
  refine rImm_ok (p := GoodL _ _ _) goodL_no fun _ h => ?_
  subst h
  refine gV_ok (p := GoodL _ _ _) goodL_no fun _ _ h => ?_
  subst h
  refine rImm_ok (p := GoodL _ _ _) goodL_no fun _ h => ?_
  subst h
  refine gV_ok (p := GoodL _ _ _) goodL_no fun _ _ h => ?_
  subst h
  refine rBp_ok (p := GoodL _ _ _) goodL_no fun h => ?_
  subst h
  refine gV_ok (p := GoodL _ _ _) goodL_no fun _ _ h => ?_
  subst h
  refine rBp_ok (p := GoodL _ _ _) goodL_no fun h => ?_
  subst h
  refine gV_ok (p := GoodL _ _ _) goodL_no fun _ _ h => ?_
  subst h
  refine rV_ok (p := GoodL _ _ _) goodL_no fun _ h => ?_
  subst h
  refine vI_ok (p := GoodL _ _ _) goodL_no fun _ h => ?_
  subst h
  refine gV_ok (p := GoodL _ _ _) goodL_no fun _ _ h => ?_
  subst h
  refine rV_ok (p := GoodL _ _ _) goodL_no fun _ h => ?_
  subst h
  refine vI_ok (p := GoodL _ _ _) goodL_no fun _ h => ?_
  subst h
  refine gE_ok (p := GoodL _ _ _) goodL_no fun h => ?_
  subst h
  refine mBox_ok (p := GoodL _ _ _) goodL_no fun _ _ h => ?_
  subst h
  refine gC_ok (p := GoodL _ _ _) goodL_no fun _ _ h => ?_
  subst h
  refine rV_ok (p := GoodL _ _ _) goodL_no fun _ h => ?_
  subst h
  refine vNil_ok (p := GoodL _ _ _) goodL_no fun h => ?_
  subst h
  refine gC_ok (p := GoodL _ _ _) goodL_no fun _ _ h => ?_
  subst h
  refine rV_ok (p := GoodL _ _ _) goodL_no fun _ h => ?_
  subst h
  refine vNil_ok (p := GoodL _ _ _) goodL_no fun h => ?_
  subst h
  refine gC_ok (p := GoodL _ _ _) goodL_no fun _ _ h => ?_
  subst h
  refine rV_ok (p := GoodL _ _ _) goodL_no fun _ h => ?_
  subst h
  refine vB_ok (p := GoodL _ _ _) goodL_no fun _ h => ?_
  subst h
  refine gE_ok (p := GoodL _ _ _) goodL_no fun h => ?_
  subst h
  refine mRow_ok (p := GoodL _ _ _) goodL_no fun _ _ h => ?_
  subst h
  refine mBox_ok (p := GoodL _ _ _) goodL_no fun _ _ h => ?_
  subst h
  refine gC_ok (p := GoodL _ _ _) goodL_no fun _ _ h => ?_
  subst h
  refine rRow_ok (p := GoodL _ _ _) goodL_no fun h => ?_
  subst h
  refine gC_ok (p := GoodL _ _ _) goodL_no fun _ _ h => ?_
  subst h
  refine rV_ok (p := GoodL _ _ _) goodL_no fun _ h => ?_
  subst h
  refine vNil_ok (p := GoodL _ _ _) goodL_no fun h => ?_
  subst h
  refine gC_ok (p := GoodL _ _ _) goodL_no fun _ _ h => ?_
  subst h
  refine rV_ok (p := GoodL _ _ _) goodL_no fun _ h => ?_
  subst h
  refine vB_ok (p := GoodL _ _ _) goodL_no fun _ h => ?_
  subst h
  refine gE_ok (p := GoodL _ _ _) goodL_no fun h => ?_
  subst h
  refine gE_ok (p := GoodL _ _ _) goodL_no fun h => ?_
  subst h
  refine gN_ok (p := GoodL _ _ _) goodL_no fun h => ?_
  subst h
  exact f23.l7.good k _ _ _ _ _ _ _
theorem f23.nat {R : Type} (k : Nat) (g : ((Bool × Int) ⊕ ((List S123) × Bool × Int)) → Option R) (xs1 : List Int) (xs2 : List Int) : f23.step k g xs1 xs2 = (f23 k xs1 xs2).bind g := by
  simp only [f23, f23.step, bind_ite, bind_sum, Option.bind_assoc, Option.bind_some, Option.bind_none]
theorem f23.ev (k : Nat) (xs1 : List Int) (xs2 : List Int) : evF (f23.X k) (bodyOf Try.f23) Try.f23.ntmps Try.f23.results.toList [.v (.c (.sl 3 xs1)), .v (.c (.sl 3 xs2))] = f23.step k (fun x => f23.w x some) xs1 xs2 := by kernel_rfl
theorem f23.hok (k : Nat) : HOK (f23.X k) (bodyOf Try.f23) where
  l := allP_mem (by exact ⟨ls_of (h0 := fun S => f23.l7.hd k S.ts S.m S.n) (by kernel_rfl) (f23.l7.all k), trivial⟩)
  j := allP_mem (by exact trivial)
theorem f23.sound0 (k : Nat) : SoundC env Try.prog 23 (f23.hd k) := by
  intro ps_
  show GoodC _ _ _ ps_ (f23.hd k ps_)
  unfold f23.hd
  refine gC_ok (p := GoodC env Try.prog 23 _) goodC_no fun _ _ h => ?_
  subst h
  refine qC_ok (p := GoodC env Try.prog 23 _) goodC_no fun _ h => ?_
  subst h
  refine qSl_ok (p := GoodC env Try.prog 23 _) goodC_no fun _ h => ?_
  subst h
  refine gC_ok (p := GoodC env Try.prog 23 _) goodC_no fun _ _ h => ?_
  subst h
  refine qC_ok (p := GoodC env Try.prog 23 _) goodC_no fun _ h => ?_
  subst h
  refine qSl_ok (p := GoodC env Try.prog 23 _) goodC_no fun _ h => ?_
  subst h
  refine gE_ok (p := GoodC env Try.prog 23 _) goodC_no fun h => ?_
  subst h
  exact fun_good (fun_sound envOK (cs_sound _ (by exact ⟨⟨f83.sound k, f83.fnok⟩, trivial⟩)) (f23.hok k) Try.func23 rfl) ((f23.ev k _ _).trans (f23.nat k _ _ _))
theorem f23.sound (k : Nat) : SoundC env Try.prog 23 (f23.e k).F := soundC_coer (f23.sound0 k) [[.rd 3], [.rd 3]]
theorem f23.fnok : FnOK Try.prog 23 := fn_ok Try.func23 (by kernel_rfl) rfl
def f202.step {R : Type} (k : Nat) (ret : Bool → Option R) (a1 : Int) (a2 : Int) (a3 : Int) (a4 : Int) : Option R :=
  if (decide (a1 ≠ a3)) = true then
    ret false
  else
    if (decide (a2 ≠ a4)) = true then
      ret false
    else
      ret true
def f202 (k : Nat) (a1 : Int) (a2 : Int) (a3 : Int) (a4 : Int) : Option Bool := f202.step k some a1 a2 a3 a4
def f202.w {R : Type} : Bool → (Res env → Option R) → Option R := fun t5 K => K ⟨.v (.c (.s (.bool t5))), [[], []]⟩
theorem f202.wn (x : Bool) : ∃ res, ∀ {R : Type} (K : Res env → Option R), f202.w x K = K res := by
  exact ⟨_, fun _ => rfl⟩
def f202.hd (k : Nat) (ps_ : List (P2 env)) : Cl env :=
  gC Cl.no ps_ fun p_ ps_ => qG Cl.no p_ fun cs_ => gC Cl.no cs_ fun c_ cs_ => qS Cl.no c_ fun v_ => vI Cl.no .i64 v_ fun a1 => gC Cl.no cs_ fun c_ cs_ => qS Cl.no c_ fun v_ => vI Cl.no .i64 v_ fun a2 => gE Cl.no cs_ <| gC Cl.no ps_ fun p_ ps_ => qG Cl.no p_ fun cs_ => gC Cl.no cs_ fun c_ cs_ => qS Cl.no c_ fun v_ => vI Cl.no .i64 v_ fun a3 => gC Cl.no cs_ fun c_ cs_ => qS Cl.no c_ fun v_ => vI Cl.no .i64 v_ fun a4 => gE Cl.no cs_ <| gE Cl.no ps_ <| { α := Bool, o := f202 k a1 a2 a3 a4, w := f202.w, nat := fun x _ => f202.wn x }
def f202.e (k : Nat) : Entry env := ⟨f202.hd k, []⟩
def f202.X (k : Nat) : Ctx env := { C := lookE [], L := lookE [], J := lookE [], keep := lookD [], keepX := lookD [], span := lookN [], eff := fun n => memN n [], prep := lookP [], np := 0 }
theorem f202.nat {R : Type} (k : Nat) (g : Bool → Option R) (a1 : Int) (a2 : Int) (a3 : Int) (a4 : Int) : f202.step k g a1 a2 a3 a4 = (f202 k a1 a2 a3 a4).bind g := by
  simp only [f202, f202.step, bind_ite, bind_sum, Option.bind_assoc, Option.bind_some, Option.bind_none]
theorem f202.ev (k : Nat) (a1 : Int) (a2 : Int) (a3 : Int) (a4 : Int) : evF (f202.X k) (bodyOf Try.f202) Try.f202.ntmps Try.f202.results.toList [.g [.s (.int .i64 a1), .s (.int .i64 a2)], .g [.s (.int .i64 a3), .s (.int .i64 a4)]] = f202.step k (fun x => f202.w x some) a1 a2 a3 a4 := by kernel_rfl
theorem f202.hok (k : Nat) : HOK (f202.X k) (bodyOf Try.f202) where
  l := allP_mem (by exact trivial)
  j := allP_mem (by exact trivial)
theorem f202.sound (k : Nat) : SoundC env Try.prog 202 ((f202.e k).F) := by
  intro ps_
  show GoodC _ _ _ ps_ (f202.hd k ps_)
  unfold f202.hd
  refine gC_ok (p := GoodC env Try.prog 202 _) goodC_no fun _ _ h => ?_
  subst h
  refine qG_ok (p := GoodC env Try.prog 202 _) goodC_no fun _ h => ?_
  subst h
  refine gC_ok (p := GoodC env Try.prog 202 _) goodC_no fun _ _ h => ?_
  subst h
  refine qS_ok (p := GoodC env Try.prog 202 _) goodC_no fun _ h => ?_
  subst h
  refine vI_ok (p := GoodC env Try.prog 202 _) goodC_no fun _ h => ?_
  subst h
  refine gC_ok (p := GoodC env Try.prog 202 _) goodC_no fun _ _ h => ?_
  subst h
  refine qS_ok (p := GoodC env Try.prog 202 _) goodC_no fun _ h => ?_
  subst h
  refine vI_ok (p := GoodC env Try.prog 202 _) goodC_no fun _ h => ?_
  subst h
  refine gE_ok (p := GoodC env Try.prog 202 _) goodC_no fun h => ?_
  subst h
  refine gC_ok (p := GoodC env Try.prog 202 _) goodC_no fun _ _ h => ?_
  subst h
  refine qG_ok (p := GoodC env Try.prog 202 _) goodC_no fun _ h => ?_
  subst h
  refine gC_ok (p := GoodC env Try.prog 202 _) goodC_no fun _ _ h => ?_
  subst h
  refine qS_ok (p := GoodC env Try.prog 202 _) goodC_no fun _ h => ?_
  subst h
  refine vI_ok (p := GoodC env Try.prog 202 _) goodC_no fun _ h => ?_
  subst h
  refine gC_ok (p := GoodC env Try.prog 202 _) goodC_no fun _ _ h => ?_
  subst h
  refine qS_ok (p := GoodC env Try.prog 202 _) goodC_no fun _ h => ?_
  subst h
  refine vI_ok (p := GoodC env Try.prog 202 _) goodC_no fun _ h => ?_
  subst h
  refine gE_ok (p := GoodC env Try.prog 202 _) goodC_no fun h => ?_
  subst h
  refine gE_ok (p := GoodC env Try.prog 202 _) goodC_no fun h => ?_
  subst h
  exact fun_good (fun_sound envOK (cs_sound _ (by exact trivial)) (f202.hok k) Try.func202 rfl) ((f202.ev k _ _ _ _).trans (f202.nat k _ _ _ _ _))
theorem f202.says (k : Nat) (a1 : Int) (a2 : Int) (a3 : Int) (a4 : Int) (t6 : Bool) (h_ : f202 k a1 a2 a3 a4 = some t6) : SoundAt env Try.prog 202 [.g [.s (.int .i64 a1), .s (.int .i64 a2)], .g [.s (.int .i64 a3), .s (.int .i64 a4)]] ⟨.v (.c (.s (.bool t6))), [[], []]⟩ :=
  fun_sound envOK (cs_sound _ (by exact trivial)) (f202.hok k) Try.func202 rfl _ _ (((f202.ev k a1 a2 a3 a4).trans (f202.nat k _ a1 a2 a3 a4)).trans (by rw [h_]; rfl))
theorem f202.fnok : FnOK Try.prog 202 := fn_ok Try.func202 (by kernel_rfl) rfl
def f183.l4.step {R : Type} (k : Nat) (rec_ : (List S131) → (List S131) → Int → Option R) (ret : (Bool ⊕ (Unit)) → Option R) (xs3 : List S131) (xs4 : List S131) (a5 : Int) : Option R :=
  if (decide (a5 < (((List.length xs3) : Nat) : Int))) = true then
    if (0 : Int) ≤ a5 then
      if a5 < ((List.length xs3 : Nat) : Int) then
        if (0 : Int) ≤ a5 then
          if a5 < ((List.length xs4 : Nat) : Int) then
            (f202 k (List.getD xs3 (Int.toNat a5) (⟨(0 : Int), (0 : Int)⟩ : S131)).f0 (List.getD xs3 (Int.toNat a5) (⟨(0 : Int), (0 : Int)⟩ : S131)).f1 (List.getD xs4 (Int.toNat a5) (⟨(0 : Int), (0 : Int)⟩ : S131)).f0 (List.getD xs4 (Int.toNat a5) (⟨(0 : Int), (0 : Int)⟩ : S131)).f1).bind fun t6 => if (!t6) = true then
                ret (.inl false)
              else
                rec_ xs3 xs4 (IntKind.i64.wrap (a5 + (1 : Int)))
          else none
        else none
      else none
    else none
  else
    ret (.inr ())
def f183.l4 (k : Nat) : Nat → (List S131) → (List S131) → Int → Option (Bool ⊕ (Unit))
  | 0, _, _, _ => none
  | j + 1, xs3, xs4, a5 => f183.l4.step k (fun xs3 xs4 a5 => f183.l4 k j xs3 xs4 a5) some xs3 xs4 a5
def f183.l4.w {R : Type} : (Bool ⊕ (Unit)) → (Exit → St env → Option R) → Option R := fun x K => Sum.elim (fun t9 => K .ret ⟨fullT [4] 0 27 [.v (.c (.s (.bool t9)))], [], 402⟩) (fun t10 => K (.exit 0) ⟨fullT [] 0 27 [], [], 402⟩) x
def f183.l4.st (xs3 : List S131) (xs4 : List S131) (a5 : Int) : St env := ⟨fullT [0, 1, 5] 0 27 [.v (.c (.imm 131 xs3)), .v (.c (.imm 131 xs4)), .v (.c (.s (.int .i64 a5)))], [], 114⟩
def f183.l4.hd (k : Nat) (ts_ : List (AV env)) (mm_ : Mem env) (n_ : Nat) : LCl env :=
  gTs LCl.no [0, 1, 5] 27 ts_ fun l_ => gV LCl.no l_ fun a_ l_ => rImm LCl.no 131 a_ fun xs3 => gV LCl.no l_ fun a_ l_ => rImm LCl.no 131 a_ fun xs4 => gV LCl.no l_ fun a_ l_ => rV LCl.no a_ fun v_ => vI LCl.no .i64 v_ fun a5 => gE LCl.no l_ <| gE LCl.no mm_ <| gN LCl.no 114 n_ { α := Bool ⊕ (Unit), o := f183.l4 k k xs3 xs4 a5, w := f183.l4.w }
def f183.step {R : Type} (k : Nat) (ret : Bool → Option R) (xs1 : List S131) (xs2 : List S131) : Option R :=
  if (decide ((((List.length xs1) : Nat) : Int) ≠ (((List.length xs2) : Nat) : Int))) = true then
    ret false
  else
    (f183.l4 k k xs1 xs2 (0 : Int)).bind (Sum.elim (fun t7 => ret t7) (fun t8 => ret true))
def f183 (k : Nat) (xs1 : List S131) (xs2 : List S131) : Option Bool := f183.step k some xs1 xs2
def f183.w {R : Type} : Bool → (Res env → Option R) → Option R := fun t11 K => K ⟨.v (.c (.s (.bool t11))), [[], []]⟩
theorem f183.wn (x : Bool) : ∃ res, ∀ {R : Type} (K : Res env → Option R), f183.w x K = K res := by
  exact ⟨_, fun _ => rfl⟩
def f183.hd (k : Nat) (ps_ : List (P2 env)) : Cl env :=
  gC Cl.no ps_ fun p_ ps_ => qC Cl.no p_ fun c_ => qSl Cl.no 131 c_ fun xs1 => gC Cl.no ps_ fun p_ ps_ => qC Cl.no p_ fun c_ => qSl Cl.no 131 c_ fun xs2 => gE Cl.no ps_ <| { α := Bool, o := f183 k xs1 xs2, w := f183.w, nat := fun x _ => f183.wn x }
def f183.e (k : Nat) : Entry env := ⟨fun ps => f183.hd k (coer [[.rd 131], [.rd 131]] ps), []⟩
def f183.X (k : Nat) : Ctx env := { C := lookE [(202, f202.e k)], L := lookE [(4, fun S => f183.l4.hd k S.ts S.m S.n)], J := lookE [], keep := lookD [(4, [0, 1, 5])], keepX := lookD [(4, [4])], span := lookN [(4, 288)], eff := fun n => memN n [], prep := lookP [], np := 0 }
theorem f183.l4.nat {R : Type} (k : Nat) (rec_ : (List S131) → (List S131) → Int → Option (Bool ⊕ (Unit))) (g : (Bool ⊕ (Unit)) → Option R) (xs3 : List S131) (xs4 : List S131) (a5 : Int) : (f183.l4.step k rec_ some xs3 xs4 a5).bind g = f183.l4.step k (fun xs3 xs4 a5 => (rec_ xs3 xs4 a5).bind g) g xs3 xs4 a5 := by
  simp only [f183.l4.step, bind_ite, bind_sum, Option.bind_assoc, Option.bind_some, Option.bind_none]
theorem f183.l4.good (k : Nat) (xs3 : List S131) (xs4 : List S131) (a5 : Int) : GoodL (f183.X k) (nthC 0 (loopsOf (bodyOf Try.f183))) (f183.l4.st xs3 xs4 a5) { α := (Bool ⊕ (Unit)), o := f183.l4 k k xs3 xs4 a5, w := f183.l4.w } :=
  loop_good (ι := (List S131) × (List S131) × Int) (α := (Bool ⊕ (Unit))) (fun i => f183.l4.st i.1 i.2.1 i.2.2) (fun j i => f183.l4 k j i.1 i.2.1 i.2.2) f183.l4.w (fun rec_ ret i => f183.l4.step k (fun xs3 xs4 a5 => rec_ (xs3, xs4, a5)) ret i.1 i.2.1 i.2.2)
    (fun _ => rfl) (fun _ _ => rfl) (fun rec_ g i => f183.l4.nat k _ g i.1 i.2.1 i.2.2) (fun {R} i0 i rec_ K => by kernel_rfl) k (xs3, xs4, a5)
theorem f183.l4.all (k : Nat) (S : St env) : GoodL (f183.X k) (nthC 0 (loopsOf (bodyOf Try.f183))) S (f183.l4.hd k S.ts S.m S.n) := by
  obtain ⟨ts_, m_, n_⟩ := S
  show GoodL _ _ _ (f183.l4.hd k ts_ m_ n_)
  unfold f183.l4.hd
  refine gTs_ok (p := GoodL _ _ _) goodL_no fun _ h => ?_
  subst h
  refine gV_ok (p := GoodL _ _ _) goodL_no fun _ _ h => ?_
  subst h
  refine rImm_ok (p := GoodL _ _ _) goodL_no fun _ h => ?_
  subst h
  refine gV_ok (p := GoodL _ _ _) goodL_no fun _ _ h => ?_
  subst h
  refine rImm_ok (p := GoodL _ _ _) goodL_no fun _ h => ?_
  subst h
  refine gV_ok (p := GoodL _ _ _) goodL_no fun _ _ h => ?_
  subst h
  refine rV_ok (p := GoodL _ _ _) goodL_no fun _ h => ?_
  subst h
  refine vI_ok (p := GoodL _ _ _) goodL_no fun _ h => ?_
  subst h
  refine gE_ok (p := GoodL _ _ _) goodL_no fun h => ?_
  subst h
  refine gE_ok (p := GoodL _ _ _) goodL_no fun h => ?_
  subst h
  refine gN_ok (p := GoodL _ _ _) goodL_no fun h => ?_
  subst h
  exact f183.l4.good k _ _ _
theorem f183.nat {R : Type} (k : Nat) (g : Bool → Option R) (xs1 : List S131) (xs2 : List S131) : f183.step k g xs1 xs2 = (f183 k xs1 xs2).bind g := by
  simp only [f183, f183.step, bind_ite, bind_sum, Option.bind_assoc, Option.bind_some, Option.bind_none]
theorem f183.ev (k : Nat) (xs1 : List S131) (xs2 : List S131) : evF (f183.X k) (bodyOf Try.f183) Try.f183.ntmps Try.f183.results.toList [.v (.c (.sl 131 xs1)), .v (.c (.sl 131 xs2))] = f183.step k (fun x => f183.w x some) xs1 xs2 := by kernel_rfl
theorem f183.hok (k : Nat) : HOK (f183.X k) (bodyOf Try.f183) where
  l := allP_mem (by exact ⟨ls_of (h0 := fun S => f183.l4.hd k S.ts S.m S.n) (by kernel_rfl) (f183.l4.all k), trivial⟩)
  j := allP_mem (by exact trivial)
theorem f183.sound0 (k : Nat) : SoundC env Try.prog 183 (f183.hd k) := by
  intro ps_
  show GoodC _ _ _ ps_ (f183.hd k ps_)
  unfold f183.hd
  refine gC_ok (p := GoodC env Try.prog 183 _) goodC_no fun _ _ h => ?_
  subst h
  refine qC_ok (p := GoodC env Try.prog 183 _) goodC_no fun _ h => ?_
  subst h
  refine qSl_ok (p := GoodC env Try.prog 183 _) goodC_no fun _ h => ?_
  subst h
  refine gC_ok (p := GoodC env Try.prog 183 _) goodC_no fun _ _ h => ?_
  subst h
  refine qC_ok (p := GoodC env Try.prog 183 _) goodC_no fun _ h => ?_
  subst h
  refine qSl_ok (p := GoodC env Try.prog 183 _) goodC_no fun _ h => ?_
  subst h
  refine gE_ok (p := GoodC env Try.prog 183 _) goodC_no fun h => ?_
  subst h
  exact fun_good (fun_sound envOK (cs_sound _ (by exact ⟨⟨f202.sound k, f202.fnok⟩, trivial⟩)) (f183.hok k) Try.func183 rfl) ((f183.ev k _ _).trans (f183.nat k _ _ _))
theorem f183.sound (k : Nat) : SoundC env Try.prog 183 (f183.e k).F := soundC_coer (f183.sound0 k) [[.rd 131], [.rd 131]]
theorem f183.says (k : Nat) (xs1 : List S131) (xs2 : List S131) (t12 : Bool) (h_ : f183 k xs1 xs2 = some t12) : SoundAt env Try.prog 183 [.v (.c (.sl 131 xs1)), .v (.c (.sl 131 xs2))] ⟨.v (.c (.s (.bool t12))), [[], []]⟩ :=
  fun_sound envOK (cs_sound _ (by exact ⟨⟨f202.sound k, f202.fnok⟩, trivial⟩)) (f183.hok k) Try.func183 rfl _ _ (((f183.ev k xs1 xs2).trans (f183.nat k _ xs1 xs2)).trans (by rw [h_]; rfl))
theorem f183.fnok : FnOK Try.prog 183 := fn_ok Try.func183 (by kernel_rfl) rfl
def f147.step {R : Type} (k : Nat) (ret : Bool → Option R) (a1 : Int) (a2 : Int) (xs3 : List S131) (a4 : Int) (a5 : Int) (a6 : Int) (a7 : Int) (a8 : Int) (xs9 : List S131) (a10 : Int) (a11 : Int) (a12 : Int) : Option R :=
  if (decide (a1 ≠ a7)) = true then
    ret false
  else
    if (decide (a2 ≠ a8)) = true then
      ret false
    else
      (f183 k xs3 xs9).bind fun t13 => if (!t13) = true then
          ret false
        else
          if (decide (a4 ≠ a10)) = true then
            ret false
          else
            if (decide (a5 ≠ a11)) = true then
              ret false
            else
              if (decide (a6 ≠ a12)) = true then
                ret false
              else
                ret true
def f147 (k : Nat) (a1 : Int) (a2 : Int) (xs3 : List S131) (a4 : Int) (a5 : Int) (a6 : Int) (a7 : Int) (a8 : Int) (xs9 : List S131) (a10 : Int) (a11 : Int) (a12 : Int) : Option Bool := f147.step k some a1 a2 xs3 a4 a5 a6 a7 a8 xs9 a10 a11 a12
def f147.w {R : Type} : Bool → (Res env → Option R) → Option R := fun t14 K => K ⟨.v (.c (.s (.bool t14))), [[], []]⟩
theorem f147.wn (x : Bool) : ∃ res, ∀ {R : Type} (K : Res env → Option R), f147.w x K = K res := by
  exact ⟨_, fun _ => rfl⟩
def f147.hd (k : Nat) (ps_ : List (P2 env)) : Cl env :=
  gC Cl.no ps_ fun p_ ps_ => qG Cl.no p_ fun cs_ => gC Cl.no cs_ fun c_ cs_ => qS Cl.no c_ fun v_ => vI Cl.no .i64 v_ fun a1 => gC Cl.no cs_ fun c_ cs_ => qS Cl.no c_ fun v_ => vI Cl.no .i64 v_ fun a2 => gC Cl.no cs_ fun c_ cs_ => qSl Cl.no 131 c_ fun xs3 => gC Cl.no cs_ fun c_ cs_ => qS Cl.no c_ fun v_ => vI Cl.no .i64 v_ fun a4 => gC Cl.no cs_ fun c_ cs_ => qS Cl.no c_ fun v_ => vI Cl.no .i64 v_ fun a5 => gC Cl.no cs_ fun c_ cs_ => qS Cl.no c_ fun v_ => vI Cl.no .i64 v_ fun a6 => gE Cl.no cs_ <| gC Cl.no ps_ fun p_ ps_ => qG Cl.no p_ fun cs_ => gC Cl.no cs_ fun c_ cs_ => qS Cl.no c_ fun v_ => vI Cl.no .i64 v_ fun a7 => gC Cl.no cs_ fun c_ cs_ => qS Cl.no c_ fun v_ => vI Cl.no .i64 v_ fun a8 => gC Cl.no cs_ fun c_ cs_ => qSl Cl.no 131 c_ fun xs9 => gC Cl.no cs_ fun c_ cs_ => qS Cl.no c_ fun v_ => vI Cl.no .i64 v_ fun a10 => gC Cl.no cs_ fun c_ cs_ => qS Cl.no c_ fun v_ => vI Cl.no .i64 v_ fun a11 => gC Cl.no cs_ fun c_ cs_ => qS Cl.no c_ fun v_ => vI Cl.no .i64 v_ fun a12 => gE Cl.no cs_ <| gE Cl.no ps_ <| { α := Bool, o := f147 k a1 a2 xs3 a4 a5 a6 a7 a8 xs9 a10 a11 a12, w := f147.w, nat := fun x _ => f147.wn x }
def f147.e (k : Nat) : Entry env := ⟨fun ps => f147.hd k (coer [[.no, .no, .rd 131, .no, .no, .no], [.no, .no, .rd 131, .no, .no, .no]] ps), []⟩
def f147.X (k : Nat) : Ctx env := { C := lookE [(183, f183.e k)], L := lookE [], J := lookE [], keep := lookD [], keepX := lookD [], span := lookN [], eff := fun n => memN n [], prep := lookP [], np := 0 }
theorem f147.nat {R : Type} (k : Nat) (g : Bool → Option R) (a1 : Int) (a2 : Int) (xs3 : List S131) (a4 : Int) (a5 : Int) (a6 : Int) (a7 : Int) (a8 : Int) (xs9 : List S131) (a10 : Int) (a11 : Int) (a12 : Int) : f147.step k g a1 a2 xs3 a4 a5 a6 a7 a8 xs9 a10 a11 a12 = (f147 k a1 a2 xs3 a4 a5 a6 a7 a8 xs9 a10 a11 a12).bind g := by
  simp only [f147, f147.step, bind_ite, bind_sum, Option.bind_assoc, Option.bind_some, Option.bind_none]
theorem f147.ev (k : Nat) (a1 : Int) (a2 : Int) (xs3 : List S131) (a4 : Int) (a5 : Int) (a6 : Int) (a7 : Int) (a8 : Int) (xs9 : List S131) (a10 : Int) (a11 : Int) (a12 : Int) : evF (f147.X k) (bodyOf Try.f147) Try.f147.ntmps Try.f147.results.toList [.g [.s (.int .i64 a1), .s (.int .i64 a2), .sl 131 xs3, .s (.int .i64 a4), .s (.int .i64 a5), .s (.int .i64 a6)], .g [.s (.int .i64 a7), .s (.int .i64 a8), .sl 131 xs9, .s (.int .i64 a10), .s (.int .i64 a11), .s (.int .i64 a12)]] = f147.step k (fun x => f147.w x some) a1 a2 xs3 a4 a5 a6 a7 a8 xs9 a10 a11 a12 := by kernel_rfl
theorem f147.hok (k : Nat) : HOK (f147.X k) (bodyOf Try.f147) where
  l := allP_mem (by exact trivial)
  j := allP_mem (by exact trivial)
theorem f147.sound0 (k : Nat) : SoundC env Try.prog 147 (f147.hd k) := by
  intro ps_
  show GoodC _ _ _ ps_ (f147.hd k ps_)
  unfold f147.hd
  refine gC_ok (p := GoodC env Try.prog 147 _) goodC_no fun _ _ h => ?_
  subst h
  refine qG_ok (p := GoodC env Try.prog 147 _) goodC_no fun _ h => ?_
  subst h
  refine gC_ok (p := GoodC env Try.prog 147 _) goodC_no fun _ _ h => ?_
  subst h
  refine qS_ok (p := GoodC env Try.prog 147 _) goodC_no fun _ h => ?_
  subst h
  refine vI_ok (p := GoodC env Try.prog 147 _) goodC_no fun _ h => ?_
  subst h
  refine gC_ok (p := GoodC env Try.prog 147 _) goodC_no fun _ _ h => ?_
  subst h
  refine qS_ok (p := GoodC env Try.prog 147 _) goodC_no fun _ h => ?_
  subst h
  refine vI_ok (p := GoodC env Try.prog 147 _) goodC_no fun _ h => ?_
  subst h
  refine gC_ok (p := GoodC env Try.prog 147 _) goodC_no fun _ _ h => ?_
  subst h
  refine qSl_ok (p := GoodC env Try.prog 147 _) goodC_no fun _ h => ?_
  subst h
  refine gC_ok (p := GoodC env Try.prog 147 _) goodC_no fun _ _ h => ?_
  subst h
  refine qS_ok (p := GoodC env Try.prog 147 _) goodC_no fun _ h => ?_
  subst h
  refine vI_ok (p := GoodC env Try.prog 147 _) goodC_no fun _ h => ?_
  subst h
  refine gC_ok (p := GoodC env Try.prog 147 _) goodC_no fun _ _ h => ?_
  subst h
  refine qS_ok (p := GoodC env Try.prog 147 _) goodC_no fun _ h => ?_
  subst h
  refine vI_ok (p := GoodC env Try.prog 147 _) goodC_no fun _ h => ?_
  subst h
  refine gC_ok (p := GoodC env Try.prog 147 _) goodC_no fun _ _ h => ?_
  subst h
  refine qS_ok (p := GoodC env Try.prog 147 _) goodC_no fun _ h => ?_
  subst h
  refine vI_ok (p := GoodC env Try.prog 147 _) goodC_no fun _ h => ?_
  subst h
  refine gE_ok (p := GoodC env Try.prog 147 _) goodC_no fun h => ?_
  subst h
  refine gC_ok (p := GoodC env Try.prog 147 _) goodC_no fun _ _ h => ?_
  subst h
  refine qG_ok (p := GoodC env Try.prog 147 _) goodC_no fun _ h => ?_
  subst h
  refine gC_ok (p := GoodC env Try.prog 147 _) goodC_no fun _ _ h => ?_
  subst h
  refine qS_ok (p := GoodC env Try.prog 147 _) goodC_no fun _ h => ?_
  subst h
  refine vI_ok (p := GoodC env Try.prog 147 _) goodC_no fun _ h => ?_
  subst h
  refine gC_ok (p := GoodC env Try.prog 147 _) goodC_no fun _ _ h => ?_
  subst h
  refine qS_ok (p := GoodC env Try.prog 147 _) goodC_no fun _ h => ?_
  subst h
  refine vI_ok (p := GoodC env Try.prog 147 _) goodC_no fun _ h => ?_
  subst h
  refine gC_ok (p := GoodC env Try.prog 147 _) goodC_no fun _ _ h => ?_
  subst h
  refine qSl_ok (p := GoodC env Try.prog 147 _) goodC_no fun _ h => ?_
  subst h
  refine gC_ok (p := GoodC env Try.prog 147 _) goodC_no fun _ _ h => ?_
  subst h
  refine qS_ok (p := GoodC env Try.prog 147 _) goodC_no fun _ h => ?_
  subst h
  refine vI_ok (p := GoodC env Try.prog 147 _) goodC_no fun _ h => ?_
  subst h
  refine gC_ok (p := GoodC env Try.prog 147 _) goodC_no fun _ _ h => ?_
  subst h
  refine qS_ok (p := GoodC env Try.prog 147 _) goodC_no fun _ h => ?_
  subst h
  refine vI_ok (p := GoodC env Try.prog 147 _) goodC_no fun _ h => ?_
  subst h
  refine gC_ok (p := GoodC env Try.prog 147 _) goodC_no fun _ _ h => ?_
  subst h
  refine qS_ok (p := GoodC env Try.prog 147 _) goodC_no fun _ h => ?_
  subst h
  refine vI_ok (p := GoodC env Try.prog 147 _) goodC_no fun _ h => ?_
  subst h
  refine gE_ok (p := GoodC env Try.prog 147 _) goodC_no fun h => ?_
  subst h
  refine gE_ok (p := GoodC env Try.prog 147 _) goodC_no fun h => ?_
  subst h
  exact fun_good (fun_sound envOK (cs_sound _ (by exact ⟨⟨f183.sound k, f183.fnok⟩, trivial⟩)) (f147.hok k) Try.func147 rfl) ((f147.ev k _ _ _ _ _ _ _ _ _ _ _ _).trans (f147.nat k _ _ _ _ _ _ _ _ _ _ _ _ _))
theorem f147.sound (k : Nat) : SoundC env Try.prog 147 (f147.e k).F := soundC_coer (f147.sound0 k) [[.no, .no, .rd 131, .no, .no, .no], [.no, .no, .rd 131, .no, .no, .no]]
theorem f147.says (k : Nat) (a1 : Int) (a2 : Int) (xs3 : List S131) (a4 : Int) (a5 : Int) (a6 : Int) (a7 : Int) (a8 : Int) (xs9 : List S131) (a10 : Int) (a11 : Int) (a12 : Int) (t15 : Bool) (h_ : f147 k a1 a2 xs3 a4 a5 a6 a7 a8 xs9 a10 a11 a12 = some t15) : SoundAt env Try.prog 147 [.g [.s (.int .i64 a1), .s (.int .i64 a2), .sl 131 xs3, .s (.int .i64 a4), .s (.int .i64 a5), .s (.int .i64 a6)], .g [.s (.int .i64 a7), .s (.int .i64 a8), .sl 131 xs9, .s (.int .i64 a10), .s (.int .i64 a11), .s (.int .i64 a12)]] ⟨.v (.c (.s (.bool t15))), [[], []]⟩ :=
  fun_sound envOK (cs_sound _ (by exact ⟨⟨f183.sound k, f183.fnok⟩, trivial⟩)) (f147.hok k) Try.func147 rfl _ _ (((f147.ev k a1 a2 xs3 a4 a5 a6 a7 a8 xs9 a10 a11 a12).trans (f147.nat k _ a1 a2 xs3 a4 a5 a6 a7 a8 xs9 a10 a11 a12)).trans (by rw [h_]; rfl))
theorem f147.fnok : FnOK Try.prog 147 := fn_ok Try.func147 (by kernel_rfl) rfl
def f88.l4.step {R : Type} (k : Nat) (rec_ : (List S123) → (List S123) → Int → Option R) (ret : (Bool ⊕ (Unit)) → Option R) (xs3 : List S123) (xs4 : List S123) (a5 : Int) : Option R :=
  if (decide (a5 < (((List.length xs3) : Nat) : Int))) = true then
    if (0 : Int) ≤ a5 then
      if a5 < ((List.length xs3 : Nat) : Int) then
        if (0 : Int) ≤ a5 then
          if a5 < ((List.length xs4 : Nat) : Int) then
            (f147 k (List.getD xs3 (Int.toNat a5) (⟨(0 : Int), (0 : Int), [], (0 : Int), (0 : Int), (0 : Int)⟩ : S123)).f0 (List.getD xs3 (Int.toNat a5) (⟨(0 : Int), (0 : Int), [], (0 : Int), (0 : Int), (0 : Int)⟩ : S123)).f1 (List.getD xs3 (Int.toNat a5) (⟨(0 : Int), (0 : Int), [], (0 : Int), (0 : Int), (0 : Int)⟩ : S123)).f2 (List.getD xs3 (Int.toNat a5) (⟨(0 : Int), (0 : Int), [], (0 : Int), (0 : Int), (0 : Int)⟩ : S123)).f3 (List.getD xs3 (Int.toNat a5) (⟨(0 : Int), (0 : Int), [], (0 : Int), (0 : Int), (0 : Int)⟩ : S123)).f4 (List.getD xs3 (Int.toNat a5) (⟨(0 : Int), (0 : Int), [], (0 : Int), (0 : Int), (0 : Int)⟩ : S123)).f5 (List.getD xs4 (Int.toNat a5) (⟨(0 : Int), (0 : Int), [], (0 : Int), (0 : Int), (0 : Int)⟩ : S123)).f0 (List.getD xs4 (Int.toNat a5) (⟨(0 : Int), (0 : Int), [], (0 : Int), (0 : Int), (0 : Int)⟩ : S123)).f1 (List.getD xs4 (Int.toNat a5) (⟨(0 : Int), (0 : Int), [], (0 : Int), (0 : Int), (0 : Int)⟩ : S123)).f2 (List.getD xs4 (Int.toNat a5) (⟨(0 : Int), (0 : Int), [], (0 : Int), (0 : Int), (0 : Int)⟩ : S123)).f3 (List.getD xs4 (Int.toNat a5) (⟨(0 : Int), (0 : Int), [], (0 : Int), (0 : Int), (0 : Int)⟩ : S123)).f4 (List.getD xs4 (Int.toNat a5) (⟨(0 : Int), (0 : Int), [], (0 : Int), (0 : Int), (0 : Int)⟩ : S123)).f5).bind fun t6 => if (!t6) = true then
                ret (.inl false)
              else
                rec_ xs3 xs4 (IntKind.i64.wrap (a5 + (1 : Int)))
          else none
        else none
      else none
    else none
  else
    ret (.inr ())
def f88.l4 (k : Nat) : Nat → (List S123) → (List S123) → Int → Option (Bool ⊕ (Unit))
  | 0, _, _, _ => none
  | j + 1, xs3, xs4, a5 => f88.l4.step k (fun xs3 xs4 a5 => f88.l4 k j xs3 xs4 a5) some xs3 xs4 a5
def f88.l4.w {R : Type} : (Bool ⊕ (Unit)) → (Exit → St env → Option R) → Option R := fun x K => Sum.elim (fun t9 => K .ret ⟨fullT [4] 0 27 [.v (.c (.s (.bool t9)))], [], 402⟩) (fun t10 => K (.exit 0) ⟨fullT [] 0 27 [], [], 402⟩) x
def f88.l4.st (xs3 : List S123) (xs4 : List S123) (a5 : Int) : St env := ⟨fullT [0, 1, 5] 0 27 [.v (.c (.imm 123 xs3)), .v (.c (.imm 123 xs4)), .v (.c (.s (.int .i64 a5)))], [], 114⟩
def f88.l4.hd (k : Nat) (ts_ : List (AV env)) (mm_ : Mem env) (n_ : Nat) : LCl env :=
  gTs LCl.no [0, 1, 5] 27 ts_ fun l_ => gV LCl.no l_ fun a_ l_ => rImm LCl.no 123 a_ fun xs3 => gV LCl.no l_ fun a_ l_ => rImm LCl.no 123 a_ fun xs4 => gV LCl.no l_ fun a_ l_ => rV LCl.no a_ fun v_ => vI LCl.no .i64 v_ fun a5 => gE LCl.no l_ <| gE LCl.no mm_ <| gN LCl.no 114 n_ { α := Bool ⊕ (Unit), o := f88.l4 k k xs3 xs4 a5, w := f88.l4.w }
def f88.step {R : Type} (k : Nat) (ret : Bool → Option R) (xs1 : List S123) (xs2 : List S123) : Option R :=
  if (decide ((((List.length xs1) : Nat) : Int) ≠ (((List.length xs2) : Nat) : Int))) = true then
    ret false
  else
    (f88.l4 k k xs1 xs2 (0 : Int)).bind (Sum.elim (fun t7 => ret t7) (fun t8 => ret true))
def f88 (k : Nat) (xs1 : List S123) (xs2 : List S123) : Option Bool := f88.step k some xs1 xs2
def f88.w {R : Type} : Bool → (Res env → Option R) → Option R := fun t11 K => K ⟨.v (.c (.s (.bool t11))), [[], []]⟩
theorem f88.wn (x : Bool) : ∃ res, ∀ {R : Type} (K : Res env → Option R), f88.w x K = K res := by
  exact ⟨_, fun _ => rfl⟩
def f88.hd (k : Nat) (ps_ : List (P2 env)) : Cl env :=
  gC Cl.no ps_ fun p_ ps_ => qC Cl.no p_ fun c_ => qSl Cl.no 123 c_ fun xs1 => gC Cl.no ps_ fun p_ ps_ => qC Cl.no p_ fun c_ => qSl Cl.no 123 c_ fun xs2 => gE Cl.no ps_ <| { α := Bool, o := f88 k xs1 xs2, w := f88.w, nat := fun x _ => f88.wn x }
def f88.e (k : Nat) : Entry env := ⟨fun ps => f88.hd k (coer [[.rd 123], [.rd 123]] ps), []⟩
def f88.X (k : Nat) : Ctx env := { C := lookE [(147, f147.e k)], L := lookE [(4, fun S => f88.l4.hd k S.ts S.m S.n)], J := lookE [], keep := lookD [(4, [0, 1, 5])], keepX := lookD [(4, [4])], span := lookN [(4, 288)], eff := fun n => memN n [], prep := lookP [], np := 0 }
theorem f88.l4.nat {R : Type} (k : Nat) (rec_ : (List S123) → (List S123) → Int → Option (Bool ⊕ (Unit))) (g : (Bool ⊕ (Unit)) → Option R) (xs3 : List S123) (xs4 : List S123) (a5 : Int) : (f88.l4.step k rec_ some xs3 xs4 a5).bind g = f88.l4.step k (fun xs3 xs4 a5 => (rec_ xs3 xs4 a5).bind g) g xs3 xs4 a5 := by
  simp only [f88.l4.step, bind_ite, bind_sum, Option.bind_assoc, Option.bind_some, Option.bind_none]
theorem f88.l4.good (k : Nat) (xs3 : List S123) (xs4 : List S123) (a5 : Int) : GoodL (f88.X k) (nthC 0 (loopsOf (bodyOf Try.f88))) (f88.l4.st xs3 xs4 a5) { α := (Bool ⊕ (Unit)), o := f88.l4 k k xs3 xs4 a5, w := f88.l4.w } :=
  loop_good (ι := (List S123) × (List S123) × Int) (α := (Bool ⊕ (Unit))) (fun i => f88.l4.st i.1 i.2.1 i.2.2) (fun j i => f88.l4 k j i.1 i.2.1 i.2.2) f88.l4.w (fun rec_ ret i => f88.l4.step k (fun xs3 xs4 a5 => rec_ (xs3, xs4, a5)) ret i.1 i.2.1 i.2.2)
    (fun _ => rfl) (fun _ _ => rfl) (fun rec_ g i => f88.l4.nat k _ g i.1 i.2.1 i.2.2) (fun {R} i0 i rec_ K => by kernel_rfl) k (xs3, xs4, a5)
theorem f88.l4.all (k : Nat) (S : St env) : GoodL (f88.X k) (nthC 0 (loopsOf (bodyOf Try.f88))) S (f88.l4.hd k S.ts S.m S.n) := by
  obtain ⟨ts_, m_, n_⟩ := S
  show GoodL _ _ _ (f88.l4.hd k ts_ m_ n_)
  unfold f88.l4.hd
  refine gTs_ok (p := GoodL _ _ _) goodL_no fun _ h => ?_
  subst h
  refine gV_ok (p := GoodL _ _ _) goodL_no fun _ _ h => ?_
  subst h
  refine rImm_ok (p := GoodL _ _ _) goodL_no fun _ h => ?_
  subst h
  refine gV_ok (p := GoodL _ _ _) goodL_no fun _ _ h => ?_
  subst h
  refine rImm_ok (p := GoodL _ _ _) goodL_no fun _ h => ?_
  subst h
  refine gV_ok (p := GoodL _ _ _) goodL_no fun _ _ h => ?_
  subst h
  refine rV_ok (p := GoodL _ _ _) goodL_no fun _ h => ?_
  subst h
  refine vI_ok (p := GoodL _ _ _) goodL_no fun _ h => ?_
  subst h
  refine gE_ok (p := GoodL _ _ _) goodL_no fun h => ?_
  subst h
  refine gE_ok (p := GoodL _ _ _) goodL_no fun h => ?_
  subst h
  refine gN_ok (p := GoodL _ _ _) goodL_no fun h => ?_
  subst h
  exact f88.l4.good k _ _ _
theorem f88.nat {R : Type} (k : Nat) (g : Bool → Option R) (xs1 : List S123) (xs2 : List S123) : f88.step k g xs1 xs2 = (f88 k xs1 xs2).bind g := by
  simp only [f88, f88.step, bind_ite, bind_sum, Option.bind_assoc, Option.bind_some, Option.bind_none]
theorem f88.ev (k : Nat) (xs1 : List S123) (xs2 : List S123) : evF (f88.X k) (bodyOf Try.f88) Try.f88.ntmps Try.f88.results.toList [.v (.c (.sl 123 xs1)), .v (.c (.sl 123 xs2))] = f88.step k (fun x => f88.w x some) xs1 xs2 := by kernel_rfl
theorem f88.hok (k : Nat) : HOK (f88.X k) (bodyOf Try.f88) where
  l := allP_mem (by exact ⟨ls_of (h0 := fun S => f88.l4.hd k S.ts S.m S.n) (by kernel_rfl) (f88.l4.all k), trivial⟩)
  j := allP_mem (by exact trivial)
theorem f88.sound0 (k : Nat) : SoundC env Try.prog 88 (f88.hd k) := by
  intro ps_
  show GoodC _ _ _ ps_ (f88.hd k ps_)
  unfold f88.hd
  refine gC_ok (p := GoodC env Try.prog 88 _) goodC_no fun _ _ h => ?_
  subst h
  refine qC_ok (p := GoodC env Try.prog 88 _) goodC_no fun _ h => ?_
  subst h
  refine qSl_ok (p := GoodC env Try.prog 88 _) goodC_no fun _ h => ?_
  subst h
  refine gC_ok (p := GoodC env Try.prog 88 _) goodC_no fun _ _ h => ?_
  subst h
  refine qC_ok (p := GoodC env Try.prog 88 _) goodC_no fun _ h => ?_
  subst h
  refine qSl_ok (p := GoodC env Try.prog 88 _) goodC_no fun _ h => ?_
  subst h
  refine gE_ok (p := GoodC env Try.prog 88 _) goodC_no fun h => ?_
  subst h
  exact fun_good (fun_sound envOK (cs_sound _ (by exact ⟨⟨f147.sound k, f147.fnok⟩, trivial⟩)) (f88.hok k) Try.func88 rfl) ((f88.ev k _ _).trans (f88.nat k _ _ _))
theorem f88.sound (k : Nat) : SoundC env Try.prog 88 (f88.e k).F := soundC_coer (f88.sound0 k) [[.rd 123], [.rd 123]]
theorem f88.says (k : Nat) (xs1 : List S123) (xs2 : List S123) (t12 : Bool) (h_ : f88 k xs1 xs2 = some t12) : SoundAt env Try.prog 88 [.v (.c (.sl 123 xs1)), .v (.c (.sl 123 xs2))] ⟨.v (.c (.s (.bool t12))), [[], []]⟩ :=
  fun_sound envOK (cs_sound _ (by exact ⟨⟨f147.sound k, f147.fnok⟩, trivial⟩)) (f88.hok k) Try.func88 rfl _ _ (((f88.ev k xs1 xs2).trans (f88.nat k _ xs1 xs2)).trans (by rw [h_]; rfl))
theorem f88.fnok : FnOK Try.prog 88 := fn_ok Try.func88 (by kernel_rfl) rfl
def f25.l4.step {R : Type} (k : Nat) (rec_ : (List Int) → (List Int) → Int → Option R) (ret : (Bool ⊕ (Unit)) → Option R) (xs3 : List Int) (xs4 : List Int) (a5 : Int) : Option R :=
  if (decide (a5 < (((List.length xs3) : Nat) : Int))) = true then
    if (0 : Int) ≤ a5 then
      if a5 < ((List.length xs3 : Nat) : Int) then
        if (0 : Int) ≤ a5 then
          if a5 < ((List.length xs4 : Nat) : Int) then
            if (decide ((List.getD xs3 (Int.toNat a5) (0 : Int)) ≠ (List.getD xs4 (Int.toNat a5) (0 : Int)))) = true then
              ret (.inl false)
            else
              rec_ xs3 xs4 (IntKind.i64.wrap (a5 + (1 : Int)))
          else none
        else none
      else none
    else none
  else
    ret (.inr ())
def f25.l4 (k : Nat) : Nat → (List Int) → (List Int) → Int → Option (Bool ⊕ (Unit))
  | 0, _, _, _ => none
  | j + 1, xs3, xs4, a5 => f25.l4.step k (fun xs3 xs4 a5 => f25.l4 k j xs3 xs4 a5) some xs3 xs4 a5
def f25.l4.w {R : Type} : (Bool ⊕ (Unit)) → (Exit → St env → Option R) → Option R := fun x K => Sum.elim (fun t8 => K .ret ⟨fullT [4] 0 26 [.v (.c (.s (.bool t8)))], [], 386⟩) (fun t9 => K (.exit 0) ⟨fullT [] 0 26 [], [], 386⟩) x
def f25.l4.st (xs3 : List Int) (xs4 : List Int) (a5 : Int) : St env := ⟨fullT [0, 1, 5] 0 26 [.v (.c (.imm 3 xs3)), .v (.c (.imm 3 xs4)), .v (.c (.s (.int .i64 a5)))], [], 114⟩
def f25.l4.hd (k : Nat) (ts_ : List (AV env)) (mm_ : Mem env) (n_ : Nat) : LCl env :=
  gTs LCl.no [0, 1, 5] 26 ts_ fun l_ => gV LCl.no l_ fun a_ l_ => rImm LCl.no 3 a_ fun xs3 => gV LCl.no l_ fun a_ l_ => rImm LCl.no 3 a_ fun xs4 => gV LCl.no l_ fun a_ l_ => rV LCl.no a_ fun v_ => vI LCl.no .i64 v_ fun a5 => gE LCl.no l_ <| gE LCl.no mm_ <| gN LCl.no 114 n_ { α := Bool ⊕ (Unit), o := f25.l4 k k xs3 xs4 a5, w := f25.l4.w }
def f25.step {R : Type} (k : Nat) (ret : Bool → Option R) (xs1 : List Int) (xs2 : List Int) : Option R :=
  if (decide ((((List.length xs1) : Nat) : Int) ≠ (((List.length xs2) : Nat) : Int))) = true then
    ret false
  else
    (f25.l4 k k xs1 xs2 (0 : Int)).bind (Sum.elim (fun t6 => ret t6) (fun t7 => ret true))
def f25 (k : Nat) (xs1 : List Int) (xs2 : List Int) : Option Bool := f25.step k some xs1 xs2
def f25.w {R : Type} : Bool → (Res env → Option R) → Option R := fun t10 K => K ⟨.v (.c (.s (.bool t10))), [[], []]⟩
theorem f25.wn (x : Bool) : ∃ res, ∀ {R : Type} (K : Res env → Option R), f25.w x K = K res := by
  exact ⟨_, fun _ => rfl⟩
def f25.hd (k : Nat) (ps_ : List (P2 env)) : Cl env :=
  gC Cl.no ps_ fun p_ ps_ => qC Cl.no p_ fun c_ => qSl Cl.no 3 c_ fun xs1 => gC Cl.no ps_ fun p_ ps_ => qC Cl.no p_ fun c_ => qSl Cl.no 3 c_ fun xs2 => gE Cl.no ps_ <| { α := Bool, o := f25 k xs1 xs2, w := f25.w, nat := fun x _ => f25.wn x }
def f25.e (k : Nat) : Entry env := ⟨fun ps => f25.hd k (coer [[.rd 3], [.rd 3]] ps), []⟩
def f25.X (k : Nat) : Ctx env := { C := lookE [], L := lookE [(4, fun S => f25.l4.hd k S.ts S.m S.n)], J := lookE [], keep := lookD [(4, [0, 1, 5])], keepX := lookD [(4, [4])], span := lookN [(4, 272)], eff := fun n => memN n [], prep := lookP [], np := 0 }
theorem f25.l4.nat {R : Type} (k : Nat) (rec_ : (List Int) → (List Int) → Int → Option (Bool ⊕ (Unit))) (g : (Bool ⊕ (Unit)) → Option R) (xs3 : List Int) (xs4 : List Int) (a5 : Int) : (f25.l4.step k rec_ some xs3 xs4 a5).bind g = f25.l4.step k (fun xs3 xs4 a5 => (rec_ xs3 xs4 a5).bind g) g xs3 xs4 a5 := by
  simp only [f25.l4.step, bind_ite, bind_sum, Option.bind_assoc, Option.bind_some, Option.bind_none]
theorem f25.l4.good (k : Nat) (xs3 : List Int) (xs4 : List Int) (a5 : Int) : GoodL (f25.X k) (nthC 0 (loopsOf (bodyOf Try.f25))) (f25.l4.st xs3 xs4 a5) { α := (Bool ⊕ (Unit)), o := f25.l4 k k xs3 xs4 a5, w := f25.l4.w } :=
  loop_good (ι := (List Int) × (List Int) × Int) (α := (Bool ⊕ (Unit))) (fun i => f25.l4.st i.1 i.2.1 i.2.2) (fun j i => f25.l4 k j i.1 i.2.1 i.2.2) f25.l4.w (fun rec_ ret i => f25.l4.step k (fun xs3 xs4 a5 => rec_ (xs3, xs4, a5)) ret i.1 i.2.1 i.2.2)
    (fun _ => rfl) (fun _ _ => rfl) (fun rec_ g i => f25.l4.nat k _ g i.1 i.2.1 i.2.2) (fun {R} i0 i rec_ K => by kernel_rfl) k (xs3, xs4, a5)
theorem f25.l4.all (k : Nat) (S : St env) : GoodL (f25.X k) (nthC 0 (loopsOf (bodyOf Try.f25))) S (f25.l4.hd k S.ts S.m S.n) := by
  obtain ⟨ts_, m_, n_⟩ := S
  show GoodL _ _ _ (f25.l4.hd k ts_ m_ n_)
  unfold f25.l4.hd
  refine gTs_ok (p := GoodL _ _ _) goodL_no fun _ h => ?_
  subst h
  refine gV_ok (p := GoodL _ _ _) goodL_no fun _ _ h => ?_
  subst h
  refine rImm_ok (p := GoodL _ _ _) goodL_no fun _ h => ?_
  subst h
  refine gV_ok (p := GoodL _ _ _) goodL_no fun _ _ h => ?_
  subst h
  refine rImm_ok (p := GoodL _ _ _) goodL_no fun _ h => ?_
  subst h
  refine gV_ok (p := GoodL _ _ _) goodL_no fun _ _ h => ?_
  subst h
  refine rV_ok (p := GoodL _ _ _) goodL_no fun _ h => ?_
  subst h
  refine vI_ok (p := GoodL _ _ _) goodL_no fun _ h => ?_
  subst h
  refine gE_ok (p := GoodL _ _ _) goodL_no fun h => ?_
  subst h
  refine gE_ok (p := GoodL _ _ _) goodL_no fun h => ?_
  subst h
  refine gN_ok (p := GoodL _ _ _) goodL_no fun h => ?_
  subst h
  exact f25.l4.good k _ _ _
theorem f25.nat {R : Type} (k : Nat) (g : Bool → Option R) (xs1 : List Int) (xs2 : List Int) : f25.step k g xs1 xs2 = (f25 k xs1 xs2).bind g := by
  simp only [f25, f25.step, bind_ite, bind_sum, Option.bind_assoc, Option.bind_some, Option.bind_none]
theorem f25.ev (k : Nat) (xs1 : List Int) (xs2 : List Int) : evF (f25.X k) (bodyOf Try.f25) Try.f25.ntmps Try.f25.results.toList [.v (.c (.sl 3 xs1)), .v (.c (.sl 3 xs2))] = f25.step k (fun x => f25.w x some) xs1 xs2 := by kernel_rfl
theorem f25.hok (k : Nat) : HOK (f25.X k) (bodyOf Try.f25) where
  l := allP_mem (by exact ⟨ls_of (h0 := fun S => f25.l4.hd k S.ts S.m S.n) (by kernel_rfl) (f25.l4.all k), trivial⟩)
  j := allP_mem (by exact trivial)
theorem f25.sound0 (k : Nat) : SoundC env Try.prog 25 (f25.hd k) := by
  intro ps_
  show GoodC _ _ _ ps_ (f25.hd k ps_)
  unfold f25.hd
  refine gC_ok (p := GoodC env Try.prog 25 _) goodC_no fun _ _ h => ?_
  subst h
  refine qC_ok (p := GoodC env Try.prog 25 _) goodC_no fun _ h => ?_
  subst h
  refine qSl_ok (p := GoodC env Try.prog 25 _) goodC_no fun _ h => ?_
  subst h
  refine gC_ok (p := GoodC env Try.prog 25 _) goodC_no fun _ _ h => ?_
  subst h
  refine qC_ok (p := GoodC env Try.prog 25 _) goodC_no fun _ h => ?_
  subst h
  refine qSl_ok (p := GoodC env Try.prog 25 _) goodC_no fun _ h => ?_
  subst h
  refine gE_ok (p := GoodC env Try.prog 25 _) goodC_no fun h => ?_
  subst h
  exact fun_good (fun_sound envOK (cs_sound _ (by exact trivial)) (f25.hok k) Try.func25 rfl) ((f25.ev k _ _).trans (f25.nat k _ _ _))
theorem f25.sound (k : Nat) : SoundC env Try.prog 25 (f25.e k).F := soundC_coer (f25.sound0 k) [[.rd 3], [.rd 3]]
theorem f25.says (k : Nat) (xs1 : List Int) (xs2 : List Int) (t11 : Bool) (h_ : f25 k xs1 xs2 = some t11) : SoundAt env Try.prog 25 [.v (.c (.sl 3 xs1)), .v (.c (.sl 3 xs2))] ⟨.v (.c (.s (.bool t11))), [[], []]⟩ :=
  fun_sound envOK (cs_sound _ (by exact trivial)) (f25.hok k) Try.func25 rfl _ _ (((f25.ev k xs1 xs2).trans (f25.nat k _ xs1 xs2)).trans (by rw [h_]; rfl))
theorem f25.fnok : FnOK Try.prog 25 := fn_ok Try.func25 (by kernel_rfl) rfl
def f24.step {R : Type} (k : Nat) (ret : Bool → Option R) (xs1 : List S123) (xs2 : List Int) (b3 : Bool) (xs4 : List S123) (xs5 : List Int) (b6 : Bool) : Option R :=
  (f88 k xs1 xs4).bind fun t7 => if (!t7) = true then
      ret false
    else
      (f25 k xs2 xs5).bind fun t8 => if (!t8) = true then
          ret false
        else
          if (!(b3 == b6)) = true then
            ret false
          else
            ret true
def f24 (k : Nat) (xs1 : List S123) (xs2 : List Int) (b3 : Bool) (xs4 : List S123) (xs5 : List Int) (b6 : Bool) : Option Bool := f24.step k some xs1 xs2 b3 xs4 xs5 b6
def f24.w {R : Type} : Bool → (Res env → Option R) → Option R := fun t9 K => K ⟨.v (.c (.s (.bool t9))), [[], []]⟩
theorem f24.wn (x : Bool) : ∃ res, ∀ {R : Type} (K : Res env → Option R), f24.w x K = K res := by
  exact ⟨_, fun _ => rfl⟩
def f24.hd (k : Nat) (ps_ : List (P2 env)) : Cl env :=
  gC Cl.no ps_ fun p_ ps_ => qG Cl.no p_ fun cs_ => gC Cl.no cs_ fun c_ cs_ => qSl Cl.no 123 c_ fun xs1 => gC Cl.no cs_ fun c_ cs_ => qSl Cl.no 3 c_ fun xs2 => gC Cl.no cs_ fun c_ cs_ => qS Cl.no c_ fun v_ => vB Cl.no v_ fun b3 => gE Cl.no cs_ <| gC Cl.no ps_ fun p_ ps_ => qG Cl.no p_ fun cs_ => gC Cl.no cs_ fun c_ cs_ => qSl Cl.no 123 c_ fun xs4 => gC Cl.no cs_ fun c_ cs_ => qSl Cl.no 3 c_ fun xs5 => gC Cl.no cs_ fun c_ cs_ => qS Cl.no c_ fun v_ => vB Cl.no v_ fun b6 => gE Cl.no cs_ <| gE Cl.no ps_ <| { α := Bool, o := f24 k xs1 xs2 b3 xs4 xs5 b6, w := f24.w, nat := fun x _ => f24.wn x }
def f24.e (k : Nat) : Entry env := ⟨fun ps => f24.hd k (coer [[.rd 123, .rd 3, .no], [.rd 123, .rd 3, .no]] ps), []⟩
def f24.X (k : Nat) : Ctx env := { C := lookE [(25, f25.e k), (88, f88.e k)], L := lookE [], J := lookE [], keep := lookD [], keepX := lookD [], span := lookN [], eff := fun n => memN n [], prep := lookP [], np := 0 }
theorem f24.nat {R : Type} (k : Nat) (g : Bool → Option R) (xs1 : List S123) (xs2 : List Int) (b3 : Bool) (xs4 : List S123) (xs5 : List Int) (b6 : Bool) : f24.step k g xs1 xs2 b3 xs4 xs5 b6 = (f24 k xs1 xs2 b3 xs4 xs5 b6).bind g := by
  simp only [f24, f24.step, bind_ite, bind_sum, Option.bind_assoc, Option.bind_some, Option.bind_none]
theorem f24.ev (k : Nat) (xs1 : List S123) (xs2 : List Int) (b3 : Bool) (xs4 : List S123) (xs5 : List Int) (b6 : Bool) : evF (f24.X k) (bodyOf Try.f24) Try.f24.ntmps Try.f24.results.toList [.g [.sl 123 xs1, .sl 3 xs2, .s (.bool b3)], .g [.sl 123 xs4, .sl 3 xs5, .s (.bool b6)]] = f24.step k (fun x => f24.w x some) xs1 xs2 b3 xs4 xs5 b6 := by kernel_rfl
theorem f24.hok (k : Nat) : HOK (f24.X k) (bodyOf Try.f24) where
  l := allP_mem (by exact trivial)
  j := allP_mem (by exact trivial)
theorem f24.sound0 (k : Nat) : SoundC env Try.prog 24 (f24.hd k) := by
  intro ps_
  show GoodC _ _ _ ps_ (f24.hd k ps_)
  unfold f24.hd
  refine gC_ok (p := GoodC env Try.prog 24 _) goodC_no fun _ _ h => ?_
  subst h
  refine qG_ok (p := GoodC env Try.prog 24 _) goodC_no fun _ h => ?_
  subst h
  refine gC_ok (p := GoodC env Try.prog 24 _) goodC_no fun _ _ h => ?_
  subst h
  refine qSl_ok (p := GoodC env Try.prog 24 _) goodC_no fun _ h => ?_
  subst h
  refine gC_ok (p := GoodC env Try.prog 24 _) goodC_no fun _ _ h => ?_
  subst h
  refine qSl_ok (p := GoodC env Try.prog 24 _) goodC_no fun _ h => ?_
  subst h
  refine gC_ok (p := GoodC env Try.prog 24 _) goodC_no fun _ _ h => ?_
  subst h
  refine qS_ok (p := GoodC env Try.prog 24 _) goodC_no fun _ h => ?_
  subst h
  refine vB_ok (p := GoodC env Try.prog 24 _) goodC_no fun _ h => ?_
  subst h
  refine gE_ok (p := GoodC env Try.prog 24 _) goodC_no fun h => ?_
  subst h
  refine gC_ok (p := GoodC env Try.prog 24 _) goodC_no fun _ _ h => ?_
  subst h
  refine qG_ok (p := GoodC env Try.prog 24 _) goodC_no fun _ h => ?_
  subst h
  refine gC_ok (p := GoodC env Try.prog 24 _) goodC_no fun _ _ h => ?_
  subst h
  refine qSl_ok (p := GoodC env Try.prog 24 _) goodC_no fun _ h => ?_
  subst h
  refine gC_ok (p := GoodC env Try.prog 24 _) goodC_no fun _ _ h => ?_
  subst h
  refine qSl_ok (p := GoodC env Try.prog 24 _) goodC_no fun _ h => ?_
  subst h
  refine gC_ok (p := GoodC env Try.prog 24 _) goodC_no fun _ _ h => ?_
  subst h
  refine qS_ok (p := GoodC env Try.prog 24 _) goodC_no fun _ h => ?_
  subst h
  refine vB_ok (p := GoodC env Try.prog 24 _) goodC_no fun _ h => ?_
  subst h
  refine gE_ok (p := GoodC env Try.prog 24 _) goodC_no fun h => ?_
  subst h
  refine gE_ok (p := GoodC env Try.prog 24 _) goodC_no fun h => ?_
  subst h
  exact fun_good (fun_sound envOK (cs_sound _ (by exact ⟨⟨f25.sound k, f25.fnok⟩, ⟨f88.sound k, f88.fnok⟩, trivial⟩)) (f24.hok k) Try.func24 rfl) ((f24.ev k _ _ _ _ _ _).trans (f24.nat k _ _ _ _ _ _ _))
theorem f24.sound (k : Nat) : SoundC env Try.prog 24 (f24.e k).F := soundC_coer (f24.sound0 k) [[.rd 123, .rd 3, .no], [.rd 123, .rd 3, .no]]
theorem f24.says (k : Nat) (xs1 : List S123) (xs2 : List Int) (b3 : Bool) (xs4 : List S123) (xs5 : List Int) (b6 : Bool) (t10 : Bool) (h_ : f24 k xs1 xs2 b3 xs4 xs5 b6 = some t10) : SoundAt env Try.prog 24 [.g [.sl 123 xs1, .sl 3 xs2, .s (.bool b3)], .g [.sl 123 xs4, .sl 3 xs5, .s (.bool b6)]] ⟨.v (.c (.s (.bool t10))), [[], []]⟩ :=
  fun_sound envOK (cs_sound _ (by exact ⟨⟨f25.sound k, f25.fnok⟩, ⟨f88.sound k, f88.fnok⟩, trivial⟩)) (f24.hok k) Try.func24 rfl _ _ (((f24.ev k xs1 xs2 b3 xs4 xs5 b6).trans (f24.nat k _ xs1 xs2 b3 xs4 xs5 b6)).trans (by rw [h_]; rfl))
theorem f24.fnok : FnOK Try.prog 24 := fn_ok Try.func24 (by kernel_rfl) rfl
def f26.l2.step {R : Type} (k : Nat) (rec_ : Int → Int → (List Int) → Option R) (ret : (Int × (List Int)) → Option R) (a3 : Int) (a4 : Int) (xs5 : List Int) : Option R :=
  if (decide (a4 < (((List.length xs5) : Nat) : Int))) = true then
    if (0 : Int) ≤ a4 then
      if a4 < ((List.length xs5 : Nat) : Int) then
        rec_ (IntKind.i64.wrap (a3 + (1 : Int))) (IntKind.i64.wrap (a4 + (1 : Int))) (List.set xs5 (Int.toNat a4) a3)
      else none
    else none
  else
    ret (a3, xs5)
def f26.l2 (k : Nat) : Nat → Int → Int → (List Int) → Option (Int × (List Int))
  | 0, _, _, _ => none
  | j + 1, a3, a4, xs5 => f26.l2.step k (fun a3 a4 xs5 => f26.l2 k j a3 a4 xs5) some a3 a4 xs5
def f26.l2.w {R : Type} : (Int × (List Int)) → (Exit → St env → Option R) → Option R := fun t7 K => K (.exit 0) ⟨fullT [0, 1] 0 19 [.v (.c (.row 2)), .v (.c (.s (.int .i64 t7.1)))], [(2, .row true 3 t7.2)], 402⟩
def f26.l2.st (a3 : Int) (a4 : Int) (xs5 : List Int) : St env := ⟨fullT [0, 1, 5] 0 19 [.v (.c (.row 2)), .v (.c (.s (.int .i64 a3))), .v (.c (.s (.int .i64 a4)))], [(2, .row true 3 xs5)], 162⟩
def f26.l2.hd (k : Nat) (ts_ : List (AV env)) (mm_ : Mem env) (n_ : Nat) : LCl env :=
  gTs LCl.no [0, 1, 5] 19 ts_ fun l_ => gV LCl.no l_ fun a_ l_ => rRow LCl.no 2 a_ <| gV LCl.no l_ fun a_ l_ => rV LCl.no a_ fun v_ => vI LCl.no .i64 v_ fun a3 => gV LCl.no l_ fun a_ l_ => rV LCl.no a_ fun v_ => vI LCl.no .i64 v_ fun a4 => gE LCl.no l_ <| mRow LCl.no 2 true 3 mm_ fun xs5 m_ => gE LCl.no m_ <| gN LCl.no 162 n_ { α := Int × (List Int), o := f26.l2 k k a3 a4 xs5, w := f26.l2.w }
def f26.step {R : Type} (k : Nat) (ret : (Int × (List Int)) → Option R) (xs1 : List Int) (a2 : Int) : Option R :=
  (f26.l2 k k a2 (0 : Int) xs1).bind fun t6 => ret (t6.1, t6.2)
def f26 (k : Nat) (xs1 : List Int) (a2 : Int) : Option (Int × (List Int)) := f26.step k some xs1 a2
def f26.w {R : Type} : (Int × (List Int)) → (Res env → Option R) → Option R := fun t8 K => K ⟨.v (.c (.s (.int .i64 t8.1))), [[.sl 3 t8.2], []]⟩
theorem f26.wn (x : (Int × (List Int))) : ∃ res, ∀ {R : Type} (K : Res env → Option R), f26.w x K = K res := by
  exact ⟨_, fun _ => rfl⟩
def f26.hd (k : Nat) (ps_ : List (P2 env)) : Cl env :=
  gC Cl.no ps_ fun p_ ps_ => qC Cl.no p_ fun c_ => qWr Cl.no 3 c_ fun xs1 => gC Cl.no ps_ fun p_ ps_ => qC Cl.no p_ fun c_ => qS Cl.no c_ fun v_ => vI Cl.no .i64 v_ fun a2 => gE Cl.no ps_ <| { α := Int × (List Int), o := f26 k xs1 a2, w := f26.w, nat := fun x _ => f26.wn x }
def f26.e (k : Nat) : Entry env := ⟨fun ps => f26.hd k (coer [[.wr 3], [.no]] ps), [(0, 0)]⟩
def f26.X (k : Nat) : Ctx env := { C := lookE [], L := lookE [(2, fun S => f26.l2.hd k S.ts S.m S.n)], J := lookE [], keep := lookD [(2, [0, 1, 5])], keepX := lookD [(2, [0, 1])], span := lookN [(2, 240)], eff := fun n => memN n [], prep := lookP [], np := 130 }
theorem f26.l2.nat {R : Type} (k : Nat) (rec_ : Int → Int → (List Int) → Option (Int × (List Int))) (g : (Int × (List Int)) → Option R) (a3 : Int) (a4 : Int) (xs5 : List Int) : (f26.l2.step k rec_ some a3 a4 xs5).bind g = f26.l2.step k (fun a3 a4 xs5 => (rec_ a3 a4 xs5).bind g) g a3 a4 xs5 := by
  simp only [f26.l2.step, bind_ite, bind_sum, Option.bind_assoc, Option.bind_some, Option.bind_none]
theorem f26.l2.good (k : Nat) (a3 : Int) (a4 : Int) (xs5 : List Int) : GoodL (f26.X k) (nthC 0 (loopsOf (bodyOf Try.f26))) (f26.l2.st a3 a4 xs5) { α := (Int × (List Int)), o := f26.l2 k k a3 a4 xs5, w := f26.l2.w } :=
  loop_good (ι := Int × Int × (List Int)) (α := (Int × (List Int))) (fun i => f26.l2.st i.1 i.2.1 i.2.2) (fun j i => f26.l2 k j i.1 i.2.1 i.2.2) f26.l2.w (fun rec_ ret i => f26.l2.step k (fun a3 a4 xs5 => rec_ (a3, a4, xs5)) ret i.1 i.2.1 i.2.2)
    (fun _ => rfl) (fun _ _ => rfl) (fun rec_ g i => f26.l2.nat k _ g i.1 i.2.1 i.2.2) (fun {R} i0 i rec_ K => by kernel_rfl) k (a3, a4, xs5)
theorem f26.l2.all (k : Nat) (S : St env) : GoodL (f26.X k) (nthC 0 (loopsOf (bodyOf Try.f26))) S (f26.l2.hd k S.ts S.m S.n) := by
  obtain ⟨ts_, m_, n_⟩ := S
  show GoodL _ _ _ (f26.l2.hd k ts_ m_ n_)
  unfold f26.l2.hd
  refine gTs_ok (p := GoodL _ _ _) goodL_no fun _ h => ?_
  subst h
  refine gV_ok (p := GoodL _ _ _) goodL_no fun _ _ h => ?_
  subst h
  refine rRow_ok (p := GoodL _ _ _) goodL_no fun h => ?_
  subst h
  refine gV_ok (p := GoodL _ _ _) goodL_no fun _ _ h => ?_
  subst h
  refine rV_ok (p := GoodL _ _ _) goodL_no fun _ h => ?_
  subst h
  refine vI_ok (p := GoodL _ _ _) goodL_no fun _ h => ?_
  subst h
  refine gV_ok (p := GoodL _ _ _) goodL_no fun _ _ h => ?_
  subst h
  refine rV_ok (p := GoodL _ _ _) goodL_no fun _ h => ?_
  subst h
  refine vI_ok (p := GoodL _ _ _) goodL_no fun _ h => ?_
  subst h
  refine gE_ok (p := GoodL _ _ _) goodL_no fun h => ?_
  subst h
  refine mRow_ok (p := GoodL _ _ _) goodL_no fun _ _ h => ?_
  subst h
  refine gE_ok (p := GoodL _ _ _) goodL_no fun h => ?_
  subst h
  refine gN_ok (p := GoodL _ _ _) goodL_no fun h => ?_
  subst h
  exact f26.l2.good k _ _ _
theorem f26.nat {R : Type} (k : Nat) (g : (Int × (List Int)) → Option R) (xs1 : List Int) (a2 : Int) : f26.step k g xs1 a2 = (f26 k xs1 a2).bind g := by
  simp only [f26, f26.step, bind_ite, bind_sum, Option.bind_assoc, Option.bind_some, Option.bind_none]
theorem f26.ev (k : Nat) (xs1 : List Int) (a2 : Int) : evF (f26.X k) (bodyOf Try.f26) Try.f26.ntmps Try.f26.results.toList [.v (.c (.wr 3 xs1)), .v (.c (.s (.int .i64 a2)))] = f26.step k (fun x => f26.w x some) xs1 a2 := by kernel_rfl
theorem f26.hok (k : Nat) : HOK (f26.X k) (bodyOf Try.f26) where
  l := allP_mem (by exact ⟨ls_of (h0 := fun S => f26.l2.hd k S.ts S.m S.n) (by kernel_rfl) (f26.l2.all k), trivial⟩)
  j := allP_mem (by exact trivial)
theorem f26.sound0 (k : Nat) : SoundC env Try.prog 26 (f26.hd k) := by
  intro ps_
  show GoodC _ _ _ ps_ (f26.hd k ps_)
  unfold f26.hd
  refine gC_ok (p := GoodC env Try.prog 26 _) goodC_no fun _ _ h => ?_
  subst h
  refine qC_ok (p := GoodC env Try.prog 26 _) goodC_no fun _ h => ?_
  subst h
  refine qWr_ok (p := GoodC env Try.prog 26 _) goodC_no fun _ h => ?_
  subst h
  refine gC_ok (p := GoodC env Try.prog 26 _) goodC_no fun _ _ h => ?_
  subst h
  refine qC_ok (p := GoodC env Try.prog 26 _) goodC_no fun _ h => ?_
  subst h
  refine qS_ok (p := GoodC env Try.prog 26 _) goodC_no fun _ h => ?_
  subst h
  refine vI_ok (p := GoodC env Try.prog 26 _) goodC_no fun _ h => ?_
  subst h
  refine gE_ok (p := GoodC env Try.prog 26 _) goodC_no fun h => ?_
  subst h
  exact fun_good (fun_sound envOK (cs_sound _ (by exact trivial)) (f26.hok k) Try.func26 rfl) ((f26.ev k _ _).trans (f26.nat k _ _ _))
theorem f26.sound (k : Nat) : SoundC env Try.prog 26 (f26.e k).F := soundC_coer (f26.sound0 k) [[.wr 3], [.no]]
theorem f26.says (k : Nat) (xs1 : List Int) (a2 : Int) (t9 : Int × (List Int)) (h_ : f26 k xs1 a2 = some t9) : SoundAt env Try.prog 26 [.v (.c (.wr 3 xs1)), .v (.c (.s (.int .i64 a2)))] ⟨.v (.c (.s (.int .i64 t9.1))), [[.sl 3 t9.2], []]⟩ :=
  fun_sound envOK (cs_sound _ (by exact trivial)) (f26.hok k) Try.func26 rfl _ _ (((f26.ev k xs1 a2).trans (f26.nat k _ xs1 a2)).trans (by rw [h_]; rfl))
theorem f26.fnok : FnOK Try.prog 26 := fn_ok Try.func26 (by kernel_rfl) rfl
def f148.l2.step {R : Type} (k : Nat) (rec_ : Int → Int → (List S131) → Option R) (ret : (Int × (List S131)) → Option R) (a3 : Int) (a4 : Int) (xs5 : List S131) : Option R :=
  if (decide (a4 < (((List.length xs5) : Nat) : Int))) = true then
    if (0 : Int) ≤ a4 then
      if a4 < ((List.length xs5 : Nat) : Int) then
        if (0 : Int) ≤ a4 then
          if a4 < ((List.length (set131 xs5 (Int.toNat a4) 0 [.s (.int .i64 a3)]) : Nat) : Int) then
            rec_ (IntKind.i64.wrap ((IntKind.i64.wrap (a3 + (1 : Int))) + (1 : Int))) (IntKind.i64.wrap (a4 + (1 : Int))) (set131 (set131 xs5 (Int.toNat a4) 0 [.s (.int .i64 a3)]) (Int.toNat a4) 1 [.s (.int .i64 (IntKind.i64.wrap (a3 + (1 : Int))))])
          else none
        else none
      else none
    else none
  else
    ret (a3, xs5)
def f148.l2 (k : Nat) : Nat → Int → Int → (List S131) → Option (Int × (List S131))
  | 0, _, _, _ => none
  | j + 1, a3, a4, xs5 => f148.l2.step k (fun a3 a4 xs5 => f148.l2 k j a3 a4 xs5) some a3 a4 xs5
def f148.l2.w {R : Type} : (Int × (List S131)) → (Exit → St env → Option R) → Option R := fun t7 K => K (.exit 0) ⟨fullT [0, 1] 0 27 [.v (.c (.row 2)), .v (.c (.s (.int .i64 t7.1)))], [(2, .row true 131 t7.2)], 562⟩
def f148.l2.st (a3 : Int) (a4 : Int) (xs5 : List S131) : St env := ⟨fullT [0, 1, 5] 0 27 [.v (.c (.row 2)), .v (.c (.s (.int .i64 a3))), .v (.c (.s (.int .i64 a4)))], [(2, .row true 131 xs5)], 162⟩
def f148.l2.hd (k : Nat) (ts_ : List (AV env)) (mm_ : Mem env) (n_ : Nat) : LCl env :=
  gTs LCl.no [0, 1, 5] 27 ts_ fun l_ => gV LCl.no l_ fun a_ l_ => rRow LCl.no 2 a_ <| gV LCl.no l_ fun a_ l_ => rV LCl.no a_ fun v_ => vI LCl.no .i64 v_ fun a3 => gV LCl.no l_ fun a_ l_ => rV LCl.no a_ fun v_ => vI LCl.no .i64 v_ fun a4 => gE LCl.no l_ <| mRow LCl.no 2 true 131 mm_ fun xs5 m_ => gE LCl.no m_ <| gN LCl.no 162 n_ { α := Int × (List S131), o := f148.l2 k k a3 a4 xs5, w := f148.l2.w }
def f148.step {R : Type} (k : Nat) (ret : (Int × (List S131)) → Option R) (xs1 : List S131) (a2 : Int) : Option R :=
  (f148.l2 k k a2 (0 : Int) xs1).bind fun t6 => ret (t6.1, t6.2)
def f148 (k : Nat) (xs1 : List S131) (a2 : Int) : Option (Int × (List S131)) := f148.step k some xs1 a2
def f148.w {R : Type} : (Int × (List S131)) → (Res env → Option R) → Option R := fun t8 K => K ⟨.v (.c (.s (.int .i64 t8.1))), [[.sl 131 t8.2], []]⟩
theorem f148.wn (x : (Int × (List S131))) : ∃ res, ∀ {R : Type} (K : Res env → Option R), f148.w x K = K res := by
  exact ⟨_, fun _ => rfl⟩
def f148.hd (k : Nat) (ps_ : List (P2 env)) : Cl env :=
  gC Cl.no ps_ fun p_ ps_ => qC Cl.no p_ fun c_ => qWr Cl.no 131 c_ fun xs1 => gC Cl.no ps_ fun p_ ps_ => qC Cl.no p_ fun c_ => qS Cl.no c_ fun v_ => vI Cl.no .i64 v_ fun a2 => gE Cl.no ps_ <| { α := Int × (List S131), o := f148 k xs1 a2, w := f148.w, nat := fun x _ => f148.wn x }
def f148.e (k : Nat) : Entry env := ⟨fun ps => f148.hd k (coer [[.wr 131], [.no]] ps), [(0, 0)]⟩
def f148.X (k : Nat) : Ctx env := { C := lookE [], L := lookE [(2, fun S => f148.l2.hd k S.ts S.m S.n)], J := lookE [], keep := lookD [(2, [0, 1, 5])], keepX := lookD [(2, [0, 1])], span := lookN [(2, 400)], eff := fun n => memN n [], prep := lookP [], np := 130 }
theorem f148.l2.nat {R : Type} (k : Nat) (rec_ : Int → Int → (List S131) → Option (Int × (List S131))) (g : (Int × (List S131)) → Option R) (a3 : Int) (a4 : Int) (xs5 : List S131) : (f148.l2.step k rec_ some a3 a4 xs5).bind g = f148.l2.step k (fun a3 a4 xs5 => (rec_ a3 a4 xs5).bind g) g a3 a4 xs5 := by
  simp only [f148.l2.step, bind_ite, bind_sum, Option.bind_assoc, Option.bind_some, Option.bind_none]
theorem f148.l2.good (k : Nat) (a3 : Int) (a4 : Int) (xs5 : List S131) : GoodL (f148.X k) (nthC 0 (loopsOf (bodyOf Try.f148))) (f148.l2.st a3 a4 xs5) { α := (Int × (List S131)), o := f148.l2 k k a3 a4 xs5, w := f148.l2.w } :=
  loop_good (ι := Int × Int × (List S131)) (α := (Int × (List S131))) (fun i => f148.l2.st i.1 i.2.1 i.2.2) (fun j i => f148.l2 k j i.1 i.2.1 i.2.2) f148.l2.w (fun rec_ ret i => f148.l2.step k (fun a3 a4 xs5 => rec_ (a3, a4, xs5)) ret i.1 i.2.1 i.2.2)
    (fun _ => rfl) (fun _ _ => rfl) (fun rec_ g i => f148.l2.nat k _ g i.1 i.2.1 i.2.2) (fun {R} i0 i rec_ K => by kernel_rfl) k (a3, a4, xs5)
theorem f148.l2.all (k : Nat) (S : St env) : GoodL (f148.X k) (nthC 0 (loopsOf (bodyOf Try.f148))) S (f148.l2.hd k S.ts S.m S.n) := by
  obtain ⟨ts_, m_, n_⟩ := S
  show GoodL _ _ _ (f148.l2.hd k ts_ m_ n_)
  unfold f148.l2.hd
  refine gTs_ok (p := GoodL _ _ _) goodL_no fun _ h => ?_
  subst h
  refine gV_ok (p := GoodL _ _ _) goodL_no fun _ _ h => ?_
  subst h
  refine rRow_ok (p := GoodL _ _ _) goodL_no fun h => ?_
  subst h
  refine gV_ok (p := GoodL _ _ _) goodL_no fun _ _ h => ?_
  subst h
  refine rV_ok (p := GoodL _ _ _) goodL_no fun _ h => ?_
  subst h
  refine vI_ok (p := GoodL _ _ _) goodL_no fun _ h => ?_
  subst h
  refine gV_ok (p := GoodL _ _ _) goodL_no fun _ _ h => ?_
  subst h
  refine rV_ok (p := GoodL _ _ _) goodL_no fun _ h => ?_
  subst h
  refine vI_ok (p := GoodL _ _ _) goodL_no fun _ h => ?_
  subst h
  refine gE_ok (p := GoodL _ _ _) goodL_no fun h => ?_
  subst h
  refine mRow_ok (p := GoodL _ _ _) goodL_no fun _ _ h => ?_
  subst h
  refine gE_ok (p := GoodL _ _ _) goodL_no fun h => ?_
  subst h
  refine gN_ok (p := GoodL _ _ _) goodL_no fun h => ?_
  subst h
  exact f148.l2.good k _ _ _
theorem f148.nat {R : Type} (k : Nat) (g : (Int × (List S131)) → Option R) (xs1 : List S131) (a2 : Int) : f148.step k g xs1 a2 = (f148 k xs1 a2).bind g := by
  simp only [f148, f148.step, bind_ite, bind_sum, Option.bind_assoc, Option.bind_some, Option.bind_none]
theorem f148.ev (k : Nat) (xs1 : List S131) (a2 : Int) : evF (f148.X k) (bodyOf Try.f148) Try.f148.ntmps Try.f148.results.toList [.v (.c (.wr 131 xs1)), .v (.c (.s (.int .i64 a2)))] = f148.step k (fun x => f148.w x some) xs1 a2 := by kernel_rfl
theorem f148.hok (k : Nat) : HOK (f148.X k) (bodyOf Try.f148) where
  l := allP_mem (by exact ⟨ls_of (h0 := fun S => f148.l2.hd k S.ts S.m S.n) (by kernel_rfl) (f148.l2.all k), trivial⟩)
  j := allP_mem (by exact trivial)
theorem f148.sound0 (k : Nat) : SoundC env Try.prog 148 (f148.hd k) := by
  intro ps_
  show GoodC _ _ _ ps_ (f148.hd k ps_)
  unfold f148.hd
  refine gC_ok (p := GoodC env Try.prog 148 _) goodC_no fun _ _ h => ?_
  subst h
  refine qC_ok (p := GoodC env Try.prog 148 _) goodC_no fun _ h => ?_
  subst h
  refine qWr_ok (p := GoodC env Try.prog 148 _) goodC_no fun _ h => ?_
  subst h
  refine gC_ok (p := GoodC env Try.prog 148 _) goodC_no fun _ _ h => ?_
  subst h
  refine qC_ok (p := GoodC env Try.prog 148 _) goodC_no fun _ h => ?_
  subst h
  refine qS_ok (p := GoodC env Try.prog 148 _) goodC_no fun _ h => ?_
  subst h
  refine vI_ok (p := GoodC env Try.prog 148 _) goodC_no fun _ h => ?_
  subst h
  refine gE_ok (p := GoodC env Try.prog 148 _) goodC_no fun h => ?_
  subst h
  exact fun_good (fun_sound envOK (cs_sound _ (by exact trivial)) (f148.hok k) Try.func148 rfl) ((f148.ev k _ _).trans (f148.nat k _ _ _))
theorem f148.sound (k : Nat) : SoundC env Try.prog 148 (f148.e k).F := soundC_coer (f148.sound0 k) [[.wr 131], [.no]]
theorem f148.says (k : Nat) (xs1 : List S131) (a2 : Int) (t9 : Int × (List S131)) (h_ : f148 k xs1 a2 = some t9) : SoundAt env Try.prog 148 [.v (.c (.wr 131 xs1)), .v (.c (.s (.int .i64 a2)))] ⟨.v (.c (.s (.int .i64 t9.1))), [[.sl 131 t9.2], []]⟩ :=
  fun_sound envOK (cs_sound _ (by exact trivial)) (f148.hok k) Try.func148 rfl _ _ (((f148.ev k xs1 a2).trans (f148.nat k _ xs1 a2)).trans (by rw [h_]; rfl))
theorem f148.fnok : FnOK Try.prog 148 := fn_ok Try.func148 (by kernel_rfl) rfl
def f89.l2.step {R : Type} (k : Nat) (rec_ : Int → Int → (List S123) → Option R) (ret : (Int × (List S123)) → Option R) (a3 : Int) (a4 : Int) (xs5 : List S123) : Option R :=
  if (decide (a4 < (((List.length xs5) : Nat) : Int))) = true then
    if (0 : Int) ≤ a4 then
      if a4 < ((List.length xs5 : Nat) : Int) then
        if (0 : Int) ≤ a4 then
          if a4 < ((List.length (set123 xs5 (Int.toNat a4) 0 [.s (.int .i64 a3)]) : Nat) : Int) then
            if (0 : Int) ≤ a4 then
              if a4 < ((List.length (set123 (set123 xs5 (Int.toNat a4) 0 [.s (.int .i64 a3)]) (Int.toNat a4) 1 [.s (.int .i64 (IntKind.i64.wrap (a3 + (1 : Int))))]) : Nat) : Int) then
                (f148 k (List.getD (set123 (set123 xs5 (Int.toNat a4) 0 [.s (.int .i64 a3)]) (Int.toNat a4) 1 [.s (.int .i64 (IntKind.i64.wrap (a3 + (1 : Int))))]) (Int.toNat a4) (⟨(0 : Int), (0 : Int), [], (0 : Int), (0 : Int), (0 : Int)⟩ : S123)).f2 (IntKind.i64.wrap ((IntKind.i64.wrap (a3 + (1 : Int))) + (1 : Int)))).bind fun t6 => if (0 : Int) ≤ a4 then
                    if a4 < ((List.length (set123 (set123 (set123 xs5 (Int.toNat a4) 0 [.s (.int .i64 a3)]) (Int.toNat a4) 1 [.s (.int .i64 (IntKind.i64.wrap (a3 + (1 : Int))))]) (Int.toNat a4) 2 [.sl 131 t6.2]) : Nat) : Int) then
                      if (0 : Int) ≤ a4 then
                        if a4 < ((List.length (set123 (set123 (set123 (set123 xs5 (Int.toNat a4) 0 [.s (.int .i64 a3)]) (Int.toNat a4) 1 [.s (.int .i64 (IntKind.i64.wrap (a3 + (1 : Int))))]) (Int.toNat a4) 2 [.sl 131 t6.2]) (Int.toNat a4) 3 [.s (.int .i64 t6.1)]) : Nat) : Int) then
                          if (0 : Int) ≤ a4 then
                            if a4 < ((List.length (set123 (set123 (set123 (set123 (set123 xs5 (Int.toNat a4) 0 [.s (.int .i64 a3)]) (Int.toNat a4) 1 [.s (.int .i64 (IntKind.i64.wrap (a3 + (1 : Int))))]) (Int.toNat a4) 2 [.sl 131 t6.2]) (Int.toNat a4) 3 [.s (.int .i64 t6.1)]) (Int.toNat a4) 4 [.s (.int .i64 (IntKind.i64.wrap (t6.1 + (1 : Int))))]) : Nat) : Int) then
                              rec_ (IntKind.i64.wrap ((IntKind.i64.wrap ((IntKind.i64.wrap (t6.1 + (1 : Int))) + (1 : Int))) + (1 : Int))) (IntKind.i64.wrap (a4 + (1 : Int))) (set123 (set123 (set123 (set123 (set123 (set123 xs5 (Int.toNat a4) 0 [.s (.int .i64 a3)]) (Int.toNat a4) 1 [.s (.int .i64 (IntKind.i64.wrap (a3 + (1 : Int))))]) (Int.toNat a4) 2 [.sl 131 t6.2]) (Int.toNat a4) 3 [.s (.int .i64 t6.1)]) (Int.toNat a4) 4 [.s (.int .i64 (IntKind.i64.wrap (t6.1 + (1 : Int))))]) (Int.toNat a4) 5 [.s (.int .i64 (IntKind.i64.wrap ((IntKind.i64.wrap (t6.1 + (1 : Int))) + (1 : Int))))])
                            else none
                          else none
                        else none
                      else none
                    else none
                  else none
              else none
            else none
          else none
        else none
      else none
    else none
  else
    ret (a3, xs5)
def f89.l2 (k : Nat) : Nat → Int → Int → (List S123) → Option (Int × (List S123))
  | 0, _, _, _ => none
  | j + 1, a3, a4, xs5 => f89.l2.step k (fun a3 a4 xs5 => f89.l2 k j a3 a4 xs5) some a3 a4 xs5
def f89.l2.w {R : Type} : (Int × (List S123)) → (Exit → St env → Option R) → Option R := fun t8 K => K (.exit 0) ⟨fullT [0, 1] 0 55 [.v (.c (.row 2)), .v (.c (.s (.int .i64 t8.1)))], [(2, .row true 123 t8.2)], 1122⟩
def f89.l2.st (a3 : Int) (a4 : Int) (xs5 : List S123) : St env := ⟨fullT [0, 1, 5] 0 55 [.v (.c (.row 2)), .v (.c (.s (.int .i64 a3))), .v (.c (.s (.int .i64 a4)))], [(2, .row true 123 xs5)], 162⟩
def f89.l2.hd (k : Nat) (ts_ : List (AV env)) (mm_ : Mem env) (n_ : Nat) : LCl env :=
  gTs LCl.no [0, 1, 5] 55 ts_ fun l_ => gV LCl.no l_ fun a_ l_ => rRow LCl.no 2 a_ <| gV LCl.no l_ fun a_ l_ => rV LCl.no a_ fun v_ => vI LCl.no .i64 v_ fun a3 => gV LCl.no l_ fun a_ l_ => rV LCl.no a_ fun v_ => vI LCl.no .i64 v_ fun a4 => gE LCl.no l_ <| mRow LCl.no 2 true 123 mm_ fun xs5 m_ => gE LCl.no m_ <| gN LCl.no 162 n_ { α := Int × (List S123), o := f89.l2 k k a3 a4 xs5, w := f89.l2.w }
def f89.step {R : Type} (k : Nat) (ret : (Int × (List S123)) → Option R) (xs1 : List S123) (a2 : Int) : Option R :=
  (f89.l2 k k a2 (0 : Int) xs1).bind fun t7 => ret (t7.1, t7.2)
def f89 (k : Nat) (xs1 : List S123) (a2 : Int) : Option (Int × (List S123)) := f89.step k some xs1 a2
def f89.w {R : Type} : (Int × (List S123)) → (Res env → Option R) → Option R := fun t9 K => K ⟨.v (.c (.s (.int .i64 t9.1))), [[.sl 123 t9.2], []]⟩
theorem f89.wn (x : (Int × (List S123))) : ∃ res, ∀ {R : Type} (K : Res env → Option R), f89.w x K = K res := by
  exact ⟨_, fun _ => rfl⟩
def f89.hd (k : Nat) (ps_ : List (P2 env)) : Cl env :=
  gC Cl.no ps_ fun p_ ps_ => qC Cl.no p_ fun c_ => qWr Cl.no 123 c_ fun xs1 => gC Cl.no ps_ fun p_ ps_ => qC Cl.no p_ fun c_ => qS Cl.no c_ fun v_ => vI Cl.no .i64 v_ fun a2 => gE Cl.no ps_ <| { α := Int × (List S123), o := f89 k xs1 a2, w := f89.w, nat := fun x _ => f89.wn x }
def f89.e (k : Nat) : Entry env := ⟨fun ps => f89.hd k (coer [[.wr 123], [.no]] ps), [(0, 0)]⟩
def f89.X (k : Nat) : Ctx env := { C := lookE [(148, f148.e k)], L := lookE [(2, fun S => f89.l2.hd k S.ts S.m S.n)], J := lookE [], keep := lookD [(2, [0, 1, 5])], keepX := lookD [(2, [0, 1])], span := lookN [(2, 960)], eff := fun n => memN n [], prep := lookP [], np := 130 }
theorem f89.l2.nat {R : Type} (k : Nat) (rec_ : Int → Int → (List S123) → Option (Int × (List S123))) (g : (Int × (List S123)) → Option R) (a3 : Int) (a4 : Int) (xs5 : List S123) : (f89.l2.step k rec_ some a3 a4 xs5).bind g = f89.l2.step k (fun a3 a4 xs5 => (rec_ a3 a4 xs5).bind g) g a3 a4 xs5 := by
  simp only [f89.l2.step, bind_ite, bind_sum, Option.bind_assoc, Option.bind_some, Option.bind_none]
theorem f89.l2.good (k : Nat) (a3 : Int) (a4 : Int) (xs5 : List S123) : GoodL (f89.X k) (nthC 0 (loopsOf (bodyOf Try.f89))) (f89.l2.st a3 a4 xs5) { α := (Int × (List S123)), o := f89.l2 k k a3 a4 xs5, w := f89.l2.w } :=
  loop_good (ι := Int × Int × (List S123)) (α := (Int × (List S123))) (fun i => f89.l2.st i.1 i.2.1 i.2.2) (fun j i => f89.l2 k j i.1 i.2.1 i.2.2) f89.l2.w (fun rec_ ret i => f89.l2.step k (fun a3 a4 xs5 => rec_ (a3, a4, xs5)) ret i.1 i.2.1 i.2.2)
    (fun _ => rfl) (fun _ _ => rfl) (fun rec_ g i => f89.l2.nat k _ g i.1 i.2.1 i.2.2) (fun {R} i0 i rec_ K => by kernel_rfl) k (a3, a4, xs5)
theorem f89.l2.all (k : Nat) (S : St env) : GoodL (f89.X k) (nthC 0 (loopsOf (bodyOf Try.f89))) S (f89.l2.hd k S.ts S.m S.n) := by
  obtain ⟨ts_, m_, n_⟩ := S
  show GoodL _ _ _ (f89.l2.hd k ts_ m_ n_)
  unfold f89.l2.hd
  refine gTs_ok (p := GoodL _ _ _) goodL_no fun _ h => ?_
  subst h
  refine gV_ok (p := GoodL _ _ _) goodL_no fun _ _ h => ?_
  subst h
  refine rRow_ok (p := GoodL _ _ _) goodL_no fun h => ?_
  subst h
  refine gV_ok (p := GoodL _ _ _) goodL_no fun _ _ h => ?_
  subst h
  refine rV_ok (p := GoodL _ _ _) goodL_no fun _ h => ?_
  subst h
  refine vI_ok (p := GoodL _ _ _) goodL_no fun _ h => ?_
  subst h
  refine gV_ok (p := GoodL _ _ _) goodL_no fun _ _ h => ?_
  subst h
  refine rV_ok (p := GoodL _ _ _) goodL_no fun _ h => ?_
  subst h
  refine vI_ok (p := GoodL _ _ _) goodL_no fun _ h => ?_
  subst h
  refine gE_ok (p := GoodL _ _ _) goodL_no fun h => ?_
  subst h
  refine mRow_ok (p := GoodL _ _ _) goodL_no fun _ _ h => ?_
  subst h
  refine gE_ok (p := GoodL _ _ _) goodL_no fun h => ?_
  subst h
  refine gN_ok (p := GoodL _ _ _) goodL_no fun h => ?_
  subst h
  exact f89.l2.good k _ _ _
theorem f89.nat {R : Type} (k : Nat) (g : (Int × (List S123)) → Option R) (xs1 : List S123) (a2 : Int) : f89.step k g xs1 a2 = (f89 k xs1 a2).bind g := by
  simp only [f89, f89.step, bind_ite, bind_sum, Option.bind_assoc, Option.bind_some, Option.bind_none]
theorem f89.ev (k : Nat) (xs1 : List S123) (a2 : Int) : evF (f89.X k) (bodyOf Try.f89) Try.f89.ntmps Try.f89.results.toList [.v (.c (.wr 123 xs1)), .v (.c (.s (.int .i64 a2)))] = f89.step k (fun x => f89.w x some) xs1 a2 := by kernel_rfl
theorem f89.hok (k : Nat) : HOK (f89.X k) (bodyOf Try.f89) where
  l := allP_mem (by exact ⟨ls_of (h0 := fun S => f89.l2.hd k S.ts S.m S.n) (by kernel_rfl) (f89.l2.all k), trivial⟩)
  j := allP_mem (by exact trivial)
theorem f89.sound0 (k : Nat) : SoundC env Try.prog 89 (f89.hd k) := by
  intro ps_
  show GoodC _ _ _ ps_ (f89.hd k ps_)
  unfold f89.hd
  refine gC_ok (p := GoodC env Try.prog 89 _) goodC_no fun _ _ h => ?_
  subst h
  refine qC_ok (p := GoodC env Try.prog 89 _) goodC_no fun _ h => ?_
  subst h
  refine qWr_ok (p := GoodC env Try.prog 89 _) goodC_no fun _ h => ?_
  subst h
  refine gC_ok (p := GoodC env Try.prog 89 _) goodC_no fun _ _ h => ?_
  subst h
  refine qC_ok (p := GoodC env Try.prog 89 _) goodC_no fun _ h => ?_
  subst h
  refine qS_ok (p := GoodC env Try.prog 89 _) goodC_no fun _ h => ?_
  subst h
  refine vI_ok (p := GoodC env Try.prog 89 _) goodC_no fun _ h => ?_
  subst h
  refine gE_ok (p := GoodC env Try.prog 89 _) goodC_no fun h => ?_
  subst h
  exact fun_good (fun_sound envOK (cs_sound _ (by exact ⟨⟨f148.sound k, f148.fnok⟩, trivial⟩)) (f89.hok k) Try.func89 rfl) ((f89.ev k _ _).trans (f89.nat k _ _ _))
theorem f89.sound (k : Nat) : SoundC env Try.prog 89 (f89.e k).F := soundC_coer (f89.sound0 k) [[.wr 123], [.no]]
theorem f89.says (k : Nat) (xs1 : List S123) (a2 : Int) (t10 : Int × (List S123)) (h_ : f89 k xs1 a2 = some t10) : SoundAt env Try.prog 89 [.v (.c (.wr 123 xs1)), .v (.c (.s (.int .i64 a2)))] ⟨.v (.c (.s (.int .i64 t10.1))), [[.sl 123 t10.2], []]⟩ :=
  fun_sound envOK (cs_sound _ (by exact ⟨⟨f148.sound k, f148.fnok⟩, trivial⟩)) (f89.hok k) Try.func89 rfl _ _ (((f89.ev k xs1 a2).trans (f89.nat k _ xs1 a2)).trans (by rw [h_]; rfl))
theorem f89.fnok : FnOK Try.prog 89 := fn_ok Try.func89 (by kernel_rfl) rfl
def f27.step {R : Type} (k : Nat) (ret : (Int × (List S123) × (List Int) × Bool) → Option R) (xs1 : List S123) (xs2 : List Int) (b3 : Bool) (a4 : Int) : Option R :=
  (f89 k xs1 a4).bind fun t5 => (f26 k xs2 t5.1).bind fun t6 => ret (t6.1, t5.2, t6.2, false)
def f27 (k : Nat) (xs1 : List S123) (xs2 : List Int) (b3 : Bool) (a4 : Int) : Option (Int × (List S123) × (List Int) × Bool) := f27.step k some xs1 xs2 b3 a4
def f27.w {R : Type} : (Int × (List S123) × (List Int) × Bool) → (Res env → Option R) → Option R := fun t7 K => K ⟨.v (.c (.s (.int .i64 t7.1))), [[.sl 123 t7.2.1, .sl 3 t7.2.2.1, .s (.bool t7.2.2.2)], []]⟩
theorem f27.wn (x : (Int × (List S123) × (List Int) × Bool)) : ∃ res, ∀ {R : Type} (K : Res env → Option R), f27.w x K = K res := by
  exact ⟨_, fun _ => rfl⟩
def f27.hd (k : Nat) (ps_ : List (P2 env)) : Cl env :=
  gC Cl.no ps_ fun p_ ps_ => qG Cl.no p_ fun cs_ => gC Cl.no cs_ fun c_ cs_ => qWr Cl.no 123 c_ fun xs1 => gC Cl.no cs_ fun c_ cs_ => qWr Cl.no 3 c_ fun xs2 => gC Cl.no cs_ fun c_ cs_ => qS Cl.no c_ fun v_ => vB Cl.no v_ fun b3 => gE Cl.no cs_ <| gC Cl.no ps_ fun p_ ps_ => qC Cl.no p_ fun c_ => qS Cl.no c_ fun v_ => vI Cl.no .i64 v_ fun a4 => gE Cl.no ps_ <| { α := Int × (List S123) × (List Int) × Bool, o := f27 k xs1 xs2 b3 a4, w := f27.w, nat := fun x _ => f27.wn x }
def f27.e (k : Nat) : Entry env := ⟨fun ps => f27.hd k (coer [[.wr 123, .wr 3, .no], [.no]] ps), [(0, 0), (0, 1)]⟩
def f27.X (k : Nat) : Ctx env := { C := lookE [(26, f26.e k), (89, f89.e k)], L := lookE [], J := lookE [], keep := lookD [], keepX := lookD [], span := lookN [], eff := fun n => memN n [], prep := lookP [], np := 130 }
theorem f27.nat {R : Type} (k : Nat) (g : (Int × (List S123) × (List Int) × Bool) → Option R) (xs1 : List S123) (xs2 : List Int) (b3 : Bool) (a4 : Int) : f27.step k g xs1 xs2 b3 a4 = (f27 k xs1 xs2 b3 a4).bind g := by
  simp only [f27, f27.step, bind_ite, bind_sum, Option.bind_assoc, Option.bind_some, Option.bind_none]
theorem f27.ev (k : Nat) (xs1 : List S123) (xs2 : List Int) (b3 : Bool) (a4 : Int) : evF (f27.X k) (bodyOf Try.f27) Try.f27.ntmps Try.f27.results.toList [.g [.wr 123 xs1, .wr 3 xs2, .s (.bool b3)], .v (.c (.s (.int .i64 a4)))] = f27.step k (fun x => f27.w x some) xs1 xs2 b3 a4 := by kernel_rfl
theorem f27.hok (k : Nat) : HOK (f27.X k) (bodyOf Try.f27) where
  l := allP_mem (by exact trivial)
  j := allP_mem (by exact trivial)
theorem f27.sound0 (k : Nat) : SoundC env Try.prog 27 (f27.hd k) := by
  intro ps_
  show GoodC _ _ _ ps_ (f27.hd k ps_)
  unfold f27.hd
  refine gC_ok (p := GoodC env Try.prog 27 _) goodC_no fun _ _ h => ?_
  subst h
  refine qG_ok (p := GoodC env Try.prog 27 _) goodC_no fun _ h => ?_
  subst h
  refine gC_ok (p := GoodC env Try.prog 27 _) goodC_no fun _ _ h => ?_
  subst h
  refine qWr_ok (p := GoodC env Try.prog 27 _) goodC_no fun _ h => ?_
  subst h
  refine gC_ok (p := GoodC env Try.prog 27 _) goodC_no fun _ _ h => ?_
  subst h
  refine qWr_ok (p := GoodC env Try.prog 27 _) goodC_no fun _ h => ?_
  subst h
  refine gC_ok (p := GoodC env Try.prog 27 _) goodC_no fun _ _ h => ?_
  subst h
  refine qS_ok (p := GoodC env Try.prog 27 _) goodC_no fun _ h => ?_
  subst h
  refine vB_ok (p := GoodC env Try.prog 27 _) goodC_no fun _ h => ?_
  subst h
  refine gE_ok (p := GoodC env Try.prog 27 _) goodC_no fun h => ?_
  subst h
  refine gC_ok (p := GoodC env Try.prog 27 _) goodC_no fun _ _ h => ?_
  subst h
  refine qC_ok (p := GoodC env Try.prog 27 _) goodC_no fun _ h => ?_
  subst h
  refine qS_ok (p := GoodC env Try.prog 27 _) goodC_no fun _ h => ?_
  subst h
  refine vI_ok (p := GoodC env Try.prog 27 _) goodC_no fun _ h => ?_
  subst h
  refine gE_ok (p := GoodC env Try.prog 27 _) goodC_no fun h => ?_
  subst h
  exact fun_good (fun_sound envOK (cs_sound _ (by exact ⟨⟨f26.sound k, f26.fnok⟩, ⟨f89.sound k, f89.fnok⟩, trivial⟩)) (f27.hok k) Try.func27 rfl) ((f27.ev k _ _ _ _).trans (f27.nat k _ _ _ _ _))
theorem f27.sound (k : Nat) : SoundC env Try.prog 27 (f27.e k).F := soundC_coer (f27.sound0 k) [[.wr 123, .wr 3, .no], [.no]]
theorem f27.says (k : Nat) (xs1 : List S123) (xs2 : List Int) (b3 : Bool) (a4 : Int) (t8 : Int × (List S123) × (List Int) × Bool) (h_ : f27 k xs1 xs2 b3 a4 = some t8) : SoundAt env Try.prog 27 [.g [.wr 123 xs1, .wr 3 xs2, .s (.bool b3)], .v (.c (.s (.int .i64 a4)))] ⟨.v (.c (.s (.int .i64 t8.1))), [[.sl 123 t8.2.1, .sl 3 t8.2.2.1, .s (.bool t8.2.2.2)], []]⟩ :=
  fun_sound envOK (cs_sound _ (by exact ⟨⟨f26.sound k, f26.fnok⟩, ⟨f89.sound k, f89.fnok⟩, trivial⟩)) (f27.hok k) Try.func27 rfl _ _ (((f27.ev k xs1 xs2 b3 a4).trans (f27.nat k _ xs1 xs2 b3 a4)).trans (by rw [h_]; rfl))
theorem f27.fnok : FnOK Try.prog 27 := fn_ok Try.func27 (by kernel_rfl) rfl
def f149.l2.step {R : Type} (k : Nat) (rec_ : (List S131) → Int → Int → Option R) (ret : ((Int × Int) ⊕ (Int)) → Option R) (xs3 : List S131) (a4 : Int) (a5 : Int) : Option R :=
  if (decide (a5 < (((List.length xs3) : Nat) : Int))) = true then
    if (0 : Int) ≤ a5 then
      if a5 < ((List.length xs3 : Nat) : Int) then
        if (decide ((List.getD xs3 (Int.toNat a5) (⟨(0 : Int), (0 : Int)⟩ : S131)).f0 ≠ a4)) = true then
          ret (.inl (a4, (-1 : Int)))
        else
          if (0 : Int) ≤ a5 then
            if a5 < ((List.length xs3 : Nat) : Int) then
              if (decide ((List.getD xs3 (Int.toNat a5) (⟨(0 : Int), (0 : Int)⟩ : S131)).f1 ≠ (IntKind.i64.wrap (a4 + (1 : Int))))) = true then
                ret (.inl ((IntKind.i64.wrap (a4 + (1 : Int))), (-1 : Int)))
              else
                rec_ xs3 (IntKind.i64.wrap ((IntKind.i64.wrap (a4 + (1 : Int))) + (1 : Int))) (IntKind.i64.wrap (a5 + (1 : Int)))
            else none
          else none
      else none
    else none
  else
    ret (.inr a4)
def f149.l2 (k : Nat) : Nat → (List S131) → Int → Int → Option ((Int × Int) ⊕ (Int))
  | 0, _, _, _ => none
  | j + 1, xs3, a4, a5 => f149.l2.step k (fun xs3 a4 a5 => f149.l2 k j xs3 a4 a5) some xs3 a4 a5
def f149.l2.w {R : Type} : ((Int × Int) ⊕ (Int)) → (Exit → St env → Option R) → Option R := fun x K => Sum.elim (fun t8 => K .ret ⟨fullT [1, 4] 0 31 [.v (.c (.s (.int .i64 t8.1))), .v (.c (.s (.int .i64 t8.2)))], [], 498⟩) (fun t9 => K (.exit 0) ⟨fullT [1] 0 31 [.v (.c (.s (.int .i64 t9)))], [], 498⟩) x
def f149.l2.st (xs3 : List S131) (a4 : Int) (a5 : Int) : St env := ⟨fullT [0, 1, 5] 0 31 [.v (.c (.imm 131 xs3)), .v (.c (.s (.int .i64 a4))), .v (.c (.s (.int .i64 a5)))], [], 34⟩
def f149.l2.hd (k : Nat) (ts_ : List (AV env)) (mm_ : Mem env) (n_ : Nat) : LCl env :=
  gTs LCl.no [0, 1, 5] 31 ts_ fun l_ => gV LCl.no l_ fun a_ l_ => rImm LCl.no 131 a_ fun xs3 => gV LCl.no l_ fun a_ l_ => rV LCl.no a_ fun v_ => vI LCl.no .i64 v_ fun a4 => gV LCl.no l_ fun a_ l_ => rV LCl.no a_ fun v_ => vI LCl.no .i64 v_ fun a5 => gE LCl.no l_ <| gE LCl.no mm_ <| gN LCl.no 34 n_ { α := (Int × Int) ⊕ (Int), o := f149.l2 k k xs3 a4 a5, w := f149.l2.w }
def f149.step {R : Type} (k : Nat) (ret : Int → Option R) (xs1 : List S131) (a2 : Int) : Option R :=
  (f149.l2 k k xs1 a2 (0 : Int)).bind (Sum.elim (fun t6 => ret t6.2) (fun t7 => ret t7))
def f149 (k : Nat) (xs1 : List S131) (a2 : Int) : Option Int := f149.step k some xs1 a2
def f149.w {R : Type} : Int → (Res env → Option R) → Option R := fun t10 K => K ⟨.v (.c (.s (.int .i64 t10))), [[], []]⟩
theorem f149.wn (x : Int) : ∃ res, ∀ {R : Type} (K : Res env → Option R), f149.w x K = K res := by
  exact ⟨_, fun _ => rfl⟩
def f149.hd (k : Nat) (ps_ : List (P2 env)) : Cl env :=
  gC Cl.no ps_ fun p_ ps_ => qC Cl.no p_ fun c_ => qSl Cl.no 131 c_ fun xs1 => gC Cl.no ps_ fun p_ ps_ => qC Cl.no p_ fun c_ => qS Cl.no c_ fun v_ => vI Cl.no .i64 v_ fun a2 => gE Cl.no ps_ <| { α := Int, o := f149 k xs1 a2, w := f149.w, nat := fun x _ => f149.wn x }
def f149.e (k : Nat) : Entry env := ⟨fun ps => f149.hd k (coer [[.rd 131], [.no]] ps), []⟩
def f149.X (k : Nat) : Ctx env := { C := lookE [], L := lookE [(2, fun S => f149.l2.hd k S.ts S.m S.n)], J := lookE [], keep := lookD [(2, [0, 1, 5])], keepX := lookD [(2, [1, 4])], span := lookN [(2, 464)], eff := fun n => memN n [], prep := lookP [], np := 0 }
theorem f149.l2.nat {R : Type} (k : Nat) (rec_ : (List S131) → Int → Int → Option ((Int × Int) ⊕ (Int))) (g : ((Int × Int) ⊕ (Int)) → Option R) (xs3 : List S131) (a4 : Int) (a5 : Int) : (f149.l2.step k rec_ some xs3 a4 a5).bind g = f149.l2.step k (fun xs3 a4 a5 => (rec_ xs3 a4 a5).bind g) g xs3 a4 a5 := by
  simp only [f149.l2.step, bind_ite, bind_sum, Option.bind_assoc, Option.bind_some, Option.bind_none]
theorem f149.l2.good (k : Nat) (xs3 : List S131) (a4 : Int) (a5 : Int) : GoodL (f149.X k) (nthC 0 (loopsOf (bodyOf Try.f149))) (f149.l2.st xs3 a4 a5) { α := ((Int × Int) ⊕ (Int)), o := f149.l2 k k xs3 a4 a5, w := f149.l2.w } :=
  loop_good (ι := (List S131) × Int × Int) (α := ((Int × Int) ⊕ (Int))) (fun i => f149.l2.st i.1 i.2.1 i.2.2) (fun j i => f149.l2 k j i.1 i.2.1 i.2.2) f149.l2.w (fun rec_ ret i => f149.l2.step k (fun xs3 a4 a5 => rec_ (xs3, a4, a5)) ret i.1 i.2.1 i.2.2)
    (fun _ => rfl) (fun _ _ => rfl) (fun rec_ g i => f149.l2.nat k _ g i.1 i.2.1 i.2.2) (fun {R} i0 i rec_ K => by kernel_rfl) k (xs3, a4, a5)
theorem f149.l2.all (k : Nat) (S : St env) : GoodL (f149.X k) (nthC 0 (loopsOf (bodyOf Try.f149))) S (f149.l2.hd k S.ts S.m S.n) := by
  obtain ⟨ts_, m_, n_⟩ := S
  show GoodL _ _ _ (f149.l2.hd k ts_ m_ n_)
  unfold f149.l2.hd
  refine gTs_ok (p := GoodL _ _ _) goodL_no fun _ h => ?_
  subst h
  refine gV_ok (p := GoodL _ _ _) goodL_no fun _ _ h => ?_
  subst h
  refine rImm_ok (p := GoodL _ _ _) goodL_no fun _ h => ?_
  subst h
  refine gV_ok (p := GoodL _ _ _) goodL_no fun _ _ h => ?_
  subst h
  refine rV_ok (p := GoodL _ _ _) goodL_no fun _ h => ?_
  subst h
  refine vI_ok (p := GoodL _ _ _) goodL_no fun _ h => ?_
  subst h
  refine gV_ok (p := GoodL _ _ _) goodL_no fun _ _ h => ?_
  subst h
  refine rV_ok (p := GoodL _ _ _) goodL_no fun _ h => ?_
  subst h
  refine vI_ok (p := GoodL _ _ _) goodL_no fun _ h => ?_
  subst h
  refine gE_ok (p := GoodL _ _ _) goodL_no fun h => ?_
  subst h
  refine gE_ok (p := GoodL _ _ _) goodL_no fun h => ?_
  subst h
  refine gN_ok (p := GoodL _ _ _) goodL_no fun h => ?_
  subst h
  exact f149.l2.good k _ _ _
theorem f149.nat {R : Type} (k : Nat) (g : Int → Option R) (xs1 : List S131) (a2 : Int) : f149.step k g xs1 a2 = (f149 k xs1 a2).bind g := by
  simp only [f149, f149.step, bind_ite, bind_sum, Option.bind_assoc, Option.bind_some, Option.bind_none]
theorem f149.ev (k : Nat) (xs1 : List S131) (a2 : Int) : evF (f149.X k) (bodyOf Try.f149) Try.f149.ntmps Try.f149.results.toList [.v (.c (.sl 131 xs1)), .v (.c (.s (.int .i64 a2)))] = f149.step k (fun x => f149.w x some) xs1 a2 := by kernel_rfl
theorem f149.hok (k : Nat) : HOK (f149.X k) (bodyOf Try.f149) where
  l := allP_mem (by exact ⟨ls_of (h0 := fun S => f149.l2.hd k S.ts S.m S.n) (by kernel_rfl) (f149.l2.all k), trivial⟩)
  j := allP_mem (by exact trivial)
theorem f149.sound0 (k : Nat) : SoundC env Try.prog 149 (f149.hd k) := by
  intro ps_
  show GoodC _ _ _ ps_ (f149.hd k ps_)
  unfold f149.hd
  refine gC_ok (p := GoodC env Try.prog 149 _) goodC_no fun _ _ h => ?_
  subst h
  refine qC_ok (p := GoodC env Try.prog 149 _) goodC_no fun _ h => ?_
  subst h
  refine qSl_ok (p := GoodC env Try.prog 149 _) goodC_no fun _ h => ?_
  subst h
  refine gC_ok (p := GoodC env Try.prog 149 _) goodC_no fun _ _ h => ?_
  subst h
  refine qC_ok (p := GoodC env Try.prog 149 _) goodC_no fun _ h => ?_
  subst h
  refine qS_ok (p := GoodC env Try.prog 149 _) goodC_no fun _ h => ?_
  subst h
  refine vI_ok (p := GoodC env Try.prog 149 _) goodC_no fun _ h => ?_
  subst h
  refine gE_ok (p := GoodC env Try.prog 149 _) goodC_no fun h => ?_
  subst h
  exact fun_good (fun_sound envOK (cs_sound _ (by exact trivial)) (f149.hok k) Try.func149 rfl) ((f149.ev k _ _).trans (f149.nat k _ _ _))
theorem f149.sound (k : Nat) : SoundC env Try.prog 149 (f149.e k).F := soundC_coer (f149.sound0 k) [[.rd 131], [.no]]
theorem f149.says (k : Nat) (xs1 : List S131) (a2 : Int) (t11 : Int) (h_ : f149 k xs1 a2 = some t11) : SoundAt env Try.prog 149 [.v (.c (.sl 131 xs1)), .v (.c (.s (.int .i64 a2)))] ⟨.v (.c (.s (.int .i64 t11))), [[], []]⟩ :=
  fun_sound envOK (cs_sound _ (by exact trivial)) (f149.hok k) Try.func149 rfl _ _ (((f149.ev k xs1 a2).trans (f149.nat k _ xs1 a2)).trans (by rw [h_]; rfl))
theorem f149.fnok : FnOK Try.prog 149 := fn_ok Try.func149 (by kernel_rfl) rfl
def f90.l2.step {R : Type} (k : Nat) (rec_ : (List S123) → Int → Int → Option R) (ret : ((Int × Int) ⊕ (Int)) → Option R) (xs3 : List S123) (a4 : Int) (a5 : Int) : Option R :=
  if (decide (a5 < (((List.length xs3) : Nat) : Int))) = true then
    if (0 : Int) ≤ a5 then
      if a5 < ((List.length xs3 : Nat) : Int) then
        if (decide ((List.getD xs3 (Int.toNat a5) (⟨(0 : Int), (0 : Int), [], (0 : Int), (0 : Int), (0 : Int)⟩ : S123)).f0 ≠ a4)) = true then
          ret (.inl (a4, (-1 : Int)))
        else
          if (0 : Int) ≤ a5 then
            if a5 < ((List.length xs3 : Nat) : Int) then
              if (decide ((List.getD xs3 (Int.toNat a5) (⟨(0 : Int), (0 : Int), [], (0 : Int), (0 : Int), (0 : Int)⟩ : S123)).f1 ≠ (IntKind.i64.wrap (a4 + (1 : Int))))) = true then
                ret (.inl ((IntKind.i64.wrap (a4 + (1 : Int))), (-1 : Int)))
              else
                if (0 : Int) ≤ a5 then
                  if a5 < ((List.length xs3 : Nat) : Int) then
                    (f149 k (List.getD xs3 (Int.toNat a5) (⟨(0 : Int), (0 : Int), [], (0 : Int), (0 : Int), (0 : Int)⟩ : S123)).f2 (IntKind.i64.wrap ((IntKind.i64.wrap (a4 + (1 : Int))) + (1 : Int)))).bind fun t6 => if (decide (t6 < (0 : Int))) = true then
                        ret (.inl (t6, (-1 : Int)))
                      else
                        if (0 : Int) ≤ a5 then
                          if a5 < ((List.length xs3 : Nat) : Int) then
                            if (decide ((List.getD xs3 (Int.toNat a5) (⟨(0 : Int), (0 : Int), [], (0 : Int), (0 : Int), (0 : Int)⟩ : S123)).f3 ≠ t6)) = true then
                              ret (.inl (t6, (-1 : Int)))
                            else
                              if (0 : Int) ≤ a5 then
                                if a5 < ((List.length xs3 : Nat) : Int) then
                                  if (decide ((List.getD xs3 (Int.toNat a5) (⟨(0 : Int), (0 : Int), [], (0 : Int), (0 : Int), (0 : Int)⟩ : S123)).f4 ≠ (IntKind.i64.wrap (t6 + (1 : Int))))) = true then
                                    ret (.inl ((IntKind.i64.wrap (t6 + (1 : Int))), (-1 : Int)))
                                  else
                                    if (0 : Int) ≤ a5 then
                                      if a5 < ((List.length xs3 : Nat) : Int) then
                                        if (decide ((List.getD xs3 (Int.toNat a5) (⟨(0 : Int), (0 : Int), [], (0 : Int), (0 : Int), (0 : Int)⟩ : S123)).f5 ≠ (IntKind.i64.wrap ((IntKind.i64.wrap (t6 + (1 : Int))) + (1 : Int))))) = true then
                                          ret (.inl ((IntKind.i64.wrap ((IntKind.i64.wrap (t6 + (1 : Int))) + (1 : Int))), (-1 : Int)))
                                        else
                                          rec_ xs3 (IntKind.i64.wrap ((IntKind.i64.wrap ((IntKind.i64.wrap (t6 + (1 : Int))) + (1 : Int))) + (1 : Int))) (IntKind.i64.wrap (a5 + (1 : Int)))
                                      else none
                                    else none
                                else none
                              else none
                          else none
                        else none
                  else none
                else none
            else none
          else none
      else none
    else none
  else
    ret (.inr a4)
def f90.l2 (k : Nat) : Nat → (List S123) → Int → Int → Option ((Int × Int) ⊕ (Int))
  | 0, _, _, _ => none
  | j + 1, xs3, a4, a5 => f90.l2.step k (fun xs3 a4 a5 => f90.l2 k j xs3 a4 a5) some xs3 a4 a5
def f90.l2.w {R : Type} : ((Int × Int) ⊕ (Int)) → (Exit → St env → Option R) → Option R := fun x K => Sum.elim (fun t9 => K .ret ⟨fullT [1, 4] 0 67 [.v (.c (.s (.int .i64 t9.1))), .v (.c (.s (.int .i64 t9.2)))], [], 1202⟩) (fun t10 => K (.exit 0) ⟨fullT [1] 0 67 [.v (.c (.s (.int .i64 t10)))], [], 1202⟩) x
def f90.l2.st (xs3 : List S123) (a4 : Int) (a5 : Int) : St env := ⟨fullT [0, 1, 5] 0 67 [.v (.c (.imm 123 xs3)), .v (.c (.s (.int .i64 a4))), .v (.c (.s (.int .i64 a5)))], [], 34⟩
def f90.l2.hd (k : Nat) (ts_ : List (AV env)) (mm_ : Mem env) (n_ : Nat) : LCl env :=
  gTs LCl.no [0, 1, 5] 67 ts_ fun l_ => gV LCl.no l_ fun a_ l_ => rImm LCl.no 123 a_ fun xs3 => gV LCl.no l_ fun a_ l_ => rV LCl.no a_ fun v_ => vI LCl.no .i64 v_ fun a4 => gV LCl.no l_ fun a_ l_ => rV LCl.no a_ fun v_ => vI LCl.no .i64 v_ fun a5 => gE LCl.no l_ <| gE LCl.no mm_ <| gN LCl.no 34 n_ { α := (Int × Int) ⊕ (Int), o := f90.l2 k k xs3 a4 a5, w := f90.l2.w }
def f90.step {R : Type} (k : Nat) (ret : Int → Option R) (xs1 : List S123) (a2 : Int) : Option R :=
  (f90.l2 k k xs1 a2 (0 : Int)).bind (Sum.elim (fun t7 => ret t7.2) (fun t8 => ret t8))
def f90 (k : Nat) (xs1 : List S123) (a2 : Int) : Option Int := f90.step k some xs1 a2
def f90.w {R : Type} : Int → (Res env → Option R) → Option R := fun t11 K => K ⟨.v (.c (.s (.int .i64 t11))), [[], []]⟩
theorem f90.wn (x : Int) : ∃ res, ∀ {R : Type} (K : Res env → Option R), f90.w x K = K res := by
  exact ⟨_, fun _ => rfl⟩
def f90.hd (k : Nat) (ps_ : List (P2 env)) : Cl env :=
  gC Cl.no ps_ fun p_ ps_ => qC Cl.no p_ fun c_ => qSl Cl.no 123 c_ fun xs1 => gC Cl.no ps_ fun p_ ps_ => qC Cl.no p_ fun c_ => qS Cl.no c_ fun v_ => vI Cl.no .i64 v_ fun a2 => gE Cl.no ps_ <| { α := Int, o := f90 k xs1 a2, w := f90.w, nat := fun x _ => f90.wn x }
def f90.e (k : Nat) : Entry env := ⟨fun ps => f90.hd k (coer [[.rd 123], [.no]] ps), []⟩
def f90.X (k : Nat) : Ctx env := { C := lookE [(149, f149.e k)], L := lookE [(2, fun S => f90.l2.hd k S.ts S.m S.n)], J := lookE [], keep := lookD [(2, [0, 1, 5])], keepX := lookD [(2, [1, 4])], span := lookN [(2, 1168)], eff := fun n => memN n [], prep := lookP [], np := 0 }
theorem f90.l2.nat {R : Type} (k : Nat) (rec_ : (List S123) → Int → Int → Option ((Int × Int) ⊕ (Int))) (g : ((Int × Int) ⊕ (Int)) → Option R) (xs3 : List S123) (a4 : Int) (a5 : Int) : (f90.l2.step k rec_ some xs3 a4 a5).bind g = f90.l2.step k (fun xs3 a4 a5 => (rec_ xs3 a4 a5).bind g) g xs3 a4 a5 := by
  simp only [f90.l2.step, bind_ite, bind_sum, Option.bind_assoc, Option.bind_some, Option.bind_none]
theorem f90.l2.good (k : Nat) (xs3 : List S123) (a4 : Int) (a5 : Int) : GoodL (f90.X k) (nthC 0 (loopsOf (bodyOf Try.f90))) (f90.l2.st xs3 a4 a5) { α := ((Int × Int) ⊕ (Int)), o := f90.l2 k k xs3 a4 a5, w := f90.l2.w } :=
  loop_good (ι := (List S123) × Int × Int) (α := ((Int × Int) ⊕ (Int))) (fun i => f90.l2.st i.1 i.2.1 i.2.2) (fun j i => f90.l2 k j i.1 i.2.1 i.2.2) f90.l2.w (fun rec_ ret i => f90.l2.step k (fun xs3 a4 a5 => rec_ (xs3, a4, a5)) ret i.1 i.2.1 i.2.2)
    (fun _ => rfl) (fun _ _ => rfl) (fun rec_ g i => f90.l2.nat k _ g i.1 i.2.1 i.2.2) (fun {R} i0 i rec_ K => by kernel_rfl) k (xs3, a4, a5)
theorem f90.l2.all (k : Nat) (S : St env) : GoodL (f90.X k) (nthC 0 (loopsOf (bodyOf Try.f90))) S (f90.l2.hd k S.ts S.m S.n) := by
  obtain ⟨ts_, m_, n_⟩ := S
  show GoodL _ _ _ (f90.l2.hd k ts_ m_ n_)
  unfold f90.l2.hd
  refine gTs_ok (p := GoodL _ _ _) goodL_no fun _ h => ?_
  subst h
  refine gV_ok (p := GoodL _ _ _) goodL_no fun _ _ h => ?_
  subst h
  refine rImm_ok (p := GoodL _ _ _) goodL_no fun _ h => ?_
  subst h
  refine gV_ok (p := GoodL _ _ _) goodL_no fun _ _ h => ?_
  subst h
  refine rV_ok (p := GoodL _ _ _) goodL_no fun _ h => ?_
  subst h
  refine vI_ok (p := GoodL _ _ _) goodL_no fun _ h => ?_
  subst h
  refine gV_ok (p := GoodL _ _ _) goodL_no fun _ _ h => ?_
  subst h
  refine rV_ok (p := GoodL _ _ _) goodL_no fun _ h => ?_
  subst h
  refine vI_ok (p := GoodL _ _ _) goodL_no fun _ h => ?_
  subst h
  refine gE_ok (p := GoodL _ _ _) goodL_no fun h => ?_
  subst h
  refine gE_ok (p := GoodL _ _ _) goodL_no fun h => ?_
  subst h
  refine gN_ok (p := GoodL _ _ _) goodL_no fun h => ?_
  subst h
  exact f90.l2.good k _ _ _
theorem f90.nat {R : Type} (k : Nat) (g : Int → Option R) (xs1 : List S123) (a2 : Int) : f90.step k g xs1 a2 = (f90 k xs1 a2).bind g := by
  simp only [f90, f90.step, bind_ite, bind_sum, Option.bind_assoc, Option.bind_some, Option.bind_none]
theorem f90.ev (k : Nat) (xs1 : List S123) (a2 : Int) : evF (f90.X k) (bodyOf Try.f90) Try.f90.ntmps Try.f90.results.toList [.v (.c (.sl 123 xs1)), .v (.c (.s (.int .i64 a2)))] = f90.step k (fun x => f90.w x some) xs1 a2 := by kernel_rfl
theorem f90.hok (k : Nat) : HOK (f90.X k) (bodyOf Try.f90) where
  l := allP_mem (by exact ⟨ls_of (h0 := fun S => f90.l2.hd k S.ts S.m S.n) (by kernel_rfl) (f90.l2.all k), trivial⟩)
  j := allP_mem (by exact trivial)
theorem f90.sound0 (k : Nat) : SoundC env Try.prog 90 (f90.hd k) := by
  intro ps_
  show GoodC _ _ _ ps_ (f90.hd k ps_)
  unfold f90.hd
  refine gC_ok (p := GoodC env Try.prog 90 _) goodC_no fun _ _ h => ?_
  subst h
  refine qC_ok (p := GoodC env Try.prog 90 _) goodC_no fun _ h => ?_
  subst h
  refine qSl_ok (p := GoodC env Try.prog 90 _) goodC_no fun _ h => ?_
  subst h
  refine gC_ok (p := GoodC env Try.prog 90 _) goodC_no fun _ _ h => ?_
  subst h
  refine qC_ok (p := GoodC env Try.prog 90 _) goodC_no fun _ h => ?_
  subst h
  refine qS_ok (p := GoodC env Try.prog 90 _) goodC_no fun _ h => ?_
  subst h
  refine vI_ok (p := GoodC env Try.prog 90 _) goodC_no fun _ h => ?_
  subst h
  refine gE_ok (p := GoodC env Try.prog 90 _) goodC_no fun h => ?_
  subst h
  exact fun_good (fun_sound envOK (cs_sound _ (by exact ⟨⟨f149.sound k, f149.fnok⟩, trivial⟩)) (f90.hok k) Try.func90 rfl) ((f90.ev k _ _).trans (f90.nat k _ _ _))
theorem f90.sound (k : Nat) : SoundC env Try.prog 90 (f90.e k).F := soundC_coer (f90.sound0 k) [[.rd 123], [.no]]
theorem f90.says (k : Nat) (xs1 : List S123) (a2 : Int) (t12 : Int) (h_ : f90 k xs1 a2 = some t12) : SoundAt env Try.prog 90 [.v (.c (.sl 123 xs1)), .v (.c (.s (.int .i64 a2)))] ⟨.v (.c (.s (.int .i64 t12))), [[], []]⟩ :=
  fun_sound envOK (cs_sound _ (by exact ⟨⟨f149.sound k, f149.fnok⟩, trivial⟩)) (f90.hok k) Try.func90 rfl _ _ (((f90.ev k xs1 a2).trans (f90.nat k _ xs1 a2)).trans (by rw [h_]; rfl))
theorem f90.fnok : FnOK Try.prog 90 := fn_ok Try.func90 (by kernel_rfl) rfl
def f67.l2.step {R : Type} (k : Nat) (rec_ : (List Int) → Int → Int → Option R) (ret : ((Int × Int) ⊕ (Int)) → Option R) (xs3 : List Int) (a4 : Int) (a5 : Int) : Option R :=
  if (decide (a5 < (((List.length xs3) : Nat) : Int))) = true then
    if (0 : Int) ≤ a5 then
      if a5 < ((List.length xs3 : Nat) : Int) then
        if (decide ((List.getD xs3 (Int.toNat a5) (0 : Int)) ≠ a4)) = true then
          ret (.inl (a4, (-1 : Int)))
        else
          rec_ xs3 (IntKind.i64.wrap (a4 + (1 : Int))) (IntKind.i64.wrap (a5 + (1 : Int)))
      else none
    else none
  else
    ret (.inr a4)
def f67.l2 (k : Nat) : Nat → (List Int) → Int → Int → Option ((Int × Int) ⊕ (Int))
  | 0, _, _, _ => none
  | j + 1, xs3, a4, a5 => f67.l2.step k (fun xs3 a4 a5 => f67.l2 k j xs3 a4 a5) some xs3 a4 a5
def f67.l2.w {R : Type} : ((Int × Int) ⊕ (Int)) → (Exit → St env → Option R) → Option R := fun x K => Sum.elim (fun t8 => K .ret ⟨fullT [1, 4] 0 21 [.v (.c (.s (.int .i64 t8.1))), .v (.c (.s (.int .i64 t8.2)))], [], 306⟩) (fun t9 => K (.exit 0) ⟨fullT [1] 0 21 [.v (.c (.s (.int .i64 t9)))], [], 306⟩) x
def f67.l2.st (xs3 : List Int) (a4 : Int) (a5 : Int) : St env := ⟨fullT [0, 1, 5] 0 21 [.v (.c (.imm 3 xs3)), .v (.c (.s (.int .i64 a4))), .v (.c (.s (.int .i64 a5)))], [], 34⟩
def f67.l2.hd (k : Nat) (ts_ : List (AV env)) (mm_ : Mem env) (n_ : Nat) : LCl env :=
  gTs LCl.no [0, 1, 5] 21 ts_ fun l_ => gV LCl.no l_ fun a_ l_ => rImm LCl.no 3 a_ fun xs3 => gV LCl.no l_ fun a_ l_ => rV LCl.no a_ fun v_ => vI LCl.no .i64 v_ fun a4 => gV LCl.no l_ fun a_ l_ => rV LCl.no a_ fun v_ => vI LCl.no .i64 v_ fun a5 => gE LCl.no l_ <| gE LCl.no mm_ <| gN LCl.no 34 n_ { α := (Int × Int) ⊕ (Int), o := f67.l2 k k xs3 a4 a5, w := f67.l2.w }
def f67.step {R : Type} (k : Nat) (ret : Int → Option R) (xs1 : List Int) (a2 : Int) : Option R :=
  (f67.l2 k k xs1 a2 (0 : Int)).bind (Sum.elim (fun t6 => ret t6.2) (fun t7 => ret t7))
def f67 (k : Nat) (xs1 : List Int) (a2 : Int) : Option Int := f67.step k some xs1 a2
def f67.w {R : Type} : Int → (Res env → Option R) → Option R := fun t10 K => K ⟨.v (.c (.s (.int .i64 t10))), [[], []]⟩
theorem f67.wn (x : Int) : ∃ res, ∀ {R : Type} (K : Res env → Option R), f67.w x K = K res := by
  exact ⟨_, fun _ => rfl⟩
def f67.hd (k : Nat) (ps_ : List (P2 env)) : Cl env :=
  gC Cl.no ps_ fun p_ ps_ => qC Cl.no p_ fun c_ => qSl Cl.no 3 c_ fun xs1 => gC Cl.no ps_ fun p_ ps_ => qC Cl.no p_ fun c_ => qS Cl.no c_ fun v_ => vI Cl.no .i64 v_ fun a2 => gE Cl.no ps_ <| { α := Int, o := f67 k xs1 a2, w := f67.w, nat := fun x _ => f67.wn x }
def f67.e (k : Nat) : Entry env := ⟨fun ps => f67.hd k (coer [[.rd 3], [.no]] ps), []⟩
def f67.X (k : Nat) : Ctx env := { C := lookE [], L := lookE [(2, fun S => f67.l2.hd k S.ts S.m S.n)], J := lookE [], keep := lookD [(2, [0, 1, 5])], keepX := lookD [(2, [1, 4])], span := lookN [(2, 272)], eff := fun n => memN n [], prep := lookP [], np := 0 }
theorem f67.l2.nat {R : Type} (k : Nat) (rec_ : (List Int) → Int → Int → Option ((Int × Int) ⊕ (Int))) (g : ((Int × Int) ⊕ (Int)) → Option R) (xs3 : List Int) (a4 : Int) (a5 : Int) : (f67.l2.step k rec_ some xs3 a4 a5).bind g = f67.l2.step k (fun xs3 a4 a5 => (rec_ xs3 a4 a5).bind g) g xs3 a4 a5 := by
  simp only [f67.l2.step, bind_ite, bind_sum, Option.bind_assoc, Option.bind_some, Option.bind_none]
theorem f67.l2.good (k : Nat) (xs3 : List Int) (a4 : Int) (a5 : Int) : GoodL (f67.X k) (nthC 0 (loopsOf (bodyOf Try.f67))) (f67.l2.st xs3 a4 a5) { α := ((Int × Int) ⊕ (Int)), o := f67.l2 k k xs3 a4 a5, w := f67.l2.w } :=
  loop_good (ι := (List Int) × Int × Int) (α := ((Int × Int) ⊕ (Int))) (fun i => f67.l2.st i.1 i.2.1 i.2.2) (fun j i => f67.l2 k j i.1 i.2.1 i.2.2) f67.l2.w (fun rec_ ret i => f67.l2.step k (fun xs3 a4 a5 => rec_ (xs3, a4, a5)) ret i.1 i.2.1 i.2.2)
    (fun _ => rfl) (fun _ _ => rfl) (fun rec_ g i => f67.l2.nat k _ g i.1 i.2.1 i.2.2) (fun {R} i0 i rec_ K => by kernel_rfl) k (xs3, a4, a5)
theorem f67.l2.all (k : Nat) (S : St env) : GoodL (f67.X k) (nthC 0 (loopsOf (bodyOf Try.f67))) S (f67.l2.hd k S.ts S.m S.n) := by
  obtain ⟨ts_, m_, n_⟩ := S
  show GoodL _ _ _ (f67.l2.hd k ts_ m_ n_)
  unfold f67.l2.hd
  refine gTs_ok (p := GoodL _ _ _) goodL_no fun _ h => ?_
  subst h
  refine gV_ok (p := GoodL _ _ _) goodL_no fun _ _ h => ?_
  subst h
  refine rImm_ok (p := GoodL _ _ _) goodL_no fun _ h => ?_
  subst h
  refine gV_ok (p := GoodL _ _ _) goodL_no fun _ _ h => ?_
  subst h
  refine rV_ok (p := GoodL _ _ _) goodL_no fun _ h => ?_
  subst h
  refine vI_ok (p := GoodL _ _ _) goodL_no fun _ h => ?_
  subst h
  refine gV_ok (p := GoodL _ _ _) goodL_no fun _ _ h => ?_
  subst h
  refine rV_ok (p := GoodL _ _ _) goodL_no fun _ h => ?_
  subst h
  refine vI_ok (p := GoodL _ _ _) goodL_no fun _ h => ?_
  subst h
  refine gE_ok (p := GoodL _ _ _) goodL_no fun h => ?_
  subst h
  refine gE_ok (p := GoodL _ _ _) goodL_no fun h => ?_
  subst h
  refine gN_ok (p := GoodL _ _ _) goodL_no fun h => ?_
  subst h
  exact f67.l2.good k _ _ _
theorem f67.nat {R : Type} (k : Nat) (g : Int → Option R) (xs1 : List Int) (a2 : Int) : f67.step k g xs1 a2 = (f67 k xs1 a2).bind g := by
  simp only [f67, f67.step, bind_ite, bind_sum, Option.bind_assoc, Option.bind_some, Option.bind_none]
theorem f67.ev (k : Nat) (xs1 : List Int) (a2 : Int) : evF (f67.X k) (bodyOf Try.f67) Try.f67.ntmps Try.f67.results.toList [.v (.c (.sl 3 xs1)), .v (.c (.s (.int .i64 a2)))] = f67.step k (fun x => f67.w x some) xs1 a2 := by kernel_rfl
theorem f67.hok (k : Nat) : HOK (f67.X k) (bodyOf Try.f67) where
  l := allP_mem (by exact ⟨ls_of (h0 := fun S => f67.l2.hd k S.ts S.m S.n) (by kernel_rfl) (f67.l2.all k), trivial⟩)
  j := allP_mem (by exact trivial)
theorem f67.sound0 (k : Nat) : SoundC env Try.prog 67 (f67.hd k) := by
  intro ps_
  show GoodC _ _ _ ps_ (f67.hd k ps_)
  unfold f67.hd
  refine gC_ok (p := GoodC env Try.prog 67 _) goodC_no fun _ _ h => ?_
  subst h
  refine qC_ok (p := GoodC env Try.prog 67 _) goodC_no fun _ h => ?_
  subst h
  refine qSl_ok (p := GoodC env Try.prog 67 _) goodC_no fun _ h => ?_
  subst h
  refine gC_ok (p := GoodC env Try.prog 67 _) goodC_no fun _ _ h => ?_
  subst h
  refine qC_ok (p := GoodC env Try.prog 67 _) goodC_no fun _ h => ?_
  subst h
  refine qS_ok (p := GoodC env Try.prog 67 _) goodC_no fun _ h => ?_
  subst h
  refine vI_ok (p := GoodC env Try.prog 67 _) goodC_no fun _ h => ?_
  subst h
  refine gE_ok (p := GoodC env Try.prog 67 _) goodC_no fun h => ?_
  subst h
  exact fun_good (fun_sound envOK (cs_sound _ (by exact trivial)) (f67.hok k) Try.func67 rfl) ((f67.ev k _ _).trans (f67.nat k _ _ _))
theorem f67.sound (k : Nat) : SoundC env Try.prog 67 (f67.e k).F := soundC_coer (f67.sound0 k) [[.rd 3], [.no]]
theorem f67.says (k : Nat) (xs1 : List Int) (a2 : Int) (t11 : Int) (h_ : f67 k xs1 a2 = some t11) : SoundAt env Try.prog 67 [.v (.c (.sl 3 xs1)), .v (.c (.s (.int .i64 a2)))] ⟨.v (.c (.s (.int .i64 t11))), [[], []]⟩ :=
  fun_sound envOK (cs_sound _ (by exact trivial)) (f67.hok k) Try.func67 rfl _ _ (((f67.ev k xs1 a2).trans (f67.nat k _ xs1 a2)).trans (by rw [h_]; rfl))
theorem f67.fnok : FnOK Try.prog 67 := fn_ok Try.func67 (by kernel_rfl) rfl
def f28.step {R : Type} (k : Nat) (ret : Int → Option R) (xs1 : List S123) (xs2 : List Int) (b3 : Bool) (a4 : Int) : Option R :=
  (f90 k xs1 a4).bind fun t5 => if (decide (t5 < (0 : Int))) = true then
      ret (-1 : Int)
    else
      (f67 k xs2 t5).bind fun t6 => if (decide (t6 < (0 : Int))) = true then
          ret (-1 : Int)
        else
          ret t6
def f28 (k : Nat) (xs1 : List S123) (xs2 : List Int) (b3 : Bool) (a4 : Int) : Option Int := f28.step k some xs1 xs2 b3 a4
def f28.w {R : Type} : Int → (Res env → Option R) → Option R := fun t7 K => K ⟨.v (.c (.s (.int .i64 t7))), [[], []]⟩
theorem f28.wn (x : Int) : ∃ res, ∀ {R : Type} (K : Res env → Option R), f28.w x K = K res := by
  exact ⟨_, fun _ => rfl⟩
def f28.hd (k : Nat) (ps_ : List (P2 env)) : Cl env :=
  gC Cl.no ps_ fun p_ ps_ => qG Cl.no p_ fun cs_ => gC Cl.no cs_ fun c_ cs_ => qSl Cl.no 123 c_ fun xs1 => gC Cl.no cs_ fun c_ cs_ => qSl Cl.no 3 c_ fun xs2 => gC Cl.no cs_ fun c_ cs_ => qS Cl.no c_ fun v_ => vB Cl.no v_ fun b3 => gE Cl.no cs_ <| gC Cl.no ps_ fun p_ ps_ => qC Cl.no p_ fun c_ => qS Cl.no c_ fun v_ => vI Cl.no .i64 v_ fun a4 => gE Cl.no ps_ <| { α := Int, o := f28 k xs1 xs2 b3 a4, w := f28.w, nat := fun x _ => f28.wn x }
def f28.e (k : Nat) : Entry env := ⟨fun ps => f28.hd k (coer [[.rd 123, .rd 3, .no], [.no]] ps), []⟩
def f28.X (k : Nat) : Ctx env := { C := lookE [(67, f67.e k), (90, f90.e k)], L := lookE [], J := lookE [], keep := lookD [], keepX := lookD [], span := lookN [], eff := fun n => memN n [], prep := lookP [], np := 0 }
theorem f28.nat {R : Type} (k : Nat) (g : Int → Option R) (xs1 : List S123) (xs2 : List Int) (b3 : Bool) (a4 : Int) : f28.step k g xs1 xs2 b3 a4 = (f28 k xs1 xs2 b3 a4).bind g := by
  simp only [f28, f28.step, bind_ite, bind_sum, Option.bind_assoc, Option.bind_some, Option.bind_none]
theorem f28.ev (k : Nat) (xs1 : List S123) (xs2 : List Int) (b3 : Bool) (a4 : Int) : evF (f28.X k) (bodyOf Try.f28) Try.f28.ntmps Try.f28.results.toList [.g [.sl 123 xs1, .sl 3 xs2, .s (.bool b3)], .v (.c (.s (.int .i64 a4)))] = f28.step k (fun x => f28.w x some) xs1 xs2 b3 a4 := by kernel_rfl
theorem f28.hok (k : Nat) : HOK (f28.X k) (bodyOf Try.f28) where
  l := allP_mem (by exact trivial)
  j := allP_mem (by exact trivial)
theorem f28.sound0 (k : Nat) : SoundC env Try.prog 28 (f28.hd k) := by
  intro ps_
  show GoodC _ _ _ ps_ (f28.hd k ps_)
  unfold f28.hd
  refine gC_ok (p := GoodC env Try.prog 28 _) goodC_no fun _ _ h => ?_
  subst h
  refine qG_ok (p := GoodC env Try.prog 28 _) goodC_no fun _ h => ?_
  subst h
  refine gC_ok (p := GoodC env Try.prog 28 _) goodC_no fun _ _ h => ?_
  subst h
  refine qSl_ok (p := GoodC env Try.prog 28 _) goodC_no fun _ h => ?_
  subst h
  refine gC_ok (p := GoodC env Try.prog 28 _) goodC_no fun _ _ h => ?_
  subst h
  refine qSl_ok (p := GoodC env Try.prog 28 _) goodC_no fun _ h => ?_
  subst h
  refine gC_ok (p := GoodC env Try.prog 28 _) goodC_no fun _ _ h => ?_
  subst h
  refine qS_ok (p := GoodC env Try.prog 28 _) goodC_no fun _ h => ?_
  subst h
  refine vB_ok (p := GoodC env Try.prog 28 _) goodC_no fun _ h => ?_
  subst h
  refine gE_ok (p := GoodC env Try.prog 28 _) goodC_no fun h => ?_
  subst h
  refine gC_ok (p := GoodC env Try.prog 28 _) goodC_no fun _ _ h => ?_
  subst h
  refine qC_ok (p := GoodC env Try.prog 28 _) goodC_no fun _ h => ?_
  subst h
  refine qS_ok (p := GoodC env Try.prog 28 _) goodC_no fun _ h => ?_
  subst h
  refine vI_ok (p := GoodC env Try.prog 28 _) goodC_no fun _ h => ?_
  subst h
  refine gE_ok (p := GoodC env Try.prog 28 _) goodC_no fun h => ?_
  subst h
  exact fun_good (fun_sound envOK (cs_sound _ (by exact ⟨⟨f67.sound k, f67.fnok⟩, ⟨f90.sound k, f90.fnok⟩, trivial⟩)) (f28.hok k) Try.func28 rfl) ((f28.ev k _ _ _ _).trans (f28.nat k _ _ _ _ _))
theorem f28.sound (k : Nat) : SoundC env Try.prog 28 (f28.e k).F := soundC_coer (f28.sound0 k) [[.rd 123, .rd 3, .no], [.no]]
theorem f28.says (k : Nat) (xs1 : List S123) (xs2 : List Int) (b3 : Bool) (a4 : Int) (t8 : Int) (h_ : f28 k xs1 xs2 b3 a4 = some t8) : SoundAt env Try.prog 28 [.g [.sl 123 xs1, .sl 3 xs2, .s (.bool b3)], .v (.c (.s (.int .i64 a4)))] ⟨.v (.c (.s (.int .i64 t8))), [[], []]⟩ :=
  fun_sound envOK (cs_sound _ (by exact ⟨⟨f67.sound k, f67.fnok⟩, ⟨f90.sound k, f90.fnok⟩, trivial⟩)) (f28.hok k) Try.func28 rfl _ _ (((f28.ev k xs1 xs2 b3 a4).trans (f28.nat k _ xs1 xs2 b3 a4)).trans (by rw [h_]; rfl))
theorem f28.fnok : FnOK Try.prog 28 := fn_ok Try.func28 (by kernel_rfl) rfl
def f4.step {R : Type} (k : Nat) (ret : Bool → Option R) (xs1 : List Int) (xs2 : List Int) : Option R :=
  if (decide ((((List.length xs1) : Nat) : Int) > (1048576 : Int))) = true then
    ret true
  else
    if (decide ((((List.length xs2) : Nat) : Int) > (1048576 : Int))) = true then
      ret true
    else
      (f22 k xs1).bind fun t3 => (f22 k xs2).bind fun t4 => (f21 k t3 t4).bind (Sum.elim (fun t5 => (f22 k xs1).bind fun t6 => (f22 k xs2).bind fun t7 => (f23 k t6 t7).bind (Sum.elim (fun t8 => (f24 k ([] : List S123) ([] : List Int) t8.1 ([] : List S123) ([] : List Int) t5.1).bind fun t9 => if (!t9) = false then
                      if (decide (t8.2 ≠ t5.2)) = true then
                        ret false
                      else
                        (f22 k xs1).bind fun t10 => (f25 k t6 t10).bind fun t11 => if (!t11) = true then
                              ret false
                            else
                              (f22 k xs2).bind fun t12 => (f25 k t7 t12).bind fun t13 => if (!t13) = true then
                                    ret false
                                  else
                                    (f26 k t6 (1 : Int)).bind fun t14 => (f26 k t7 t14.1).bind fun t15 => if (decide (t15.1 < (0 : Int))) = false then
                                          (f24 k ([] : List S123) ([] : List Int) t8.1 ([] : List S123) ([] : List Int) t5.1).bind fun t16 => if (!t16) = false then
                                              if (decide (t8.2 ≠ t5.2)) = true then
                                                ret false
                                              else
                                                (f27 k ([] : List S123) ([] : List Int) t8.1 (1 : Int)).bind fun t17 => (f28 k ([] : List S123) ([] : List Int) t8.1 (1 : Int)).bind fun t18 => if (decide (t18 < (0 : Int))) = true then
                                                      ret false
                                                    else
                                                      if (decide (t18 ≠ t17.1)) = true then
                                                        ret false
                                                      else
                                                        (f22 k xs1).bind fun t19 => (f22 k xs2).bind fun t20 => (f23 k t19 t20).bind (Sum.elim (fun t21 => (f24 k ([] : List S123) ([] : List Int) t21.1 ([] : List S123) ([] : List Int) t5.1).bind fun t22 => if (!t22) = false then
                                                                  if (decide (t21.2 ≠ t5.2)) = true then
                                                                    ret false
                                                                  else
                                                                    (f28 k ([] : List S123) ([] : List Int) t8.1 (1 : Int)).bind fun t23 => if (decide (t23 < (0 : Int))) = true then
                                                                        ret false
                                                                      else
                                                                        if (decide (t23 ≠ t17.1)) = true then
                                                                          ret false
                                                                        else
                                                                          ret true
                                                                else
                                                                  ret false) (fun t24 => (f24 k t24.1 ([] : List Int) t24.2.1 ([] : List S123) ([] : List Int) t5.1).bind fun t25 => if (!t25) = false then
                                                                  if (decide (t24.2.2 ≠ t5.2)) = true then
                                                                    ret false
                                                                  else
                                                                    (f28 k ([] : List S123) ([] : List Int) t8.1 (1 : Int)).bind fun t26 => if (decide (t26 < (0 : Int))) = true then
                                                                        ret false
                                                                      else
                                                                        if (decide (t26 ≠ t17.1)) = true then
                                                                          ret false
                                                                        else
                                                                          ret true
                                                                else
                                                                  ret false))
                                            else
                                              ret false
                                        else
                                          ret false
                    else
                      ret false) (fun t27 => (f24 k t27.1 ([] : List Int) t27.2.1 ([] : List S123) ([] : List Int) t5.1).bind fun t28 => if (!t28) = false then
                      if (decide (t27.2.2 ≠ t5.2)) = true then
                        ret false
                      else
                        (f22 k xs1).bind fun t29 => (f25 k t6 t29).bind fun t30 => if (!t30) = true then
                              ret false
                            else
                              (f22 k xs2).bind fun t31 => (f25 k t7 t31).bind fun t32 => if (!t32) = true then
                                    ret false
                                  else
                                    (f26 k t6 (1 : Int)).bind fun t33 => (f26 k t7 t33.1).bind fun t34 => if (decide (t34.1 < (0 : Int))) = false then
                                          (f24 k t27.1 ([] : List Int) t27.2.1 ([] : List S123) ([] : List Int) t5.1).bind fun t35 => if (!t35) = false then
                                              if (decide (t27.2.2 ≠ t5.2)) = true then
                                                ret false
                                              else
                                                (f27 k t27.1 ([] : List Int) t27.2.1 (1 : Int)).bind fun t36 => (f28 k t36.2.1 ([] : List Int) t27.2.1 (1 : Int)).bind fun t37 => if (decide (t37 < (0 : Int))) = true then
                                                      ret false
                                                    else
                                                      if (decide (t37 ≠ t36.1)) = true then
                                                        ret false
                                                      else
                                                        (f22 k xs1).bind fun t38 => (f22 k xs2).bind fun t39 => (f23 k t38 t39).bind (Sum.elim (fun t40 => (f24 k ([] : List S123) ([] : List Int) t40.1 ([] : List S123) ([] : List Int) t5.1).bind fun t41 => if (!t41) = false then
                                                                  if (decide (t40.2 ≠ t5.2)) = true then
                                                                    ret false
                                                                  else
                                                                    (f28 k t36.2.1 ([] : List Int) t27.2.1 (1 : Int)).bind fun t42 => if (decide (t42 < (0 : Int))) = true then
                                                                        ret false
                                                                      else
                                                                        if (decide (t42 ≠ t36.1)) = true then
                                                                          ret false
                                                                        else
                                                                          ret true
                                                                else
                                                                  ret false) (fun t43 => (f24 k t43.1 ([] : List Int) t43.2.1 ([] : List S123) ([] : List Int) t5.1).bind fun t44 => if (!t44) = false then
                                                                  if (decide (t43.2.2 ≠ t5.2)) = true then
                                                                    ret false
                                                                  else
                                                                    (f28 k t36.2.1 ([] : List Int) t27.2.1 (1 : Int)).bind fun t45 => if (decide (t45 < (0 : Int))) = true then
                                                                        ret false
                                                                      else
                                                                        if (decide (t45 ≠ t36.1)) = true then
                                                                          ret false
                                                                        else
                                                                          ret true
                                                                else
                                                                  ret false))
                                            else
                                              ret false
                                        else
                                          ret false
                    else
                      ret false))) (fun t46 => (f22 k xs1).bind fun t47 => (f22 k xs2).bind fun t48 => (f23 k t47 t48).bind (Sum.elim (fun t49 => (f24 k ([] : List S123) ([] : List Int) t49.1 t46.1 ([] : List Int) t46.2.1).bind fun t50 => if (!t50) = false then
                      if (decide (t49.2 ≠ t46.2.2)) = true then
                        ret false
                      else
                        (f22 k xs1).bind fun t51 => (f25 k t47 t51).bind fun t52 => if (!t52) = true then
                              ret false
                            else
                              (f22 k xs2).bind fun t53 => (f25 k t48 t53).bind fun t54 => if (!t54) = true then
                                    ret false
                                  else
                                    (f26 k t47 (1 : Int)).bind fun t55 => (f26 k t48 t55.1).bind fun t56 => if (decide (t56.1 < (0 : Int))) = false then
                                          (f24 k ([] : List S123) ([] : List Int) t49.1 t46.1 ([] : List Int) t46.2.1).bind fun t57 => if (!t57) = false then
                                              if (decide (t49.2 ≠ t46.2.2)) = true then
                                                ret false
                                              else
                                                (f27 k ([] : List S123) ([] : List Int) t49.1 (1 : Int)).bind fun t58 => (f28 k ([] : List S123) ([] : List Int) t49.1 (1 : Int)).bind fun t59 => if (decide (t59 < (0 : Int))) = true then
                                                      ret false
                                                    else
                                                      if (decide (t59 ≠ t58.1)) = true then
                                                        ret false
                                                      else
                                                        (f22 k xs1).bind fun t60 => (f22 k xs2).bind fun t61 => (f23 k t60 t61).bind (Sum.elim (fun t62 => (f24 k ([] : List S123) ([] : List Int) t62.1 t46.1 ([] : List Int) t46.2.1).bind fun t63 => if (!t63) = false then
                                                                  if (decide (t62.2 ≠ t46.2.2)) = true then
                                                                    ret false
                                                                  else
                                                                    (f28 k ([] : List S123) ([] : List Int) t49.1 (1 : Int)).bind fun t64 => if (decide (t64 < (0 : Int))) = true then
                                                                        ret false
                                                                      else
                                                                        if (decide (t64 ≠ t58.1)) = true then
                                                                          ret false
                                                                        else
                                                                          ret true
                                                                else
                                                                  ret false) (fun t65 => (f24 k t65.1 ([] : List Int) t65.2.1 t46.1 ([] : List Int) t46.2.1).bind fun t66 => if (!t66) = false then
                                                                  if (decide (t65.2.2 ≠ t46.2.2)) = true then
                                                                    ret false
                                                                  else
                                                                    (f28 k ([] : List S123) ([] : List Int) t49.1 (1 : Int)).bind fun t67 => if (decide (t67 < (0 : Int))) = true then
                                                                        ret false
                                                                      else
                                                                        if (decide (t67 ≠ t58.1)) = true then
                                                                          ret false
                                                                        else
                                                                          ret true
                                                                else
                                                                  ret false))
                                            else
                                              ret false
                                        else
                                          ret false
                    else
                      ret false) (fun t68 => (f24 k t68.1 ([] : List Int) t68.2.1 t46.1 ([] : List Int) t46.2.1).bind fun t69 => if (!t69) = false then
                      if (decide (t68.2.2 ≠ t46.2.2)) = true then
                        ret false
                      else
                        (f22 k xs1).bind fun t70 => (f25 k t47 t70).bind fun t71 => if (!t71) = true then
                              ret false
                            else
                              (f22 k xs2).bind fun t72 => (f25 k t48 t72).bind fun t73 => if (!t73) = true then
                                    ret false
                                  else
                                    (f26 k t47 (1 : Int)).bind fun t74 => (f26 k t48 t74.1).bind fun t75 => if (decide (t75.1 < (0 : Int))) = false then
                                          (f24 k t68.1 ([] : List Int) t68.2.1 t46.1 ([] : List Int) t46.2.1).bind fun t76 => if (!t76) = false then
                                              if (decide (t68.2.2 ≠ t46.2.2)) = true then
                                                ret false
                                              else
                                                (f27 k t68.1 ([] : List Int) t68.2.1 (1 : Int)).bind fun t77 => (f28 k t77.2.1 ([] : List Int) t68.2.1 (1 : Int)).bind fun t78 => if (decide (t78 < (0 : Int))) = true then
                                                      ret false
                                                    else
                                                      if (decide (t78 ≠ t77.1)) = true then
                                                        ret false
                                                      else
                                                        (f22 k xs1).bind fun t79 => (f22 k xs2).bind fun t80 => (f23 k t79 t80).bind (Sum.elim (fun t81 => (f24 k ([] : List S123) ([] : List Int) t81.1 t46.1 ([] : List Int) t46.2.1).bind fun t82 => if (!t82) = false then
                                                                  if (decide (t81.2 ≠ t46.2.2)) = true then
                                                                    ret false
                                                                  else
                                                                    (f28 k t77.2.1 ([] : List Int) t68.2.1 (1 : Int)).bind fun t83 => if (decide (t83 < (0 : Int))) = true then
                                                                        ret false
                                                                      else
                                                                        if (decide (t83 ≠ t77.1)) = true then
                                                                          ret false
                                                                        else
                                                                          ret true
                                                                else
                                                                  ret false) (fun t84 => (f24 k t84.1 ([] : List Int) t84.2.1 t46.1 ([] : List Int) t46.2.1).bind fun t85 => if (!t85) = false then
                                                                  if (decide (t84.2.2 ≠ t46.2.2)) = true then
                                                                    ret false
                                                                  else
                                                                    (f28 k t77.2.1 ([] : List Int) t68.2.1 (1 : Int)).bind fun t86 => if (decide (t86 < (0 : Int))) = true then
                                                                        ret false
                                                                      else
                                                                        if (decide (t86 ≠ t77.1)) = true then
                                                                          ret false
                                                                        else
                                                                          ret true
                                                                else
                                                                  ret false))
                                            else
                                              ret false
                                        else
                                          ret false
                    else
                      ret false))))
def f4 (k : Nat) (xs1 : List Int) (xs2 : List Int) : Option Bool := f4.step k some xs1 xs2
def f4.w {R : Type} : Bool → (Res env → Option R) → Option R := fun t87 K => K ⟨.v (.c (.s (.bool t87))), [[], []]⟩
theorem f4.wn (x : Bool) : ∃ res, ∀ {R : Type} (K : Res env → Option R), f4.w x K = K res := by
  exact ⟨_, fun _ => rfl⟩
def f4.hd (k : Nat) (ps_ : List (P2 env)) : Cl env :=
  gC Cl.no ps_ fun p_ ps_ => qC Cl.no p_ fun c_ => qSl Cl.no 3 c_ fun xs1 => gC Cl.no ps_ fun p_ ps_ => qC Cl.no p_ fun c_ => qSl Cl.no 3 c_ fun xs2 => gE Cl.no ps_ <| { α := Bool, o := f4 k xs1 xs2, w := f4.w, nat := fun x _ => f4.wn x }
def f4.e (k : Nat) : Entry env := ⟨fun ps => f4.hd k (coer [[.rd 3], [.rd 3]] ps), []⟩
def f4.X (k : Nat) : Ctx env := { C := lookE [(21, f21.e k), (22, f22.e k), (23, f23.e k), (24, f24.e k), (25, f25.e k), (26, f26.e k), (27, f27.e k), (28, f28.e k)], L := lookE [], J := lookE [], keep := lookD [], keepX := lookD [], span := lookN [], eff := fun n => memN n [], prep := lookP [], np := 0 }
theorem f4.nat {R : Type} (k : Nat) (g : Bool → Option R) (xs1 : List Int) (xs2 : List Int) : f4.step k g xs1 xs2 = (f4 k xs1 xs2).bind g := by
  simp only [f4, f4.step, bind_ite, bind_sum, Option.bind_assoc, Option.bind_some, Option.bind_none]
theorem f4.ev (k : Nat) (xs1 : List Int) (xs2 : List Int) : evF (f4.X k) (bodyOf Try.f4) Try.f4.ntmps Try.f4.results.toList [.v (.c (.sl 3 xs1)), .v (.c (.sl 3 xs2))] = f4.step k (fun x => f4.w x some) xs1 xs2 := by kernel_rfl
theorem f4.hok (k : Nat) : HOK (f4.X k) (bodyOf Try.f4) where
  l := allP_mem (by exact trivial)
  j := allP_mem (by exact trivial)
theorem f4.sound0 (k : Nat) : SoundC env Try.prog 4 (f4.hd k) := by
  intro ps_
  show GoodC _ _ _ ps_ (f4.hd k ps_)
  unfold f4.hd
  refine gC_ok (p := GoodC env Try.prog 4 _) goodC_no fun _ _ h => ?_
  subst h
  refine qC_ok (p := GoodC env Try.prog 4 _) goodC_no fun _ h => ?_
  subst h
  refine qSl_ok (p := GoodC env Try.prog 4 _) goodC_no fun _ h => ?_
  subst h
  refine gC_ok (p := GoodC env Try.prog 4 _) goodC_no fun _ _ h => ?_
  subst h
  refine qC_ok (p := GoodC env Try.prog 4 _) goodC_no fun _ h => ?_
  subst h
  refine qSl_ok (p := GoodC env Try.prog 4 _) goodC_no fun _ h => ?_
  subst h
  refine gE_ok (p := GoodC env Try.prog 4 _) goodC_no fun h => ?_
  subst h
  exact fun_good (fun_sound envOK (cs_sound _ (by exact ⟨⟨f21.sound k, f21.fnok⟩, ⟨f22.sound k, f22.fnok⟩, ⟨f23.sound k, f23.fnok⟩, ⟨f24.sound k, f24.fnok⟩, ⟨f25.sound k, f25.fnok⟩, ⟨f26.sound k, f26.fnok⟩, ⟨f27.sound k, f27.fnok⟩, ⟨f28.sound k, f28.fnok⟩, trivial⟩)) (f4.hok k) Try.func4 rfl) ((f4.ev k _ _).trans (f4.nat k _ _ _))
theorem f4.sound (k : Nat) : SoundC env Try.prog 4 (f4.e k).F := soundC_coer (f4.sound0 k) [[.rd 3], [.rd 3]]
theorem f4.says (k : Nat) (xs1 : List Int) (xs2 : List Int) (t88 : Bool) (h_ : f4 k xs1 xs2 = some t88) : SoundAt env Try.prog 4 [.v (.c (.sl 3 xs1)), .v (.c (.sl 3 xs2))] ⟨.v (.c (.s (.bool t88))), [[], []]⟩ :=
  fun_sound envOK (cs_sound _ (by exact ⟨⟨f21.sound k, f21.fnok⟩, ⟨f22.sound k, f22.fnok⟩, ⟨f23.sound k, f23.fnok⟩, ⟨f24.sound k, f24.fnok⟩, ⟨f25.sound k, f25.fnok⟩, ⟨f26.sound k, f26.fnok⟩, ⟨f27.sound k, f27.fnok⟩, ⟨f28.sound k, f28.fnok⟩, trivial⟩)) (f4.hok k) Try.func4 rfl _ _ (((f4.ev k xs1 xs2).trans (f4.nat k _ xs1 xs2)).trans (by rw [h_]; rfl))
theorem f4.fnok : FnOK Try.prog 4 := fn_ok Try.func4 (by kernel_rfl) rfl
end Go.Proofs.Ytildepkogbcdpaa.B

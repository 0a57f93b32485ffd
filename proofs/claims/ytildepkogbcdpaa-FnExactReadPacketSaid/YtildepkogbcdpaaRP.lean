/- Written by a program of this session. -/
import Derived.Test.YtildepkogbcdpaaBEnv
import Derived.Test.YtildepkogbcdpaaBHd
namespace Go.Proofs.Ytildepkogbcdpaa.B
open Go Go.B
set_option linter.unusedVariables false
set_option linter.unusedSimpArgs false
def f30.l3.step {R : Type} (k : Nat) (rec_ : (List Int) → Int → (List Int) → Option R) (ret : ((List Int)) → Option R) (xs2 : List Int) (a3 : Int) (xs4 : List Int) : Option R :=
  if (decide (a3 < (((List.length xs2) : Nat) : Int))) = true then
    if (0 : Int) ≤ a3 then
      if a3 < ((List.length xs2 : Nat) : Int) then
        if (0 : Int) ≤ a3 then
          if a3 < ((List.length xs4 : Nat) : Int) then
            rec_ xs2 (IntKind.i64.wrap (a3 + (1 : Int))) (List.set xs4 (Int.toNat a3) (List.getD xs2 (Int.toNat a3) (0 : Int)))
          else none
        else none
      else none
    else none
  else
    ret xs4
def f30.l3 (k : Nat) : Nat → (List Int) → Int → (List Int) → Option ((List Int))
  | 0, _, _, _ => none
  | j + 1, xs2, a3, xs4 => f30.l3.step k (fun xs2 a3 xs4 => f30.l3 k j xs2 a3 xs4) some xs2 a3 xs4
def f30.l3.w {R : Type} : ((List Int)) → (Exit → St env → Option R) → Option R := fun t6 K => K (.exit 0) ⟨fullT [3] 0 22 [.v (.c (.row 49))], [(49, .row true 5 t6)], 337⟩
def f30.l3.st (xs2 : List Int) (a3 : Int) (xs4 : List Int) : St env := ⟨fullT [0, 3, 4] 0 22 [.v (.c (.imm 5 xs2)), .v (.c (.row 49)), .v (.c (.s (.int .i64 a3)))], [(49, .row true 5 xs4)], 97⟩
def f30.l3.hd (k : Nat) (ts_ : List (AV env)) (mm_ : Mem env) (n_ : Nat) : LCl env :=
  gTs LCl.no [0, 3, 4] 22 ts_ fun l_ => gV LCl.no l_ fun a_ l_ => rImm LCl.no 5 a_ fun xs2 => gV LCl.no l_ fun a_ l_ => rRow LCl.no 49 a_ <| gV LCl.no l_ fun a_ l_ => rV LCl.no a_ fun v_ => vI LCl.no .i64 v_ fun a3 => gE LCl.no l_ <| mRow LCl.no 49 true 5 mm_ fun xs4 m_ => gE LCl.no m_ <| gN LCl.no 97 n_ { α := (List Int), o := f30.l3 k k xs2 a3 xs4, w := f30.l3.w }
def f30.step {R : Type} (k : Nat) (ret : ((List Int)) → Option R) (xs1 : List Int) : Option R :=
  if (0 : Int) ≤ (((List.length xs1) : Nat) : Int) then
    if (Int.toNat (((List.length xs1) : Nat) : Int)) * 1 ≤ maxN then
      (f30.l3 k k xs1 (0 : Int) (List.replicate (Int.toNat (((List.length xs1) : Nat) : Int)) (0 : Int))).bind fun t5 => ret t5
    else none
  else none
def f30 (k : Nat) (xs1 : List Int) : Option ((List Int)) := f30.step k some xs1
def f30.w {R : Type} : ((List Int)) → (Res env → Option R) → Option R := fun t7 K => K ⟨.v (.c (.own true 5 t7)), [[]]⟩
theorem f30.wn (x : ((List Int))) : ∃ res, ∀ {R : Type} (K : Res env → Option R), f30.w x K = K res := by
  exact ⟨_, fun _ => rfl⟩
def f30.hd (k : Nat) (ps_ : List (P2 env)) : Cl env :=
  gC Cl.no ps_ fun p_ ps_ => qC Cl.no p_ fun c_ => qSl Cl.no 5 c_ fun xs1 => gE Cl.no ps_ <| { α := (List Int), o := f30 k xs1, w := f30.w, nat := fun x _ => f30.wn x }
def f30.e (k : Nat) : Entry env := ⟨fun ps => f30.hd k (coer [[.rd 5]] ps), []⟩
def f30.X (k : Nat) : Ctx env := { C := lookE [], L := lookE [(3, fun S => f30.l3.hd k S.ts S.m S.n)], J := lookE [], keep := lookD [(3, [0, 3, 4])], keepX := lookD [(3, [3])], span := lookN [(3, 240)], eff := fun n => memN n [], prep := lookP [], np := 0 }
theorem f30.l3.nat {R : Type} (k : Nat) (rec_ : (List Int) → Int → (List Int) → Option ((List Int))) (g : ((List Int)) → Option R) (xs2 : List Int) (a3 : Int) (xs4 : List Int) : (f30.l3.step k rec_ some xs2 a3 xs4).bind g = f30.l3.step k (fun xs2 a3 xs4 => (rec_ xs2 a3 xs4).bind g) g xs2 a3 xs4 := by
  simp only [f30.l3.step, bind_ite, bind_sum, Option.bind_assoc, Option.bind_some, Option.bind_none]
theorem f30.l3.good (k : Nat) (xs2 : List Int) (a3 : Int) (xs4 : List Int) : GoodL (f30.X k) (nthC 0 (loopsOf (bodyOf Try.f30))) (f30.l3.st xs2 a3 xs4) { α := ((List Int)), o := f30.l3 k k xs2 a3 xs4, w := f30.l3.w } :=
  loop_good (ι := (List Int) × Int × (List Int)) (α := ((List Int))) (fun i => f30.l3.st i.1 i.2.1 i.2.2) (fun j i => f30.l3 k j i.1 i.2.1 i.2.2) f30.l3.w (fun rec_ ret i => f30.l3.step k (fun xs2 a3 xs4 => rec_ (xs2, a3, xs4)) ret i.1 i.2.1 i.2.2)
    (fun _ => rfl) (fun _ _ => rfl) (fun rec_ g i => f30.l3.nat k _ g i.1 i.2.1 i.2.2) (fun {R} i0 i rec_ K => by kernel_rfl) k (xs2, a3, xs4)
theorem f30.l3.all (k : Nat) (S : St env) : GoodL (f30.X k) (nthC 0 (loopsOf (bodyOf Try.f30))) S (f30.l3.hd k S.ts S.m S.n) := by
  obtain ⟨ts_, m_, n_⟩ := S
  show GoodL _ _ _ (f30.l3.hd k ts_ m_ n_)
  unfold f30.l3.hd
  refine gTs_ok (p := GoodL _ _ _) goodL_no fun _ h => ?_
  subst h
  refine gV_ok (p := GoodL _ _ _) goodL_no fun _ _ h => ?_
  subst h
  refine rImm_ok (p := GoodL _ _ _) goodL_no fun _ h => ?_
  subst h
  refine gV_ok (p := GoodL _ _ _) goodL_no fun _ _ h => ?_
  subst h
  refine rRow_ok (p := GoodL _ _ _) goodL_no fun h => ?_
  subst h
  refine gV_ok (p := GoodL _ _ _) goodL_no fun _ _ h => ?_
  subst h
  refine rV_ok (p := GoodL _ _ _) goodL_no fun _ h => ?_
  subst h
  refine vI_ok (p := GoodL _ _ _) goodL_no fun _ h => ?_
  subst h
  refine gE_ok (p := GoodL _ _ _) goodL_no fun h => ?_
  subst h
  refine mRow_ok (p := GoodL _ _ _) goodL_no fun _ _ h => ?_
  subst h
  refine gE_ok (p := GoodL _ _ _) goodL_no fun h => ?_
  subst h
  refine gN_ok (p := GoodL _ _ _) goodL_no fun h => ?_
  subst h
  exact f30.l3.good k _ _ _
theorem f30.nat {R : Type} (k : Nat) (g : ((List Int)) → Option R) (xs1 : List Int) : f30.step k g xs1 = (f30 k xs1).bind g := by
  simp only [f30, f30.step, bind_ite, bind_sum, Option.bind_assoc, Option.bind_some, Option.bind_none]
theorem f30.ev (k : Nat) (xs1 : List Int) : evF (f30.X k) (bodyOf Try.f30) Try.f30.ntmps Try.f30.results.toList [.v (.c (.sl 5 xs1))] = f30.step k (fun x => f30.w x some) xs1 := by kernel_rfl
theorem f30.hok (k : Nat) : HOK (f30.X k) (bodyOf Try.f30) where
  l := allP_mem (by exact ⟨ls_of (h0 := fun S => f30.l3.hd k S.ts S.m S.n) (by kernel_rfl) (f30.l3.all k), trivial⟩)
  j := allP_mem (by exact trivial)
theorem f30.sound0 (k : Nat) : SoundC env Try.prog 30 (f30.hd k) := by
  intro ps_
  show GoodC _ _ _ ps_ (f30.hd k ps_)
  unfold f30.hd
  refine gC_ok (p := GoodC env Try.prog 30 _) goodC_no fun _ _ h => ?_
  subst h
  refine qC_ok (p := GoodC env Try.prog 30 _) goodC_no fun _ h => ?_
  subst h
  refine qSl_ok (p := GoodC env Try.prog 30 _) goodC_no fun _ h => ?_
  subst h
  refine gE_ok (p := GoodC env Try.prog 30 _) goodC_no fun h => ?_
  subst h
  exact fun_good (fun_sound envOK (cs_sound _ (by exact trivial)) (f30.hok k) Try.func30 rfl) ((f30.ev k _).trans (f30.nat k _ _))
theorem f30.sound (k : Nat) : SoundC env Try.prog 30 (f30.e k).F := soundC_coer (f30.sound0 k) [[.rd 5]]
theorem f30.says (k : Nat) (xs1 : List Int) (t8 : (List Int)) (h_ : f30 k xs1 = some t8) : SoundAt env Try.prog 30 [.v (.c (.sl 5 xs1))] ⟨.v (.c (.own true 5 t8)), [[]]⟩ :=
  fun_sound envOK (cs_sound _ (by exact trivial)) (f30.hok k) Try.func30 rfl _ _ (((f30.ev k xs1).trans (f30.nat k _ xs1)).trans (by rw [h_]; rfl))
theorem f30.fnok : FnOK Try.prog 30 := fn_ok Try.func30 (by kernel_rfl) rfl
def f150.step {R : Type} (k : Nat) (ret : Int → Option R) (xs1 : List Int) (a2 : Int) : Option R :=
  if (0 : Int) ≤ a2 then
    if a2 < ((List.length xs1 : Nat) : Int) then
      if (0 : Int) ≤ (IntKind.i64.wrap (a2 + (1 : Int))) then
        if (IntKind.i64.wrap (a2 + (1 : Int))) < ((List.length xs1 : Nat) : Int) then
          ret (IntKind.i64.wrap ((IntKind.i64.wrap ((IntKind.i64.wrap (List.getD xs1 (Int.toNat a2) (0 : Int))) * (256 : Int))) + (IntKind.i64.wrap (List.getD xs1 (Int.toNat (IntKind.i64.wrap (a2 + (1 : Int)))) (0 : Int)))))
        else none
      else none
    else none
  else none
def f150 (k : Nat) (xs1 : List Int) (a2 : Int) : Option Int := f150.step k some xs1 a2
def f150.w {R : Type} : Int → (Res env → Option R) → Option R := fun t3 K => K ⟨.v (.c (.s (.int .i64 t3))), [[], []]⟩
theorem f150.wn (x : Int) : ∃ res, ∀ {R : Type} (K : Res env → Option R), f150.w x K = K res := by
  exact ⟨_, fun _ => rfl⟩
def f150.hd (k : Nat) (ps_ : List (P2 env)) : Cl env :=
  gC Cl.no ps_ fun p_ ps_ => qC Cl.no p_ fun c_ => qSl Cl.no 5 c_ fun xs1 => gC Cl.no ps_ fun p_ ps_ => qC Cl.no p_ fun c_ => qS Cl.no c_ fun v_ => vI Cl.no .i64 v_ fun a2 => gE Cl.no ps_ <| { α := Int, o := f150 k xs1 a2, w := f150.w, nat := fun x _ => f150.wn x }
def f150.e (k : Nat) : Entry env := ⟨fun ps => f150.hd k (coer [[.rd 5], [.no]] ps), []⟩
def f150.X (k : Nat) : Ctx env := { C := lookE [], L := lookE [], J := lookE [], keep := lookD [], keepX := lookD [], span := lookN [], eff := fun n => memN n [], prep := lookP [], np := 0 }
theorem f150.nat {R : Type} (k : Nat) (g : Int → Option R) (xs1 : List Int) (a2 : Int) : f150.step k g xs1 a2 = (f150 k xs1 a2).bind g := by
  simp only [f150, f150.step, bind_ite, bind_sum, Option.bind_assoc, Option.bind_some, Option.bind_none]
theorem f150.ev (k : Nat) (xs1 : List Int) (a2 : Int) : evF (f150.X k) (bodyOf Try.f150) Try.f150.ntmps Try.f150.results.toList [.v (.c (.sl 5 xs1)), .v (.c (.s (.int .i64 a2)))] = f150.step k (fun x => f150.w x some) xs1 a2 := by kernel_rfl
theorem f150.hok (k : Nat) : HOK (f150.X k) (bodyOf Try.f150) where
  l := allP_mem (by exact trivial)
  j := allP_mem (by exact trivial)
theorem f150.sound0 (k : Nat) : SoundC env Try.prog 150 (f150.hd k) := by
  intro ps_
  show GoodC _ _ _ ps_ (f150.hd k ps_)
  unfold f150.hd
  refine gC_ok (p := GoodC env Try.prog 150 _) goodC_no fun _ _ h => ?_
  subst h
  refine qC_ok (p := GoodC env Try.prog 150 _) goodC_no fun _ h => ?_
  subst h
  refine qSl_ok (p := GoodC env Try.prog 150 _) goodC_no fun _ h => ?_
  subst h
  refine gC_ok (p := GoodC env Try.prog 150 _) goodC_no fun _ _ h => ?_
  subst h
  refine qC_ok (p := GoodC env Try.prog 150 _) goodC_no fun _ h => ?_
  subst h
  refine qS_ok (p := GoodC env Try.prog 150 _) goodC_no fun _ h => ?_
  subst h
  refine vI_ok (p := GoodC env Try.prog 150 _) goodC_no fun _ h => ?_
  subst h
  refine gE_ok (p := GoodC env Try.prog 150 _) goodC_no fun h => ?_
  subst h
  exact fun_good (fun_sound envOK (cs_sound _ (by exact trivial)) (f150.hok k) Try.func150 rfl) ((f150.ev k _ _).trans (f150.nat k _ _ _))
theorem f150.sound (k : Nat) : SoundC env Try.prog 150 (f150.e k).F := soundC_coer (f150.sound0 k) [[.rd 5], [.no]]
theorem f150.says (k : Nat) (xs1 : List Int) (a2 : Int) (t4 : Int) (h_ : f150 k xs1 a2 = some t4) : SoundAt env Try.prog 150 [.v (.c (.sl 5 xs1)), .v (.c (.s (.int .i64 a2)))] ⟨.v (.c (.s (.int .i64 t4))), [[], []]⟩ :=
  fun_sound envOK (cs_sound _ (by exact trivial)) (f150.hok k) Try.func150 rfl _ _ (((f150.ev k xs1 a2).trans (f150.nat k _ xs1 a2)).trans (by rw [h_]; rfl))
theorem f150.fnok : FnOK Try.prog 150 := fn_ok Try.func150 (by kernel_rfl) rfl
def f86.step {R : Type} (k : Nat) (ret : Bool → Option R) (a1 : Int) (a2 : Int) (a3 : Int) : Option R :=
  if (decide (a1 ≥ a2)) = true then
    ret (decide (a1 ≤ a3))
  else
    ret false
def f86 (k : Nat) (a1 : Int) (a2 : Int) (a3 : Int) : Option Bool := f86.step k some a1 a2 a3
def f86.w {R : Type} : Bool → (Res env → Option R) → Option R := fun t4 K => K ⟨.v (.c (.s (.bool t4))), [[], [], []]⟩
theorem f86.wn (x : Bool) : ∃ res, ∀ {R : Type} (K : Res env → Option R), f86.w x K = K res := by
  exact ⟨_, fun _ => rfl⟩
def f86.hd (k : Nat) (ps_ : List (P2 env)) : Cl env :=
  gC Cl.no ps_ fun p_ ps_ => qC Cl.no p_ fun c_ => qS Cl.no c_ fun v_ => vI Cl.no .i64 v_ fun a1 => gC Cl.no ps_ fun p_ ps_ => qC Cl.no p_ fun c_ => qS Cl.no c_ fun v_ => vI Cl.no .i64 v_ fun a2 => gC Cl.no ps_ fun p_ ps_ => qC Cl.no p_ fun c_ => qS Cl.no c_ fun v_ => vI Cl.no .i64 v_ fun a3 => gE Cl.no ps_ <| { α := Bool, o := f86 k a1 a2 a3, w := f86.w, nat := fun x _ => f86.wn x }
def f86.e (k : Nat) : Entry env := ⟨f86.hd k, []⟩
def f86.X (k : Nat) : Ctx env := { C := lookE [], L := lookE [], J := lookE [], keep := lookD [], keepX := lookD [], span := lookN [], eff := fun n => memN n [], prep := lookP [], np := 0 }
theorem f86.nat {R : Type} (k : Nat) (g : Bool → Option R) (a1 : Int) (a2 : Int) (a3 : Int) : f86.step k g a1 a2 a3 = (f86 k a1 a2 a3).bind g := by
  simp only [f86, f86.step, bind_ite, bind_sum, Option.bind_assoc, Option.bind_some, Option.bind_none]
theorem f86.ev (k : Nat) (a1 : Int) (a2 : Int) (a3 : Int) : evF (f86.X k) (bodyOf Try.f86) Try.f86.ntmps Try.f86.results.toList [.v (.c (.s (.int .i64 a1))), .v (.c (.s (.int .i64 a2))), .v (.c (.s (.int .i64 a3)))] = f86.step k (fun x => f86.w x some) a1 a2 a3 := by kernel_rfl
theorem f86.hok (k : Nat) : HOK (f86.X k) (bodyOf Try.f86) where
  l := allP_mem (by exact trivial)
  j := allP_mem (by exact trivial)
theorem f86.sound (k : Nat) : SoundC env Try.prog 86 ((f86.e k).F) := by
  intro ps_
  show GoodC _ _ _ ps_ (f86.hd k ps_)
  unfold f86.hd
  refine gC_ok (p := GoodC env Try.prog 86 _) goodC_no fun _ _ h => ?_
  subst h
  refine qC_ok (p := GoodC env Try.prog 86 _) goodC_no fun _ h => ?_
  subst h
  refine qS_ok (p := GoodC env Try.prog 86 _) goodC_no fun _ h => ?_
  subst h
  refine vI_ok (p := GoodC env Try.prog 86 _) goodC_no fun _ h => ?_
  subst h
  refine gC_ok (p := GoodC env Try.prog 86 _) goodC_no fun _ _ h => ?_
  subst h
  refine qC_ok (p := GoodC env Try.prog 86 _) goodC_no fun _ h => ?_
  subst h
  refine qS_ok (p := GoodC env Try.prog 86 _) goodC_no fun _ h => ?_
  subst h
  refine vI_ok (p := GoodC env Try.prog 86 _) goodC_no fun _ h => ?_
  subst h
  refine gC_ok (p := GoodC env Try.prog 86 _) goodC_no fun _ _ h => ?_
  subst h
  refine qC_ok (p := GoodC env Try.prog 86 _) goodC_no fun _ h => ?_
  subst h
  refine qS_ok (p := GoodC env Try.prog 86 _) goodC_no fun _ h => ?_
  subst h
  refine vI_ok (p := GoodC env Try.prog 86 _) goodC_no fun _ h => ?_
  subst h
  refine gE_ok (p := GoodC env Try.prog 86 _) goodC_no fun h => ?_
  subst h
  exact fun_good (fun_sound envOK (cs_sound _ (by exact trivial)) (f86.hok k) Try.func86 rfl) ((f86.ev k _ _ _).trans (f86.nat k _ _ _ _))
theorem f86.says (k : Nat) (a1 : Int) (a2 : Int) (a3 : Int) (t5 : Bool) (h_ : f86 k a1 a2 a3 = some t5) : SoundAt env Try.prog 86 [.v (.c (.s (.int .i64 a1))), .v (.c (.s (.int .i64 a2))), .v (.c (.s (.int .i64 a3)))] ⟨.v (.c (.s (.bool t5))), [[], [], []]⟩ :=
  fun_sound envOK (cs_sound _ (by exact trivial)) (f86.hok k) Try.func86 rfl _ _ (((f86.ev k a1 a2 a3).trans (f86.nat k _ a1 a2 a3)).trans (by rw [h_]; rfl))
theorem f86.fnok : FnOK Try.prog 86 := fn_ok Try.func86 (by kernel_rfl) rfl
def f85.step {R : Type} (k : Nat) (ret : Bool → Option R) (a1 : Int) (s2 : ByteArray) (s3 : ByteArray) (a4 : Int) (a5 : Int) (a6 : Int) (a7 : Int) (b8 : Bool) (b9 : Bool) (xs10 : List Int) : Option R :=
  if (decide ((((List.length xs10) : Nat) : Int) > (1500 : Int))) = false then
    (f86 k a4 (0 : Int) (255 : Int)).bind fun t11 => if (!t11) = false then
        (f86 k a5 (0 : Int) (255 : Int)).bind fun t12 => if (!t12) = true then
            ret false
          else
            if (decide (a1 = (4 : Int))) = true then
              if (decide ((((ByteArray.size s2) : Nat) : Int) = (4 : Int))) = true then
                if (decide ((((ByteArray.size s3) : Nat) : Int) = (4 : Int))) = true then
                  (f86 k a6 (0 : Int) (65535 : Int)).bind fun t13 => if t13 = true then
                      (f86 k a7 (0 : Int) (8191 : Int)).bind fun t14 => if t14 = true then
                          if b9 = true then
                            if b8 = false then
                              if (!(decide (a7 > (0 : Int)))) = true then
                                if (!b8) = false then
                                  if (decide ((Int.tmod (((List.length xs10) : Nat) : Int) (8 : Int)) = (0 : Int))) = true then
                                    if (decide ((((List.length xs10) : Nat) : Int) > (0 : Int))) = true then
                                      ret (decide ((IntKind.i64.wrap ((IntKind.i64.wrap ((8 : Int) * a7)) + (((List.length xs10) : Nat) : Int))) ≤ (65515 : Int)))
                                    else
                                      ret false
                                  else
                                    ret false
                                else
                                  ret (decide ((IntKind.i64.wrap ((IntKind.i64.wrap ((8 : Int) * a7)) + (((List.length xs10) : Nat) : Int))) ≤ (65515 : Int)))
                              else
                                ret false
                            else
                              ret false
                          else
                            if (!b8) = false then
                              if (decide ((Int.tmod (((List.length xs10) : Nat) : Int) (8 : Int)) = (0 : Int))) = true then
                                if (decide ((((List.length xs10) : Nat) : Int) > (0 : Int))) = true then
                                  ret (decide ((IntKind.i64.wrap ((IntKind.i64.wrap ((8 : Int) * a7)) + (((List.length xs10) : Nat) : Int))) ≤ (65515 : Int)))
                                else
                                  ret false
                              else
                                ret false
                            else
                              ret (decide ((IntKind.i64.wrap ((IntKind.i64.wrap ((8 : Int) * a7)) + (((List.length xs10) : Nat) : Int))) ≤ (65515 : Int)))
                        else
                          ret false
                    else
                      ret false
                else
                  ret false
              else
                ret false
            else
              if (decide (a1 = (6 : Int))) = true then
                if (decide ((((ByteArray.size s2) : Nat) : Int) = (16 : Int))) = true then
                  if (decide ((((ByteArray.size s3) : Nat) : Int) = (16 : Int))) = true then
                    if (decide (a6 = (0 : Int))) = true then
                      if (decide (a7 = (0 : Int))) = true then
                        if (!b8) = true then
                          ret (!b9)
                        else
                          ret false
                      else
                        ret false
                    else
                      ret false
                  else
                    ret false
                else
                  ret false
              else
                ret false
      else
        ret false
  else
    ret false
def f85 (k : Nat) (a1 : Int) (s2 : ByteArray) (s3 : ByteArray) (a4 : Int) (a5 : Int) (a6 : Int) (a7 : Int) (b8 : Bool) (b9 : Bool) (xs10 : List Int) : Option Bool := f85.step k some a1 s2 s3 a4 a5 a6 a7 b8 b9 xs10
def f85.w {R : Type} : Bool → (Res env → Option R) → Option R := fun t15 K => K ⟨.v (.c (.s (.bool t15))), [[]]⟩
theorem f85.wn (x : Bool) : ∃ res, ∀ {R : Type} (K : Res env → Option R), f85.w x K = K res := by
  exact ⟨_, fun _ => rfl⟩
def f85.hd (k : Nat) (ps_ : List (P2 env)) : Cl env :=
  gC Cl.no ps_ fun p_ ps_ => qG Cl.no p_ fun cs_ => gC Cl.no cs_ fun c_ cs_ => qS Cl.no c_ fun v_ => vI Cl.no .i64 v_ fun a1 => gC Cl.no cs_ fun c_ cs_ => qS Cl.no c_ fun v_ => vS Cl.no v_ fun s2 => gC Cl.no cs_ fun c_ cs_ => qS Cl.no c_ fun v_ => vS Cl.no v_ fun s3 => gC Cl.no cs_ fun c_ cs_ => qS Cl.no c_ fun v_ => vI Cl.no .i64 v_ fun a4 => gC Cl.no cs_ fun c_ cs_ => qS Cl.no c_ fun v_ => vI Cl.no .i64 v_ fun a5 => gC Cl.no cs_ fun c_ cs_ => qS Cl.no c_ fun v_ => vI Cl.no .i64 v_ fun a6 => gC Cl.no cs_ fun c_ cs_ => qS Cl.no c_ fun v_ => vI Cl.no .i64 v_ fun a7 => gC Cl.no cs_ fun c_ cs_ => qS Cl.no c_ fun v_ => vB Cl.no v_ fun b8 => gC Cl.no cs_ fun c_ cs_ => qS Cl.no c_ fun v_ => vB Cl.no v_ fun b9 => gC Cl.no cs_ fun c_ cs_ => qSl Cl.no 5 c_ fun xs10 => gE Cl.no cs_ <| gE Cl.no ps_ <| { α := Bool, o := f85 k a1 s2 s3 a4 a5 a6 a7 b8 b9 xs10, w := f85.w, nat := fun x _ => f85.wn x }
def f85.e (k : Nat) : Entry env := ⟨fun ps => f85.hd k (coer [[.no, .no, .no, .no, .no, .no, .no, .no, .no, .rd 5]] ps), []⟩
def f85.X (k : Nat) : Ctx env := { C := lookE [(86, f86.e k)], L := lookE [], J := lookE [], keep := lookD [], keepX := lookD [], span := lookN [], eff := fun n => memN n [], prep := lookP [], np := 0 }
theorem f85.nat {R : Type} (k : Nat) (g : Bool → Option R) (a1 : Int) (s2 : ByteArray) (s3 : ByteArray) (a4 : Int) (a5 : Int) (a6 : Int) (a7 : Int) (b8 : Bool) (b9 : Bool) (xs10 : List Int) : f85.step k g a1 s2 s3 a4 a5 a6 a7 b8 b9 xs10 = (f85 k a1 s2 s3 a4 a5 a6 a7 b8 b9 xs10).bind g := by
  simp only [f85, f85.step, bind_ite, bind_sum, Option.bind_assoc, Option.bind_some, Option.bind_none]
theorem f85.ev (k : Nat) (a1 : Int) (s2 : ByteArray) (s3 : ByteArray) (a4 : Int) (a5 : Int) (a6 : Int) (a7 : Int) (b8 : Bool) (b9 : Bool) (xs10 : List Int) : evF (f85.X k) (bodyOf Try.f85) Try.f85.ntmps Try.f85.results.toList [.g [.s (.int .i64 a1), .s (.string s2), .s (.string s3), .s (.int .i64 a4), .s (.int .i64 a5), .s (.int .i64 a6), .s (.int .i64 a7), .s (.bool b8), .s (.bool b9), .sl 5 xs10]] = f85.step k (fun x => f85.w x some) a1 s2 s3 a4 a5 a6 a7 b8 b9 xs10 := by kernel_rfl
theorem f85.hok (k : Nat) : HOK (f85.X k) (bodyOf Try.f85) where
  l := allP_mem (by exact trivial)
  j := allP_mem (by exact trivial)
theorem f85.sound0 (k : Nat) : SoundC env Try.prog 85 (f85.hd k) := by
  intro ps_
  show GoodC _ _ _ ps_ (f85.hd k ps_)
  unfold f85.hd
  refine gC_ok (p := GoodC env Try.prog 85 _) goodC_no fun _ _ h => ?_
  subst h
  refine qG_ok (p := GoodC env Try.prog 85 _) goodC_no fun _ h => ?_
  subst h
  refine gC_ok (p := GoodC env Try.prog 85 _) goodC_no fun _ _ h => ?_
  subst h
  refine qS_ok (p := GoodC env Try.prog 85 _) goodC_no fun _ h => ?_
  subst h
  refine vI_ok (p := GoodC env Try.prog 85 _) goodC_no fun _ h => ?_
  subst h
  refine gC_ok (p := GoodC env Try.prog 85 _) goodC_no fun _ _ h => ?_
  subst h
  refine qS_ok (p := GoodC env Try.prog 85 _) goodC_no fun _ h => ?_
  subst h
  refine vS_ok (p := GoodC env Try.prog 85 _) goodC_no fun _ h => ?_
  subst h
  refine gC_ok (p := GoodC env Try.prog 85 _) goodC_no fun _ _ h => ?_
  subst h
  refine qS_ok (p := GoodC env Try.prog 85 _) goodC_no fun _ h => ?_
  subst h
  refine vS_ok (p := GoodC env Try.prog 85 _) goodC_no fun _ h => ?_
  subst h
  refine gC_ok (p := GoodC env Try.prog 85 _) goodC_no fun _ _ h => ?_
  subst h
  refine qS_ok (p := GoodC env Try.prog 85 _) goodC_no fun _ h => ?_
  subst h
  refine vI_ok (p := GoodC env Try.prog 85 _) goodC_no fun _ h => ?_
  subst h
  refine gC_ok (p := GoodC env Try.prog 85 _) goodC_no fun _ _ h => ?_
  subst h
  refine qS_ok (p := GoodC env Try.prog 85 _) goodC_no fun _ h => ?_
  subst h
  refine vI_ok (p := GoodC env Try.prog 85 _) goodC_no fun _ h => ?_
  subst h
  refine gC_ok (p := GoodC env Try.prog 85 _) goodC_no fun _ _ h => ?_
  subst h
  refine qS_ok (p := GoodC env Try.prog 85 _) goodC_no fun _ h => ?_
  subst h
  refine vI_ok (p := GoodC env Try.prog 85 _) goodC_no fun _ h => ?_
  subst h
  refine gC_ok (p := GoodC env Try.prog 85 _) goodC_no fun _ _ h => ?_
  subst h
  refine qS_ok (p := GoodC env Try.prog 85 _) goodC_no fun _ h => ?_
  subst h
  refine vI_ok (p := GoodC env Try.prog 85 _) goodC_no fun _ h => ?_
  subst h
  refine gC_ok (p := GoodC env Try.prog 85 _) goodC_no fun _ _ h => ?_
  subst h
  refine qS_ok (p := GoodC env Try.prog 85 _) goodC_no fun _ h => ?_
  subst h
  refine vB_ok (p := GoodC env Try.prog 85 _) goodC_no fun _ h => ?_
  subst h
  refine gC_ok (p := GoodC env Try.prog 85 _) goodC_no fun _ _ h => ?_
  subst h
  refine qS_ok (p := GoodC env Try.prog 85 _) goodC_no fun _ h => ?_
  subst h
  refine vB_ok (p := GoodC env Try.prog 85 _) goodC_no fun _ h => ?_
  subst h
  refine gC_ok (p := GoodC env Try.prog 85 _) goodC_no fun _ _ h => ?_
  subst h
  refine qSl_ok (p := GoodC env Try.prog 85 _) goodC_no fun _ h => ?_
  subst h
  refine gE_ok (p := GoodC env Try.prog 85 _) goodC_no fun h => ?_
  subst h
  refine gE_ok (p := GoodC env Try.prog 85 _) goodC_no fun h => ?_
  subst h
  exact fun_good (fun_sound envOK (cs_sound _ (by exact ⟨⟨f86.sound k, f86.fnok⟩, trivial⟩)) (f85.hok k) Try.func85 rfl) ((f85.ev k _ _ _ _ _ _ _ _ _ _).trans (f85.nat k _ _ _ _ _ _ _ _ _ _ _))
theorem f85.sound (k : Nat) : SoundC env Try.prog 85 (f85.e k).F := soundC_coer (f85.sound0 k) [[.no, .no, .no, .no, .no, .no, .no, .no, .no, .rd 5]]
theorem f85.says (k : Nat) (a1 : Int) (s2 : ByteArray) (s3 : ByteArray) (a4 : Int) (a5 : Int) (a6 : Int) (a7 : Int) (b8 : Bool) (b9 : Bool) (xs10 : List Int) (t16 : Bool) (h_ : f85 k a1 s2 s3 a4 a5 a6 a7 b8 b9 xs10 = some t16) : SoundAt env Try.prog 85 [.g [.s (.int .i64 a1), .s (.string s2), .s (.string s3), .s (.int .i64 a4), .s (.int .i64 a5), .s (.int .i64 a6), .s (.int .i64 a7), .s (.bool b8), .s (.bool b9), .sl 5 xs10]] ⟨.v (.c (.s (.bool t16))), [[]]⟩ :=
  fun_sound envOK (cs_sound _ (by exact ⟨⟨f86.sound k, f86.fnok⟩, trivial⟩)) (f85.hok k) Try.func85 rfl _ _ (((f85.ev k a1 s2 s3 a4 a5 a6 a7 b8 b9 xs10).trans (f85.nat k _ a1 s2 s3 a4 a5 a6 a7 b8 b9 xs10)).trans (by rw [h_]; rfl))
theorem f85.fnok : FnOK Try.prog 85 := fn_ok Try.func85 (by kernel_rfl) rfl
def f151.l3.step {R : Type} (k : Nat) (rec_ : (List Int) → Int → Int → Option R) (ret : Int → Option R) (xs2 : List Int) (a3 : Int) (a4 : Int) : Option R :=
  if (decide (a4 < (((List.length xs2) : Nat) : Int))) = true then
    if (decide ((Int.tmod a4 (2 : Int)) = (0 : Int))) = true then
      if (0 : Int) ≤ a4 then
        if a4 < ((List.length xs2 : Nat) : Int) then
          rec_ xs2 (IntKind.i64.wrap (a3 + (IntKind.i64.wrap ((IntKind.i64.wrap (List.getD xs2 (Int.toNat a4) (0 : Int))) * (256 : Int))))) (IntKind.i64.wrap (a4 + (1 : Int)))
        else none
      else none
    else
      if (0 : Int) ≤ a4 then
        if a4 < ((List.length xs2 : Nat) : Int) then
          rec_ xs2 (IntKind.i64.wrap (a3 + (IntKind.i64.wrap (List.getD xs2 (Int.toNat a4) (0 : Int))))) (IntKind.i64.wrap (a4 + (1 : Int)))
        else none
      else none
  else
    ret a3
def f151.l3 (k : Nat) : Nat → (List Int) → Int → Int → Option Int
  | 0, _, _, _ => none
  | j + 1, xs2, a3, a4 => f151.l3.step k (fun xs2 a3 a4 => f151.l3 k j xs2 a3 a4) some xs2 a3 a4
def f151.l3.w {R : Type} : Int → (Exit → St env → Option R) → Option R := fun t8 K => K (.exit 0) ⟨fullT [3] 0 38 [.v (.c (.s (.int .i64 t8)))], [], 353⟩
def f151.l3.st (xs2 : List Int) (a3 : Int) (a4 : Int) : St env := ⟨fullT [0, 3, 4] 0 38 [.v (.c (.imm 5 xs2)), .v (.c (.s (.int .i64 a3))), .v (.c (.s (.int .i64 a4)))], [], 49⟩
def f151.l8.step {R : Type} (k : Nat) (rec_ : Int → Option R) (ret : Int → Option R) (a6 : Int) : Option R :=
  if (decide (a6 > (65535 : Int))) = true then
    rec_ (IntKind.i64.wrap ((Int.tmod a6 (65536 : Int)) + (IntKind.i64.wrap (Int.tdiv a6 (65536 : Int)))))
  else
    ret a6
def f151.l8 (k : Nat) : Nat → Int → Option Int
  | 0, _ => none
  | j + 1, a6 => f151.l8.step k (fun a6 => f151.l8 k j a6) some a6
def f151.l8.w {R : Type} : Int → (Exit → St env → Option R) → Option R := fun t9 K => K (.exit 2) ⟨fullT [3] 0 38 [.v (.c (.s (.int .i64 t9)))], [], 481⟩
def f151.l8.st (a6 : Int) : St env := ⟨fullT [3] 0 38 [.v (.c (.s (.int .i64 a6)))], [], 353⟩
def f151.l3.hd (k : Nat) (ts_ : List (AV env)) (mm_ : Mem env) (n_ : Nat) : LCl env :=
  gTs LCl.no [0, 3, 4] 38 ts_ fun l_ => gV LCl.no l_ fun a_ l_ => rImm LCl.no 5 a_ fun xs2 => gV LCl.no l_ fun a_ l_ => rV LCl.no a_ fun v_ => vI LCl.no .i64 v_ fun a3 => gV LCl.no l_ fun a_ l_ => rV LCl.no a_ fun v_ => vI LCl.no .i64 v_ fun a4 => gE LCl.no l_ <| gE LCl.no mm_ <| gN LCl.no 49 n_ { α := Int, o := f151.l3 k k xs2 a3 a4, w := f151.l3.w }
def f151.l8.hd (k : Nat) (ts_ : List (AV env)) (mm_ : Mem env) (n_ : Nat) : LCl env :=
  gTs LCl.no [3] 38 ts_ fun l_ => gV LCl.no l_ fun a_ l_ => rV LCl.no a_ fun v_ => vI LCl.no .i64 v_ fun a6 => gE LCl.no l_ <| gE LCl.no mm_ <| gN LCl.no 353 n_ { α := Int, o := f151.l8 k k a6, w := f151.l8.w }
def f151.step {R : Type} (k : Nat) (ret : Int → Option R) (xs1 : List Int) : Option R :=
  (f151.l3 k k xs1 (0 : Int) (0 : Int)).bind fun t5 => (f151.l8 k k t5).bind fun t7 => ret (IntKind.i64.wrap ((65535 : Int) - t7))
def f151 (k : Nat) (xs1 : List Int) : Option Int := f151.step k some xs1
def f151.w {R : Type} : Int → (Res env → Option R) → Option R := fun t10 K => K ⟨.v (.c (.s (.int .i64 t10))), [[]]⟩
theorem f151.wn (x : Int) : ∃ res, ∀ {R : Type} (K : Res env → Option R), f151.w x K = K res := by
  exact ⟨_, fun _ => rfl⟩
def f151.hd (k : Nat) (ps_ : List (P2 env)) : Cl env :=
  gC Cl.no ps_ fun p_ ps_ => qC Cl.no p_ fun c_ => qSl Cl.no 5 c_ fun xs1 => gE Cl.no ps_ <| { α := Int, o := f151 k xs1, w := f151.w, nat := fun x _ => f151.wn x }
def f151.e (k : Nat) : Entry env := ⟨fun ps => f151.hd k (coer [[.rd 5]] ps), []⟩
def f151.X (k : Nat) : Ctx env := { C := lookE [], L := lookE [(3, fun S => f151.l3.hd k S.ts S.m S.n), (8, fun S => f151.l8.hd k S.ts S.m S.n)], J := lookE [], keep := lookD [(3, [0, 3, 4]), (8, [3])], keepX := lookD [(3, [3]), (8, [3])], span := lookN [(3, 304), (8, 128)], eff := fun n => memN n [], prep := lookP [], np := 0 }
theorem f151.l3.nat {R : Type} (k : Nat) (rec_ : (List Int) → Int → Int → Option Int) (g : Int → Option R) (xs2 : List Int) (a3 : Int) (a4 : Int) : (f151.l3.step k rec_ some xs2 a3 a4).bind g = f151.l3.step k (fun xs2 a3 a4 => (rec_ xs2 a3 a4).bind g) g xs2 a3 a4 := by
  simp only [f151.l3.step, bind_ite, bind_sum, Option.bind_assoc, Option.bind_some, Option.bind_none]
theorem f151.l3.good (k : Nat) (xs2 : List Int) (a3 : Int) (a4 : Int) : GoodL (f151.X k) (nthC 0 (loopsOf (bodyOf Try.f151))) (f151.l3.st xs2 a3 a4) { α := Int, o := f151.l3 k k xs2 a3 a4, w := f151.l3.w } :=
  loop_good (ι := (List Int) × Int × Int) (α := Int) (fun i => f151.l3.st i.1 i.2.1 i.2.2) (fun j i => f151.l3 k j i.1 i.2.1 i.2.2) f151.l3.w (fun rec_ ret i => f151.l3.step k (fun xs2 a3 a4 => rec_ (xs2, a3, a4)) ret i.1 i.2.1 i.2.2)
    (fun _ => rfl) (fun _ _ => rfl) (fun rec_ g i => f151.l3.nat k _ g i.1 i.2.1 i.2.2) (fun {R} i0 i rec_ K => by kernel_rfl) k (xs2, a3, a4)
theorem f151.l3.all (k : Nat) (S : St env) : GoodL (f151.X k) (nthC 0 (loopsOf (bodyOf Try.f151))) S (f151.l3.hd k S.ts S.m S.n) := by
  obtain ⟨ts_, m_, n_⟩ := S
  show GoodL _ _ _ (f151.l3.hd k ts_ m_ n_)
  unfold f151.l3.hd
  refine gTs_ok (p := GoodL _ _ _) goodL_no fun _ h => ?_
  subst h
  refine gV_ok (p := GoodL _ _ _) goodL_no fun _ _ h => ?_
  subst h
  refine rImm_ok (p := GoodL _ _ _) goodL_no fun _ h => ?_
  subst h
  refine gV_ok (p := GoodL _ _ _) goodL_no fun _ _ h => ?_
  subst h
  refine rV_ok (p := GoodL _ _ _) goodL_no fun _ h => ?_
  subst h
  refine vI_ok (p := GoodL _ _ _) goodL_no fun _ h => ?_
  subst h
  refine gV_ok (p := GoodL _ _ _) goodL_no fun _ _ h => ?_
  subst h
  refine rV_ok (p := GoodL _ _ _) goodL_no fun _ h => ?_
  subst h
  refine vI_ok (p := GoodL _ _ _) goodL_no fun _ h => ?_
  subst h
  refine gE_ok (p := GoodL _ _ _) goodL_no fun h => ?_
  subst h
  refine gE_ok (p := GoodL _ _ _) goodL_no fun h => ?_
  subst h
  refine gN_ok (p := GoodL _ _ _) goodL_no fun h => ?_
  subst h
  exact f151.l3.good k _ _ _
theorem f151.l8.nat {R : Type} (k : Nat) (rec_ : Int → Option Int) (g : Int → Option R) (a6 : Int) : (f151.l8.step k rec_ some a6).bind g = f151.l8.step k (fun a6 => (rec_ a6).bind g) g a6 := by
  simp only [f151.l8.step, bind_ite, bind_sum, Option.bind_assoc, Option.bind_some, Option.bind_none]
theorem f151.l8.good (k : Nat) (a6 : Int) : GoodL (f151.X k) (nthC 1 (loopsOf (bodyOf Try.f151))) (f151.l8.st a6) { α := Int, o := f151.l8 k k a6, w := f151.l8.w } :=
  loop_good (ι := Int) (α := Int) (fun i => f151.l8.st i) (fun j i => f151.l8 k j i) f151.l8.w (fun rec_ ret i => f151.l8.step k (fun a6 => rec_ a6) ret i)
    (fun _ => rfl) (fun _ _ => rfl) (fun rec_ g i => f151.l8.nat k _ g i) (fun {R} i0 i rec_ K => by kernel_rfl) k a6
theorem f151.l8.all (k : Nat) (S : St env) : GoodL (f151.X k) (nthC 1 (loopsOf (bodyOf Try.f151))) S (f151.l8.hd k S.ts S.m S.n) := by
  obtain ⟨ts_, m_, n_⟩ := S
  show GoodL _ _ _ (f151.l8.hd k ts_ m_ n_)
  unfold f151.l8.hd
  refine gTs_ok (p := GoodL _ _ _) goodL_no fun _ h => ?_
  subst h
  refine gV_ok (p := GoodL _ _ _) goodL_no fun _ _ h => ?_
  subst h
  refine rV_ok (p := GoodL _ _ _) goodL_no fun _ h => ?_
  subst h
  refine vI_ok (p := GoodL _ _ _) goodL_no fun _ h => ?_
  subst h
  refine gE_ok (p := GoodL _ _ _) goodL_no fun h => ?_
  subst h
  refine gE_ok (p := GoodL _ _ _) goodL_no fun h => ?_
  subst h
  refine gN_ok (p := GoodL _ _ _) goodL_no fun h => ?_
  subst h
  exact f151.l8.good k _
theorem f151.nat {R : Type} (k : Nat) (g : Int → Option R) (xs1 : List Int) : f151.step k g xs1 = (f151 k xs1).bind g := by
  simp only [f151, f151.step, bind_ite, bind_sum, Option.bind_assoc, Option.bind_some, Option.bind_none]
theorem f151.ev (k : Nat) (xs1 : List Int) : evF (f151.X k) (bodyOf Try.f151) Try.f151.ntmps Try.f151.results.toList [.v (.c (.sl 5 xs1))] = f151.step k (fun x => f151.w x some) xs1 := by kernel_rfl
theorem f151.hok (k : Nat) : HOK (f151.X k) (bodyOf Try.f151) where
  l := allP_mem (by exact ⟨ls_of (h0 := fun S => f151.l3.hd k S.ts S.m S.n) (by kernel_rfl) (f151.l3.all k), ls_of (h0 := fun S => f151.l8.hd k S.ts S.m S.n) (by kernel_rfl) (f151.l8.all k), trivial⟩)
  j := allP_mem (by exact trivial)
theorem f151.sound0 (k : Nat) : SoundC env Try.prog 151 (f151.hd k) := by
  intro ps_
  show GoodC _ _ _ ps_ (f151.hd k ps_)
  unfold f151.hd
  refine gC_ok (p := GoodC env Try.prog 151 _) goodC_no fun _ _ h => ?_
  subst h
  refine qC_ok (p := GoodC env Try.prog 151 _) goodC_no fun _ h => ?_
  subst h
  refine qSl_ok (p := GoodC env Try.prog 151 _) goodC_no fun _ h => ?_
  subst h
  refine gE_ok (p := GoodC env Try.prog 151 _) goodC_no fun h => ?_
  subst h
  exact fun_good (fun_sound envOK (cs_sound _ (by exact trivial)) (f151.hok k) Try.func151 rfl) ((f151.ev k _).trans (f151.nat k _ _))
theorem f151.sound (k : Nat) : SoundC env Try.prog 151 (f151.e k).F := soundC_coer (f151.sound0 k) [[.rd 5]]
theorem f151.says (k : Nat) (xs1 : List Int) (t11 : Int) (h_ : f151 k xs1 = some t11) : SoundAt env Try.prog 151 [.v (.c (.sl 5 xs1))] ⟨.v (.c (.s (.int .i64 t11))), [[]]⟩ :=
  fun_sound envOK (cs_sound _ (by exact trivial)) (f151.hok k) Try.func151 rfl _ _ (((f151.ev k xs1).trans (f151.nat k _ xs1)).trans (by rw [h_]; rfl))
theorem f151.fnok : FnOK Try.prog 151 := fn_ok Try.func151 (by kernel_rfl) rfl
def f91.step {R : Type} (k : Nat) (ret : ((Int × ByteArray × ByteArray × Int × Int × Int × Int × Bool × Bool × Int) ⊕ (Int × ByteArray × ByteArray × Int × Int × Int × Int × Bool × Bool × (List Int) × Int)) → Option R) (xs1 : List Int) : Option R :=
  if (decide ((((List.length xs1) : Nat) : Int) = (0 : Int))) = true then
    ret (.inl ((0 : Int), ByteArray.empty, ByteArray.empty, (0 : Int), (0 : Int), (0 : Int), (0 : Int), false, false, (3 : Int)))
  else
    if (0 : Int) < ((List.length xs1 : Nat) : Int) then
      if (decide ((IntKind.u8.wrap (Int.tdiv (List.getD xs1 0 (0 : Int)) (16 : Int))) = (6 : Int))) = true then
        if (decide ((((List.length xs1) : Nat) : Int) < (40 : Int))) = false then
          (f150 k xs1 (4 : Int)).bind fun t2 => if (decide ((((List.length xs1) : Nat) : Int) ≠ (IntKind.i64.wrap ((40 : Int) + t2)))) = true then
              ret (.inl ((0 : Int), ByteArray.empty, ByteArray.empty, (0 : Int), (0 : Int), (0 : Int), (0 : Int), false, false, (3 : Int)))
            else
              if (6 : Int) < ((List.length xs1 : Nat) : Int) then
                if (7 : Int) < ((List.length xs1 : Nat) : Int) then
                  if (24 : Int) ≤ ((List.length xs1 : Nat) : Int) then
                    if (40 : Int) ≤ ((List.length xs1 : Nat) : Int) then
                      if (40 : Int) ≤ ((List.length xs1 : Nat) : Int) then
                        if ((List.length xs1 : Nat) : Int) ≤ ((List.length xs1 : Nat) : Int) then
                          if (List.length ([] : List Int) + List.length (List.drop 40 (List.take (Int.toNat ((List.length xs1 : Nat) : Int)) xs1))) * 1 ≤ maxN then
                            (f85 k (6 : Int) (strOf (List.drop 8 (List.take 24 xs1))) (strOf (List.drop 24 (List.take 40 xs1))) (IntKind.i64.wrap (List.getD xs1 7 (0 : Int))) (IntKind.i64.wrap (List.getD xs1 6 (0 : Int))) (0 : Int) (0 : Int) false false (([] : List Int) ++ (List.drop 40 (List.take (Int.toNat ((List.length xs1 : Nat) : Int)) xs1)))).bind fun t3 => if (!t3) = true then
                                ret (.inl ((0 : Int), ByteArray.empty, ByteArray.empty, (0 : Int), (0 : Int), (0 : Int), (0 : Int), false, false, (1 : Int)))
                              else
                                ret (.inr ((6 : Int), (strOf (List.drop 8 (List.take 24 xs1))), (strOf (List.drop 24 (List.take 40 xs1))), (IntKind.i64.wrap (List.getD xs1 7 (0 : Int))), (IntKind.i64.wrap (List.getD xs1 6 (0 : Int))), (0 : Int), (0 : Int), false, false, (([] : List Int) ++ (List.drop 40 (List.take (Int.toNat ((List.length xs1 : Nat) : Int)) xs1))), (0 : Int)))
                          else none
                        else none
                      else none
                    else none
                  else none
                else none
              else none
        else
          ret (.inl ((0 : Int), ByteArray.empty, ByteArray.empty, (0 : Int), (0 : Int), (0 : Int), (0 : Int), false, false, (3 : Int)))
      else
        if (0 : Int) < ((List.length xs1 : Nat) : Int) then
          if (decide ((List.getD xs1 0 (0 : Int)) ≠ (69 : Int))) = false then
            if (decide ((((List.length xs1) : Nat) : Int) < (20 : Int))) = false then
              (f150 k xs1 (2 : Int)).bind fun t4 => if (decide ((((List.length xs1) : Nat) : Int) ≠ t4)) = true then
                  ret (.inl ((0 : Int), ByteArray.empty, ByteArray.empty, (0 : Int), (0 : Int), (0 : Int), (0 : Int), false, false, (3 : Int)))
                else
                  if (20 : Int) ≤ ((List.length xs1 : Nat) : Int) then
                    (f151 k (List.drop 0 (List.take 20 xs1))).bind fun t5 => if (decide (t5 ≠ (0 : Int))) = true then
                        ret (.inl ((0 : Int), ByteArray.empty, ByteArray.empty, (0 : Int), (0 : Int), (0 : Int), (0 : Int), false, false, (8 : Int)))
                      else
                        (f150 k xs1 (6 : Int)).bind fun t6 => (f150 k xs1 (4 : Int)).bind fun t7 => if (8 : Int) < ((List.length xs1 : Nat) : Int) then
                              if (9 : Int) < ((List.length xs1 : Nat) : Int) then
                                if (16 : Int) ≤ ((List.length xs1 : Nat) : Int) then
                                  if (20 : Int) ≤ ((List.length xs1 : Nat) : Int) then
                                    if (20 : Int) ≤ ((List.length xs1 : Nat) : Int) then
                                      if ((List.length xs1 : Nat) : Int) ≤ ((List.length xs1 : Nat) : Int) then
                                        if (List.length ([] : List Int) + List.length (List.drop 20 (List.take (Int.toNat ((List.length xs1 : Nat) : Int)) xs1))) * 1 ≤ maxN then
                                          if (decide (t6 ≥ (32768 : Int))) = false then
                                            (f85 k (4 : Int) (strOf (List.drop 12 (List.take 16 xs1))) (strOf (List.drop 16 (List.take 20 xs1))) (IntKind.i64.wrap (List.getD xs1 8 (0 : Int))) (IntKind.i64.wrap (List.getD xs1 9 (0 : Int))) t7 (Int.tmod t6 (8192 : Int)) (decide ((Int.tmod (IntKind.i64.wrap (Int.tdiv t6 (8192 : Int))) (2 : Int)) = (1 : Int))) (decide ((Int.tmod (IntKind.i64.wrap (Int.tdiv t6 (16384 : Int))) (2 : Int)) = (1 : Int))) (([] : List Int) ++ (List.drop 20 (List.take (Int.toNat ((List.length xs1 : Nat) : Int)) xs1)))).bind fun t8 => if (!t8) = true then
                                                ret (.inl ((0 : Int), ByteArray.empty, ByteArray.empty, (0 : Int), (0 : Int), (0 : Int), (0 : Int), false, false, (1 : Int)))
                                              else
                                                ret (.inr ((4 : Int), (strOf (List.drop 12 (List.take 16 xs1))), (strOf (List.drop 16 (List.take 20 xs1))), (IntKind.i64.wrap (List.getD xs1 8 (0 : Int))), (IntKind.i64.wrap (List.getD xs1 9 (0 : Int))), t7, (Int.tmod t6 (8192 : Int)), (decide ((Int.tmod (IntKind.i64.wrap (Int.tdiv t6 (8192 : Int))) (2 : Int)) = (1 : Int))), (decide ((Int.tmod (IntKind.i64.wrap (Int.tdiv t6 (16384 : Int))) (2 : Int)) = (1 : Int))), (([] : List Int) ++ (List.drop 20 (List.take (Int.toNat ((List.length xs1 : Nat) : Int)) xs1))), (0 : Int)))
                                          else
                                            ret (.inl ((0 : Int), ByteArray.empty, ByteArray.empty, (0 : Int), (0 : Int), (0 : Int), (0 : Int), false, false, (1 : Int)))
                                        else none
                                      else none
                                    else none
                                  else none
                                else none
                              else none
                            else none
                  else none
            else
              ret (.inl ((0 : Int), ByteArray.empty, ByteArray.empty, (0 : Int), (0 : Int), (0 : Int), (0 : Int), false, false, (3 : Int)))
          else
            ret (.inl ((0 : Int), ByteArray.empty, ByteArray.empty, (0 : Int), (0 : Int), (0 : Int), (0 : Int), false, false, (3 : Int)))
        else none
    else none
def f91 (k : Nat) (xs1 : List Int) : Option ((Int × ByteArray × ByteArray × Int × Int × Int × Int × Bool × Bool × Int) ⊕ (Int × ByteArray × ByteArray × Int × Int × Int × Int × Bool × Bool × (List Int) × Int)) := f91.step k some xs1
def f91.w {R : Type} : ((Int × ByteArray × ByteArray × Int × Int × Int × Int × Bool × Bool × Int) ⊕ (Int × ByteArray × ByteArray × Int × Int × Int × Int × Bool × Bool × (List Int) × Int)) → (Res env → Option R) → Option R := fun x K => Sum.elim (fun t9 => K ⟨.tup [.g [.s (.int .i64 t9.1), .s (.string t9.2.1), .s (.string t9.2.2.1), .s (.int .i64 t9.2.2.2.1), .s (.int .i64 t9.2.2.2.2.1), .s (.int .i64 t9.2.2.2.2.2.1), .s (.int .i64 t9.2.2.2.2.2.2.1), .s (.bool t9.2.2.2.2.2.2.2.1), .s (.bool t9.2.2.2.2.2.2.2.2.1), .s (.slice none 0 0)], .c (.s (.int .i64 t9.2.2.2.2.2.2.2.2.2))], [[]]⟩) (fun t10 => K ⟨.tup [.g [.s (.int .i64 t10.1), .s (.string t10.2.1), .s (.string t10.2.2.1), .s (.int .i64 t10.2.2.2.1), .s (.int .i64 t10.2.2.2.2.1), .s (.int .i64 t10.2.2.2.2.2.1), .s (.int .i64 t10.2.2.2.2.2.2.1), .s (.bool t10.2.2.2.2.2.2.2.1), .s (.bool t10.2.2.2.2.2.2.2.2.1), .own true 5 t10.2.2.2.2.2.2.2.2.2.1], .c (.s (.int .i64 t10.2.2.2.2.2.2.2.2.2.2))], [[]]⟩) x
theorem f91.wn (x : ((Int × ByteArray × ByteArray × Int × Int × Int × Int × Bool × Bool × Int) ⊕ (Int × ByteArray × ByteArray × Int × Int × Int × Int × Bool × Bool × (List Int) × Int))) : ∃ res, ∀ {R : Type} (K : Res env → Option R), f91.w x K = K res := by
  rcases x with x | x <;> exact ⟨_, fun _ => rfl⟩
def f91.hd (k : Nat) (ps_ : List (P2 env)) : Cl env :=
  gC Cl.no ps_ fun p_ ps_ => qC Cl.no p_ fun c_ => qSl Cl.no 5 c_ fun xs1 => gE Cl.no ps_ <| { α := (Int × ByteArray × ByteArray × Int × Int × Int × Int × Bool × Bool × Int) ⊕ (Int × ByteArray × ByteArray × Int × Int × Int × Int × Bool × Bool × (List Int) × Int), o := f91 k xs1, w := f91.w, nat := fun x _ => f91.wn x }
def f91.e (k : Nat) : Entry env := ⟨fun ps => f91.hd k (coer [[.rd 5]] ps), []⟩
def f91.X (k : Nat) : Ctx env := { C := lookE [(85, f85.e k), (150, f150.e k), (151, f151.e k)], L := lookE [], J := lookE [], keep := lookD [], keepX := lookD [], span := lookN [], eff := fun n => memN n [7, 16], prep := lookP [], np := 0 }
theorem f91.nat {R : Type} (k : Nat) (g : ((Int × ByteArray × ByteArray × Int × Int × Int × Int × Bool × Bool × Int) ⊕ (Int × ByteArray × ByteArray × Int × Int × Int × Int × Bool × Bool × (List Int) × Int)) → Option R) (xs1 : List Int) : f91.step k g xs1 = (f91 k xs1).bind g := by
  simp only [f91, f91.step, bind_ite, bind_sum, Option.bind_assoc, Option.bind_some, Option.bind_none]
theorem f91.ev (k : Nat) (xs1 : List Int) : evF (f91.X k) (bodyOf Try.f91) Try.f91.ntmps Try.f91.results.toList [.v (.c (.sl 5 xs1))] = f91.step k (fun x => f91.w x some) xs1 := by kernel_rfl
theorem f91.hok (k : Nat) : HOK (f91.X k) (bodyOf Try.f91) where
  l := allP_mem (by exact trivial)
  j := allP_mem (by exact trivial)
theorem f91.sound0 (k : Nat) : SoundC env Try.prog 91 (f91.hd k) := by
  intro ps_
  show GoodC _ _ _ ps_ (f91.hd k ps_)
  unfold f91.hd
  refine gC_ok (p := GoodC env Try.prog 91 _) goodC_no fun _ _ h => ?_
  subst h
  refine qC_ok (p := GoodC env Try.prog 91 _) goodC_no fun _ h => ?_
  subst h
  refine qSl_ok (p := GoodC env Try.prog 91 _) goodC_no fun _ h => ?_
  subst h
  refine gE_ok (p := GoodC env Try.prog 91 _) goodC_no fun h => ?_
  subst h
  exact fun_good (fun_sound envOK (cs_sound _ (by exact ⟨⟨f85.sound k, f85.fnok⟩, ⟨f150.sound k, f150.fnok⟩, ⟨f151.sound k, f151.fnok⟩, trivial⟩)) (f91.hok k) Try.func91 rfl) ((f91.ev k _).trans (f91.nat k _ _))
theorem f91.sound (k : Nat) : SoundC env Try.prog 91 (f91.e k).F := soundC_coer (f91.sound0 k) [[.rd 5]]
theorem f91.fnok : FnOK Try.prog 91 := fn_ok Try.func91 (by kernel_rfl) rfl
def f29.step {R : Type} (k : Nat) (ret : ((Int × ByteArray × ByteArray × Int × Int × Int × Int × Bool × Bool × Int) ⊕ (Int × ByteArray × ByteArray × Int × Int × Int × Int × Bool × Bool × (List Int) × Int)) → Option R) (xs1 : List Int) : Option R :=
  if (decide ((((List.length xs1) : Nat) : Int) > (65536 : Int))) = true then
    ret (.inl ((0 : Int), ByteArray.empty, ByteArray.empty, (0 : Int), (0 : Int), (0 : Int), (0 : Int), false, false, (2 : Int)))
  else
    (f91 k xs1).bind (Sum.elim (fun t2 => ret (.inl (t2.1, t2.2.1, t2.2.2.1, t2.2.2.2.1, t2.2.2.2.2.1, t2.2.2.2.2.2.1, t2.2.2.2.2.2.2.1, t2.2.2.2.2.2.2.2.1, t2.2.2.2.2.2.2.2.2.1, t2.2.2.2.2.2.2.2.2.2))) (fun t3 => ret (.inr (t3.1, t3.2.1, t3.2.2.1, t3.2.2.2.1, t3.2.2.2.2.1, t3.2.2.2.2.2.1, t3.2.2.2.2.2.2.1, t3.2.2.2.2.2.2.2.1, t3.2.2.2.2.2.2.2.2.1, t3.2.2.2.2.2.2.2.2.2.1, t3.2.2.2.2.2.2.2.2.2.2))))
def f29 (k : Nat) (xs1 : List Int) : Option ((Int × ByteArray × ByteArray × Int × Int × Int × Int × Bool × Bool × Int) ⊕ (Int × ByteArray × ByteArray × Int × Int × Int × Int × Bool × Bool × (List Int) × Int)) := f29.step k some xs1
def f29.w {R : Type} : ((Int × ByteArray × ByteArray × Int × Int × Int × Int × Bool × Bool × Int) ⊕ (Int × ByteArray × ByteArray × Int × Int × Int × Int × Bool × Bool × (List Int) × Int)) → (Res env → Option R) → Option R := fun x K => Sum.elim (fun t4 => K ⟨.tup [.g [.s (.int .i64 t4.1), .s (.string t4.2.1), .s (.string t4.2.2.1), .s (.int .i64 t4.2.2.2.1), .s (.int .i64 t4.2.2.2.2.1), .s (.int .i64 t4.2.2.2.2.2.1), .s (.int .i64 t4.2.2.2.2.2.2.1), .s (.bool t4.2.2.2.2.2.2.2.1), .s (.bool t4.2.2.2.2.2.2.2.2.1), .s (.slice none 0 0)], .c (.s (.int .i64 t4.2.2.2.2.2.2.2.2.2))], [[]]⟩) (fun t5 => K ⟨.tup [.g [.s (.int .i64 t5.1), .s (.string t5.2.1), .s (.string t5.2.2.1), .s (.int .i64 t5.2.2.2.1), .s (.int .i64 t5.2.2.2.2.1), .s (.int .i64 t5.2.2.2.2.2.1), .s (.int .i64 t5.2.2.2.2.2.2.1), .s (.bool t5.2.2.2.2.2.2.2.1), .s (.bool t5.2.2.2.2.2.2.2.2.1), .own true 5 t5.2.2.2.2.2.2.2.2.2.1], .c (.s (.int .i64 t5.2.2.2.2.2.2.2.2.2.2))], [[]]⟩) x
theorem f29.wn (x : ((Int × ByteArray × ByteArray × Int × Int × Int × Int × Bool × Bool × Int) ⊕ (Int × ByteArray × ByteArray × Int × Int × Int × Int × Bool × Bool × (List Int) × Int))) : ∃ res, ∀ {R : Type} (K : Res env → Option R), f29.w x K = K res := by
  rcases x with x | x <;> exact ⟨_, fun _ => rfl⟩
def f29.hd (k : Nat) (ps_ : List (P2 env)) : Cl env :=
  gC Cl.no ps_ fun p_ ps_ => qC Cl.no p_ fun c_ => qSl Cl.no 5 c_ fun xs1 => gE Cl.no ps_ <| { α := (Int × ByteArray × ByteArray × Int × Int × Int × Int × Bool × Bool × Int) ⊕ (Int × ByteArray × ByteArray × Int × Int × Int × Int × Bool × Bool × (List Int) × Int), o := f29 k xs1, w := f29.w, nat := fun x _ => f29.wn x }
def f29.e (k : Nat) : Entry env := ⟨fun ps => f29.hd k (coer [[.rd 5]] ps), []⟩
def f29.X (k : Nat) : Ctx env := { C := lookE [(91, f91.e k)], L := lookE [], J := lookE [], keep := lookD [], keepX := lookD [], span := lookN [], eff := fun n => memN n [], prep := lookP [], np := 0 }
theorem f29.nat {R : Type} (k : Nat) (g : ((Int × ByteArray × ByteArray × Int × Int × Int × Int × Bool × Bool × Int) ⊕ (Int × ByteArray × ByteArray × Int × Int × Int × Int × Bool × Bool × (List Int) × Int)) → Option R) (xs1 : List Int) : f29.step k g xs1 = (f29 k xs1).bind g := by
  simp only [f29, f29.step, bind_ite, bind_sum, Option.bind_assoc, Option.bind_some, Option.bind_none]
theorem f29.ev (k : Nat) (xs1 : List Int) : evF (f29.X k) (bodyOf Try.f29) Try.f29.ntmps Try.f29.results.toList [.v (.c (.sl 5 xs1))] = f29.step k (fun x => f29.w x some) xs1 := by kernel_rfl
theorem f29.hok (k : Nat) : HOK (f29.X k) (bodyOf Try.f29) where
  l := allP_mem (by exact trivial)
  j := allP_mem (by exact trivial)
theorem f29.sound0 (k : Nat) : SoundC env Try.prog 29 (f29.hd k) := by
  intro ps_
  show GoodC _ _ _ ps_ (f29.hd k ps_)
  unfold f29.hd
  refine gC_ok (p := GoodC env Try.prog 29 _) goodC_no fun _ _ h => ?_
  subst h
  refine qC_ok (p := GoodC env Try.prog 29 _) goodC_no fun _ h => ?_
  subst h
  refine qSl_ok (p := GoodC env Try.prog 29 _) goodC_no fun _ h => ?_
  subst h
  refine gE_ok (p := GoodC env Try.prog 29 _) goodC_no fun h => ?_
  subst h
  exact fun_good (fun_sound envOK (cs_sound _ (by exact ⟨⟨f91.sound k, f91.fnok⟩, trivial⟩)) (f29.hok k) Try.func29 rfl) ((f29.ev k _).trans (f29.nat k _ _))
theorem f29.sound (k : Nat) : SoundC env Try.prog 29 (f29.e k).F := soundC_coer (f29.sound0 k) [[.rd 5]]
theorem f29.fnok : FnOK Try.prog 29 := fn_ok Try.func29 (by kernel_rfl) rfl
def f93.step {R : Type} (k : Nat) (ret : Int → Option R) (xs1 : List Int) (a2 : Int) : Option R :=
  if (0 : Int) ≤ a2 then
    if a2 < ((List.length xs1 : Nat) : Int) then
      if (0 : Int) ≤ (IntKind.i64.wrap (a2 + (1 : Int))) then
        if (IntKind.i64.wrap (a2 + (1 : Int))) < ((List.length xs1 : Nat) : Int) then
          ret (bitsV .or .i64 (IntKind.i64.wrap ((IntKind.i64.wrap (List.getD xs1 (Int.toNat a2) (0 : Int))) * (2 ^ (min (8 : Int).toNat IntKind.i64.bits)))) (IntKind.i64.wrap (List.getD xs1 (Int.toNat (IntKind.i64.wrap (a2 + (1 : Int)))) (0 : Int))))
        else none
      else none
    else none
  else none
def f93 (k : Nat) (xs1 : List Int) (a2 : Int) : Option Int := f93.step k some xs1 a2
def f93.w {R : Type} : Int → (Res env → Option R) → Option R := fun t3 K => K ⟨.v (.c (.s (.int .i64 t3))), [[], []]⟩
theorem f93.wn (x : Int) : ∃ res, ∀ {R : Type} (K : Res env → Option R), f93.w x K = K res := by
  exact ⟨_, fun _ => rfl⟩
def f93.hd (k : Nat) (ps_ : List (P2 env)) : Cl env :=
  gC Cl.no ps_ fun p_ ps_ => qC Cl.no p_ fun c_ => qSl Cl.no 5 c_ fun xs1 => gC Cl.no ps_ fun p_ ps_ => qC Cl.no p_ fun c_ => qS Cl.no c_ fun v_ => vI Cl.no .i64 v_ fun a2 => gE Cl.no ps_ <| { α := Int, o := f93 k xs1 a2, w := f93.w, nat := fun x _ => f93.wn x }
def f93.e (k : Nat) : Entry env := ⟨fun ps => f93.hd k (coer [[.rd 5], [.no]] ps), []⟩
def f93.X (k : Nat) : Ctx env := { C := lookE [], L := lookE [], J := lookE [], keep := lookD [], keepX := lookD [], span := lookN [], eff := fun n => memN n [], prep := lookP [], np := 0 }
theorem f93.nat {R : Type} (k : Nat) (g : Int → Option R) (xs1 : List Int) (a2 : Int) : f93.step k g xs1 a2 = (f93 k xs1 a2).bind g := by
  simp only [f93, f93.step, bind_ite, bind_sum, Option.bind_assoc, Option.bind_some, Option.bind_none]
theorem f93.ev (k : Nat) (xs1 : List Int) (a2 : Int) : evF (f93.X k) (bodyOf Try.f93) Try.f93.ntmps Try.f93.results.toList [.v (.c (.sl 5 xs1)), .v (.c (.s (.int .i64 a2)))] = f93.step k (fun x => f93.w x some) xs1 a2 := by kernel_rfl
theorem f93.hok (k : Nat) : HOK (f93.X k) (bodyOf Try.f93) where
  l := allP_mem (by exact trivial)
  j := allP_mem (by exact trivial)
theorem f93.sound0 (k : Nat) : SoundC env Try.prog 93 (f93.hd k) := by
  intro ps_
  show GoodC _ _ _ ps_ (f93.hd k ps_)
  unfold f93.hd
  refine gC_ok (p := GoodC env Try.prog 93 _) goodC_no fun _ _ h => ?_
  subst h
  refine qC_ok (p := GoodC env Try.prog 93 _) goodC_no fun _ h => ?_
  subst h
  refine qSl_ok (p := GoodC env Try.prog 93 _) goodC_no fun _ h => ?_
  subst h
  refine gC_ok (p := GoodC env Try.prog 93 _) goodC_no fun _ _ h => ?_
  subst h
  refine qC_ok (p := GoodC env Try.prog 93 _) goodC_no fun _ h => ?_
  subst h
  refine qS_ok (p := GoodC env Try.prog 93 _) goodC_no fun _ h => ?_
  subst h
  refine vI_ok (p := GoodC env Try.prog 93 _) goodC_no fun _ h => ?_
  subst h
  refine gE_ok (p := GoodC env Try.prog 93 _) goodC_no fun h => ?_
  subst h
  exact fun_good (fun_sound envOK (cs_sound _ (by exact trivial)) (f93.hok k) Try.func93 rfl) ((f93.ev k _ _).trans (f93.nat k _ _ _))
theorem f93.sound (k : Nat) : SoundC env Try.prog 93 (f93.e k).F := soundC_coer (f93.sound0 k) [[.rd 5], [.no]]
theorem f93.says (k : Nat) (xs1 : List Int) (a2 : Int) (t4 : Int) (h_ : f93 k xs1 a2 = some t4) : SoundAt env Try.prog 93 [.v (.c (.sl 5 xs1)), .v (.c (.s (.int .i64 a2)))] ⟨.v (.c (.s (.int .i64 t4))), [[], []]⟩ :=
  fun_sound envOK (cs_sound _ (by exact trivial)) (f93.hok k) Try.func93 rfl _ _ (((f93.ev k xs1 a2).trans (f93.nat k _ xs1 a2)).trans (by rw [h_]; rfl))
theorem f93.fnok : FnOK Try.prog 93 := fn_ok Try.func93 (by kernel_rfl) rfl
def f83.step {R : Type} (k : Nat) (ret : Bool → Option R) (a1 : Int) (a2 : Int) (a3 : Int) : Option R :=
  if (decide (a1 ≥ a2)) = true then
    ret (decide (a1 ≤ a3))
  else
    ret false
def f83 (k : Nat) (a1 : Int) (a2 : Int) (a3 : Int) : Option Bool := f83.step k some a1 a2 a3
def f83.w {R : Type} : Bool → (Res env → Option R) → Option R := fun t4 K => K ⟨.v (.c (.s (.bool t4))), [[], [], []]⟩
theorem f83.wn (x : Bool) : ∃ res, ∀ {R : Type} (K : Res env → Option R), f83.w x K = K res := by
  exact ⟨_, fun _ => rfl⟩
def f83.hd (k : Nat) (ps_ : List (P2 env)) : Cl env :=
  gC Cl.no ps_ fun p_ ps_ => qC Cl.no p_ fun c_ => qS Cl.no c_ fun v_ => vI Cl.no .i64 v_ fun a1 => gC Cl.no ps_ fun p_ ps_ => qC Cl.no p_ fun c_ => qS Cl.no c_ fun v_ => vI Cl.no .i64 v_ fun a2 => gC Cl.no ps_ fun p_ ps_ => qC Cl.no p_ fun c_ => qS Cl.no c_ fun v_ => vI Cl.no .i64 v_ fun a3 => gE Cl.no ps_ <| { α := Bool, o := f83 k a1 a2 a3, w := f83.w, nat := fun x _ => f83.wn x }
def f83.e (k : Nat) : Entry env := ⟨f83.hd k, []⟩
def f83.X (k : Nat) : Ctx env := { C := lookE [], L := lookE [], J := lookE [], keep := lookD [], keepX := lookD [], span := lookN [], eff := fun n => memN n [], prep := lookP [], np := 0 }
theorem f83.nat {R : Type} (k : Nat) (g : Bool → Option R) (a1 : Int) (a2 : Int) (a3 : Int) : f83.step k g a1 a2 a3 = (f83 k a1 a2 a3).bind g := by
  simp only [f83, f83.step, bind_ite, bind_sum, Option.bind_assoc, Option.bind_some, Option.bind_none]
theorem f83.ev (k : Nat) (a1 : Int) (a2 : Int) (a3 : Int) : evF (f83.X k) (bodyOf Try.f83) Try.f83.ntmps Try.f83.results.toList [.v (.c (.s (.int .i64 a1))), .v (.c (.s (.int .i64 a2))), .v (.c (.s (.int .i64 a3)))] = f83.step k (fun x => f83.w x some) a1 a2 a3 := by kernel_rfl
theorem f83.hok (k : Nat) : HOK (f83.X k) (bodyOf Try.f83) where
  l := allP_mem (by exact trivial)
  j := allP_mem (by exact trivial)
theorem f83.sound (k : Nat) : SoundC env Try.prog 83 ((f83.e k).F) := by
  intro ps_
  show GoodC _ _ _ ps_ (f83.hd k ps_)
  unfold f83.hd
  refine gC_ok (p := GoodC env Try.prog 83 _) goodC_no fun _ _ h => ?_
  subst h
  refine qC_ok (p := GoodC env Try.prog 83 _) goodC_no fun _ h => ?_
  subst h
  refine qS_ok (p := GoodC env Try.prog 83 _) goodC_no fun _ h => ?_
  subst h
  refine vI_ok (p := GoodC env Try.prog 83 _) goodC_no fun _ h => ?_
  subst h
  refine gC_ok (p := GoodC env Try.prog 83 _) goodC_no fun _ _ h => ?_
  subst h
  refine qC_ok (p := GoodC env Try.prog 83 _) goodC_no fun _ h => ?_
  subst h
  refine qS_ok (p := GoodC env Try.prog 83 _) goodC_no fun _ h => ?_
  subst h
  refine vI_ok (p := GoodC env Try.prog 83 _) goodC_no fun _ h => ?_
  subst h
  refine gC_ok (p := GoodC env Try.prog 83 _) goodC_no fun _ _ h => ?_
  subst h
  refine qC_ok (p := GoodC env Try.prog 83 _) goodC_no fun _ h => ?_
  subst h
  refine qS_ok (p := GoodC env Try.prog 83 _) goodC_no fun _ h => ?_
  subst h
  refine vI_ok (p := GoodC env Try.prog 83 _) goodC_no fun _ h => ?_
  subst h
  refine gE_ok (p := GoodC env Try.prog 83 _) goodC_no fun h => ?_
  subst h
  exact fun_good (fun_sound envOK (cs_sound _ (by exact trivial)) (f83.hok k) Try.func83 rfl) ((f83.ev k _ _ _).trans (f83.nat k _ _ _ _))
theorem f83.says (k : Nat) (a1 : Int) (a2 : Int) (a3 : Int) (t5 : Bool) (h_ : f83 k a1 a2 a3 = some t5) : SoundAt env Try.prog 83 [.v (.c (.s (.int .i64 a1))), .v (.c (.s (.int .i64 a2))), .v (.c (.s (.int .i64 a3)))] ⟨.v (.c (.s (.bool t5))), [[], [], []]⟩ :=
  fun_sound envOK (cs_sound _ (by exact trivial)) (f83.hok k) Try.func83 rfl _ _ (((f83.ev k a1 a2 a3).trans (f83.nat k _ a1 a2 a3)).trans (by rw [h_]; rfl))
theorem f83.fnok : FnOK Try.prog 83 := fn_ok Try.func83 (by kernel_rfl) rfl
def f20.step {R : Type} (k : Nat) (ret : Bool → Option R) (a1 : Int) (s2 : ByteArray) (s3 : ByteArray) (a4 : Int) (a5 : Int) (a6 : Int) (a7 : Int) (b8 : Bool) (b9 : Bool) (xs10 : List Int) : Option R :=
  (f83 k a4 (0 : Int) (255 : Int)).bind fun t11 => if (!t11) = false then
      (f83 k a5 (0 : Int) (255 : Int)).bind fun t12 => if (!t12) = false then
          if (decide ((((List.length xs10) : Nat) : Int) > (1500 : Int))) = true then
            ret false
          else
            if (decide (a1 = (4 : Int))) = true then
              if (decide ((((ByteArray.size s2) : Nat) : Int) ≠ (4 : Int))) = false then
                if (decide ((((ByteArray.size s3) : Nat) : Int) ≠ (4 : Int))) = false then
                  (f83 k a6 (0 : Int) (65535 : Int)).bind fun t13 => if (!t13) = false then
                      (f83 k a7 (0 : Int) (8191 : Int)).bind fun t14 => if (!t14) = true then
                          ret false
                        else
                          if b9 = true then
                            if b8 = false then
                              if (decide (a7 > (0 : Int))) = true then
                                ret false
                              else
                                if b8 = true then
                                  if (decide ((((List.length xs10) : Nat) : Int) = (0 : Int))) = false then
                                    if (decide ((Int.tmod (((List.length xs10) : Nat) : Int) (8 : Int)) ≠ (0 : Int))) = true then
                                      ret false
                                    else
                                      ret (decide ((IntKind.i64.wrap ((IntKind.i64.wrap ((8 : Int) * a7)) + (((List.length xs10) : Nat) : Int))) ≤ (65515 : Int)))
                                  else
                                    ret false
                                else
                                  ret (decide ((IntKind.i64.wrap ((IntKind.i64.wrap ((8 : Int) * a7)) + (((List.length xs10) : Nat) : Int))) ≤ (65515 : Int)))
                            else
                              ret false
                          else
                            if b8 = true then
                              if (decide ((((List.length xs10) : Nat) : Int) = (0 : Int))) = false then
                                if (decide ((Int.tmod (((List.length xs10) : Nat) : Int) (8 : Int)) ≠ (0 : Int))) = true then
                                  ret false
                                else
                                  ret (decide ((IntKind.i64.wrap ((IntKind.i64.wrap ((8 : Int) * a7)) + (((List.length xs10) : Nat) : Int))) ≤ (65515 : Int)))
                              else
                                ret false
                            else
                              ret (decide ((IntKind.i64.wrap ((IntKind.i64.wrap ((8 : Int) * a7)) + (((List.length xs10) : Nat) : Int))) ≤ (65515 : Int)))
                    else
                      ret false
                else
                  ret false
              else
                ret false
            else
              if (decide (a1 = (6 : Int))) = true then
                if (decide ((((ByteArray.size s2) : Nat) : Int) = (16 : Int))) = true then
                  if (decide ((((ByteArray.size s3) : Nat) : Int) = (16 : Int))) = true then
                    if (decide (a6 = (0 : Int))) = true then
                      if (decide (a7 = (0 : Int))) = true then
                        if (!b8) = true then
                          ret (!b9)
                        else
                          ret false
                      else
                        ret false
                    else
                      ret false
                  else
                    ret false
                else
                  ret false
              else
                ret false
        else
          ret false
    else
      ret false
def f20 (k : Nat) (a1 : Int) (s2 : ByteArray) (s3 : ByteArray) (a4 : Int) (a5 : Int) (a6 : Int) (a7 : Int) (b8 : Bool) (b9 : Bool) (xs10 : List Int) : Option Bool := f20.step k some a1 s2 s3 a4 a5 a6 a7 b8 b9 xs10
def f20.w {R : Type} : Bool → (Res env → Option R) → Option R := fun t15 K => K ⟨.v (.c (.s (.bool t15))), [[]]⟩
theorem f20.wn (x : Bool) : ∃ res, ∀ {R : Type} (K : Res env → Option R), f20.w x K = K res := by
  exact ⟨_, fun _ => rfl⟩
def f20.hd (k : Nat) (ps_ : List (P2 env)) : Cl env :=
  gC Cl.no ps_ fun p_ ps_ => qG Cl.no p_ fun cs_ => gC Cl.no cs_ fun c_ cs_ => qS Cl.no c_ fun v_ => vI Cl.no .i64 v_ fun a1 => gC Cl.no cs_ fun c_ cs_ => qS Cl.no c_ fun v_ => vS Cl.no v_ fun s2 => gC Cl.no cs_ fun c_ cs_ => qS Cl.no c_ fun v_ => vS Cl.no v_ fun s3 => gC Cl.no cs_ fun c_ cs_ => qS Cl.no c_ fun v_ => vI Cl.no .i64 v_ fun a4 => gC Cl.no cs_ fun c_ cs_ => qS Cl.no c_ fun v_ => vI Cl.no .i64 v_ fun a5 => gC Cl.no cs_ fun c_ cs_ => qS Cl.no c_ fun v_ => vI Cl.no .i64 v_ fun a6 => gC Cl.no cs_ fun c_ cs_ => qS Cl.no c_ fun v_ => vI Cl.no .i64 v_ fun a7 => gC Cl.no cs_ fun c_ cs_ => qS Cl.no c_ fun v_ => vB Cl.no v_ fun b8 => gC Cl.no cs_ fun c_ cs_ => qS Cl.no c_ fun v_ => vB Cl.no v_ fun b9 => gC Cl.no cs_ fun c_ cs_ => qSl Cl.no 5 c_ fun xs10 => gE Cl.no cs_ <| gE Cl.no ps_ <| { α := Bool, o := f20 k a1 s2 s3 a4 a5 a6 a7 b8 b9 xs10, w := f20.w, nat := fun x _ => f20.wn x }
def f20.e (k : Nat) : Entry env := ⟨fun ps => f20.hd k (coer [[.no, .no, .no, .no, .no, .no, .no, .no, .no, .rd 5]] ps), []⟩
def f20.X (k : Nat) : Ctx env := { C := lookE [(83, f83.e k)], L := lookE [], J := lookE [], keep := lookD [], keepX := lookD [], span := lookN [], eff := fun n => memN n [], prep := lookP [], np := 0 }
theorem f20.nat {R : Type} (k : Nat) (g : Bool → Option R) (a1 : Int) (s2 : ByteArray) (s3 : ByteArray) (a4 : Int) (a5 : Int) (a6 : Int) (a7 : Int) (b8 : Bool) (b9 : Bool) (xs10 : List Int) : f20.step k g a1 s2 s3 a4 a5 a6 a7 b8 b9 xs10 = (f20 k a1 s2 s3 a4 a5 a6 a7 b8 b9 xs10).bind g := by
  simp only [f20, f20.step, bind_ite, bind_sum, Option.bind_assoc, Option.bind_some, Option.bind_none]
theorem f20.ev (k : Nat) (a1 : Int) (s2 : ByteArray) (s3 : ByteArray) (a4 : Int) (a5 : Int) (a6 : Int) (a7 : Int) (b8 : Bool) (b9 : Bool) (xs10 : List Int) : evF (f20.X k) (bodyOf Try.f20) Try.f20.ntmps Try.f20.results.toList [.g [.s (.int .i64 a1), .s (.string s2), .s (.string s3), .s (.int .i64 a4), .s (.int .i64 a5), .s (.int .i64 a6), .s (.int .i64 a7), .s (.bool b8), .s (.bool b9), .sl 5 xs10]] = f20.step k (fun x => f20.w x some) a1 s2 s3 a4 a5 a6 a7 b8 b9 xs10 := by kernel_rfl
theorem f20.hok (k : Nat) : HOK (f20.X k) (bodyOf Try.f20) where
  l := allP_mem (by exact trivial)
  j := allP_mem (by exact trivial)
theorem f20.sound0 (k : Nat) : SoundC env Try.prog 20 (f20.hd k) := by
  intro ps_
  show GoodC _ _ _ ps_ (f20.hd k ps_)
  unfold f20.hd
  refine gC_ok (p := GoodC env Try.prog 20 _) goodC_no fun _ _ h => ?_
  subst h
  refine qG_ok (p := GoodC env Try.prog 20 _) goodC_no fun _ h => ?_
  subst h
  refine gC_ok (p := GoodC env Try.prog 20 _) goodC_no fun _ _ h => ?_
  subst h
  refine qS_ok (p := GoodC env Try.prog 20 _) goodC_no fun _ h => ?_
  subst h
  refine vI_ok (p := GoodC env Try.prog 20 _) goodC_no fun _ h => ?_
  subst h
  refine gC_ok (p := GoodC env Try.prog 20 _) goodC_no fun _ _ h => ?_
  subst h
  refine qS_ok (p := GoodC env Try.prog 20 _) goodC_no fun _ h => ?_
  subst h
  refine vS_ok (p := GoodC env Try.prog 20 _) goodC_no fun _ h => ?_
  subst h
  refine gC_ok (p := GoodC env Try.prog 20 _) goodC_no fun _ _ h => ?_
  subst h
  refine qS_ok (p := GoodC env Try.prog 20 _) goodC_no fun _ h => ?_
  subst h
  refine vS_ok (p := GoodC env Try.prog 20 _) goodC_no fun _ h => ?_
  subst h
  refine gC_ok (p := GoodC env Try.prog 20 _) goodC_no fun _ _ h => ?_
  subst h
  refine qS_ok (p := GoodC env Try.prog 20 _) goodC_no fun _ h => ?_
  subst h
  refine vI_ok (p := GoodC env Try.prog 20 _) goodC_no fun _ h => ?_
  subst h
  refine gC_ok (p := GoodC env Try.prog 20 _) goodC_no fun _ _ h => ?_
  subst h
  refine qS_ok (p := GoodC env Try.prog 20 _) goodC_no fun _ h => ?_
  subst h
  refine vI_ok (p := GoodC env Try.prog 20 _) goodC_no fun _ h => ?_
  subst h
  refine gC_ok (p := GoodC env Try.prog 20 _) goodC_no fun _ _ h => ?_
  subst h
  refine qS_ok (p := GoodC env Try.prog 20 _) goodC_no fun _ h => ?_
  subst h
  refine vI_ok (p := GoodC env Try.prog 20 _) goodC_no fun _ h => ?_
  subst h
  refine gC_ok (p := GoodC env Try.prog 20 _) goodC_no fun _ _ h => ?_
  subst h
  refine qS_ok (p := GoodC env Try.prog 20 _) goodC_no fun _ h => ?_
  subst h
  refine vI_ok (p := GoodC env Try.prog 20 _) goodC_no fun _ h => ?_
  subst h
  refine gC_ok (p := GoodC env Try.prog 20 _) goodC_no fun _ _ h => ?_
  subst h
  refine qS_ok (p := GoodC env Try.prog 20 _) goodC_no fun _ h => ?_
  subst h
  refine vB_ok (p := GoodC env Try.prog 20 _) goodC_no fun _ h => ?_
  subst h
  refine gC_ok (p := GoodC env Try.prog 20 _) goodC_no fun _ _ h => ?_
  subst h
  refine qS_ok (p := GoodC env Try.prog 20 _) goodC_no fun _ h => ?_
  subst h
  refine vB_ok (p := GoodC env Try.prog 20 _) goodC_no fun _ h => ?_
  subst h
  refine gC_ok (p := GoodC env Try.prog 20 _) goodC_no fun _ _ h => ?_
  subst h
  refine qSl_ok (p := GoodC env Try.prog 20 _) goodC_no fun _ h => ?_
  subst h
  refine gE_ok (p := GoodC env Try.prog 20 _) goodC_no fun h => ?_
  subst h
  refine gE_ok (p := GoodC env Try.prog 20 _) goodC_no fun h => ?_
  subst h
  exact fun_good (fun_sound envOK (cs_sound _ (by exact ⟨⟨f83.sound k, f83.fnok⟩, trivial⟩)) (f20.hok k) Try.func20 rfl) ((f20.ev k _ _ _ _ _ _ _ _ _ _).trans (f20.nat k _ _ _ _ _ _ _ _ _ _ _))
theorem f20.sound (k : Nat) : SoundC env Try.prog 20 (f20.e k).F := soundC_coer (f20.sound0 k) [[.no, .no, .no, .no, .no, .no, .no, .no, .no, .rd 5]]
theorem f20.says (k : Nat) (a1 : Int) (s2 : ByteArray) (s3 : ByteArray) (a4 : Int) (a5 : Int) (a6 : Int) (a7 : Int) (b8 : Bool) (b9 : Bool) (xs10 : List Int) (t16 : Bool) (h_ : f20 k a1 s2 s3 a4 a5 a6 a7 b8 b9 xs10 = some t16) : SoundAt env Try.prog 20 [.g [.s (.int .i64 a1), .s (.string s2), .s (.string s3), .s (.int .i64 a4), .s (.int .i64 a5), .s (.int .i64 a6), .s (.int .i64 a7), .s (.bool b8), .s (.bool b9), .sl 5 xs10]] ⟨.v (.c (.s (.bool t16))), [[]]⟩ :=
  fun_sound envOK (cs_sound _ (by exact ⟨⟨f83.sound k, f83.fnok⟩, trivial⟩)) (f20.hok k) Try.func20 rfl _ _ (((f20.ev k a1 s2 s3 a4 a5 a6 a7 b8 b9 xs10).trans (f20.nat k _ a1 s2 s3 a4 a5 a6 a7 b8 b9 xs10)).trans (by rw [h_]; rfl))
theorem f20.fnok : FnOK Try.prog 20 := fn_ok Try.func20 (by kernel_rfl) rfl
def f92.step {R : Type} (k : Nat) (ret : ((Int × ByteArray × ByteArray × Int × Int × Int × Int × Bool × Bool × Int) ⊕ (Int × ByteArray × ByteArray × Int × Int × Int × Int × Bool × Bool × (List Int) × Int)) → Option R) (xs1 : List Int) : Option R :=
  if (decide ((((List.length xs1) : Nat) : Int) < (40 : Int))) = false then
    (f93 k xs1 (4 : Int)).bind fun t2 => if (decide (t2 ≠ (IntKind.i64.wrap ((((List.length xs1) : Nat) : Int) - (40 : Int))))) = true then
        ret (.inl ((0 : Int), ByteArray.empty, ByteArray.empty, (0 : Int), (0 : Int), (0 : Int), (0 : Int), false, false, (3 : Int)))
      else
        if (24 : Int) ≤ ((List.length xs1 : Nat) : Int) then
          if (40 : Int) ≤ ((List.length xs1 : Nat) : Int) then
            if (7 : Int) < ((List.length xs1 : Nat) : Int) then
              if (6 : Int) < ((List.length xs1 : Nat) : Int) then
                if (40 : Int) ≤ ((List.length xs1 : Nat) : Int) then
                  if ((List.length xs1 : Nat) : Int) ≤ ((List.length xs1 : Nat) : Int) then
                    if (List.length ([] : List Int) + List.length (List.drop 40 (List.take (Int.toNat ((List.length xs1 : Nat) : Int)) xs1))) * 1 ≤ maxN then
                      (f20 k (6 : Int) (strOf (List.drop 8 (List.take 24 xs1))) (strOf (List.drop 24 (List.take 40 xs1))) (IntKind.i64.wrap (List.getD xs1 7 (0 : Int))) (IntKind.i64.wrap (List.getD xs1 6 (0 : Int))) (0 : Int) (0 : Int) false false (([] : List Int) ++ (List.drop 40 (List.take (Int.toNat ((List.length xs1 : Nat) : Int)) xs1)))).bind fun t3 => if (!t3) = true then
                          ret (.inl ((0 : Int), ByteArray.empty, ByteArray.empty, (0 : Int), (0 : Int), (0 : Int), (0 : Int), false, false, (1 : Int)))
                        else
                          ret (.inr ((6 : Int), (strOf (List.drop 8 (List.take 24 xs1))), (strOf (List.drop 24 (List.take 40 xs1))), (IntKind.i64.wrap (List.getD xs1 7 (0 : Int))), (IntKind.i64.wrap (List.getD xs1 6 (0 : Int))), (0 : Int), (0 : Int), false, false, (([] : List Int) ++ (List.drop 40 (List.take (Int.toNat ((List.length xs1 : Nat) : Int)) xs1))), (0 : Int)))
                    else none
                  else none
                else none
              else none
            else none
          else none
        else none
  else
    ret (.inl ((0 : Int), ByteArray.empty, ByteArray.empty, (0 : Int), (0 : Int), (0 : Int), (0 : Int), false, false, (3 : Int)))
def f92 (k : Nat) (xs1 : List Int) : Option ((Int × ByteArray × ByteArray × Int × Int × Int × Int × Bool × Bool × Int) ⊕ (Int × ByteArray × ByteArray × Int × Int × Int × Int × Bool × Bool × (List Int) × Int)) := f92.step k some xs1
def f92.w {R : Type} : ((Int × ByteArray × ByteArray × Int × Int × Int × Int × Bool × Bool × Int) ⊕ (Int × ByteArray × ByteArray × Int × Int × Int × Int × Bool × Bool × (List Int) × Int)) → (Res env → Option R) → Option R := fun x K => Sum.elim (fun t4 => K ⟨.tup [.g [.s (.int .i64 t4.1), .s (.string t4.2.1), .s (.string t4.2.2.1), .s (.int .i64 t4.2.2.2.1), .s (.int .i64 t4.2.2.2.2.1), .s (.int .i64 t4.2.2.2.2.2.1), .s (.int .i64 t4.2.2.2.2.2.2.1), .s (.bool t4.2.2.2.2.2.2.2.1), .s (.bool t4.2.2.2.2.2.2.2.2.1), .s (.slice none 0 0)], .c (.s (.int .i64 t4.2.2.2.2.2.2.2.2.2))], [[]]⟩) (fun t5 => K ⟨.tup [.g [.s (.int .i64 t5.1), .s (.string t5.2.1), .s (.string t5.2.2.1), .s (.int .i64 t5.2.2.2.1), .s (.int .i64 t5.2.2.2.2.1), .s (.int .i64 t5.2.2.2.2.2.1), .s (.int .i64 t5.2.2.2.2.2.2.1), .s (.bool t5.2.2.2.2.2.2.2.1), .s (.bool t5.2.2.2.2.2.2.2.2.1), .own true 5 t5.2.2.2.2.2.2.2.2.2.1], .c (.s (.int .i64 t5.2.2.2.2.2.2.2.2.2.2))], [[]]⟩) x
theorem f92.wn (x : ((Int × ByteArray × ByteArray × Int × Int × Int × Int × Bool × Bool × Int) ⊕ (Int × ByteArray × ByteArray × Int × Int × Int × Int × Bool × Bool × (List Int) × Int))) : ∃ res, ∀ {R : Type} (K : Res env → Option R), f92.w x K = K res := by
  rcases x with x | x <;> exact ⟨_, fun _ => rfl⟩
def f92.hd (k : Nat) (ps_ : List (P2 env)) : Cl env :=
  gC Cl.no ps_ fun p_ ps_ => qC Cl.no p_ fun c_ => qSl Cl.no 5 c_ fun xs1 => gE Cl.no ps_ <| { α := (Int × ByteArray × ByteArray × Int × Int × Int × Int × Bool × Bool × Int) ⊕ (Int × ByteArray × ByteArray × Int × Int × Int × Int × Bool × Bool × (List Int) × Int), o := f92 k xs1, w := f92.w, nat := fun x _ => f92.wn x }
def f92.e (k : Nat) : Entry env := ⟨fun ps => f92.hd k (coer [[.rd 5]] ps), []⟩
def f92.X (k : Nat) : Ctx env := { C := lookE [(20, f20.e k), (93, f93.e k)], L := lookE [], J := lookE [], keep := lookD [], keepX := lookD [], span := lookN [], eff := fun n => memN n [3], prep := lookP [], np := 0 }
theorem f92.nat {R : Type} (k : Nat) (g : ((Int × ByteArray × ByteArray × Int × Int × Int × Int × Bool × Bool × Int) ⊕ (Int × ByteArray × ByteArray × Int × Int × Int × Int × Bool × Bool × (List Int) × Int)) → Option R) (xs1 : List Int) : f92.step k g xs1 = (f92 k xs1).bind g := by
  simp only [f92, f92.step, bind_ite, bind_sum, Option.bind_assoc, Option.bind_some, Option.bind_none]
theorem f92.ev (k : Nat) (xs1 : List Int) : evF (f92.X k) (bodyOf Try.f92) Try.f92.ntmps Try.f92.results.toList [.v (.c (.sl 5 xs1))] = f92.step k (fun x => f92.w x some) xs1 := by kernel_rfl
theorem f92.hok (k : Nat) : HOK (f92.X k) (bodyOf Try.f92) where
  l := allP_mem (by exact trivial)
  j := allP_mem (by exact trivial)
theorem f92.sound0 (k : Nat) : SoundC env Try.prog 92 (f92.hd k) := by
  intro ps_
  show GoodC _ _ _ ps_ (f92.hd k ps_)
  unfold f92.hd
  refine gC_ok (p := GoodC env Try.prog 92 _) goodC_no fun _ _ h => ?_
  subst h
  refine qC_ok (p := GoodC env Try.prog 92 _) goodC_no fun _ h => ?_
  subst h
  refine qSl_ok (p := GoodC env Try.prog 92 _) goodC_no fun _ h => ?_
  subst h
  refine gE_ok (p := GoodC env Try.prog 92 _) goodC_no fun h => ?_
  subst h
  exact fun_good (fun_sound envOK (cs_sound _ (by exact ⟨⟨f20.sound k, f20.fnok⟩, ⟨f93.sound k, f93.fnok⟩, trivial⟩)) (f92.hok k) Try.func92 rfl) ((f92.ev k _).trans (f92.nat k _ _))
theorem f92.sound (k : Nat) : SoundC env Try.prog 92 (f92.e k).F := soundC_coer (f92.sound0 k) [[.rd 5]]
theorem f92.fnok : FnOK Try.prog 92 := fn_ok Try.func92 (by kernel_rfl) rfl
def f152.l3.step {R : Type} (k : Nat) (rec_ : (List Int) → Int → Int → Option R) (ret : Int → Option R) (xs2 : List Int) (a3 : Int) (a4 : Int) : Option R :=
  if (decide (a4 < (((List.length xs2) : Nat) : Int))) = true then
    if (0 : Int) ≤ a4 then
      if a4 < ((List.length xs2 : Nat) : Int) then
        if (decide ((IntKind.i64.wrap (a4 + (1 : Int))) < (((List.length xs2) : Nat) : Int))) = true then
          if (0 : Int) ≤ (IntKind.i64.wrap (a4 + (1 : Int))) then
            if (IntKind.i64.wrap (a4 + (1 : Int))) < ((List.length xs2 : Nat) : Int) then
              rec_ xs2 (IntKind.i64.wrap ((IntKind.i64.wrap (a3 + (IntKind.i64.wrap ((IntKind.i64.wrap (List.getD xs2 (Int.toNat a4) (0 : Int))) * (2 ^ (min (8 : Int).toNat IntKind.i64.bits)))))) + (IntKind.i64.wrap (List.getD xs2 (Int.toNat (IntKind.i64.wrap (a4 + (1 : Int)))) (0 : Int))))) (IntKind.i64.wrap (a4 + (2 : Int)))
            else none
          else none
        else
          rec_ xs2 (IntKind.i64.wrap (a3 + (IntKind.i64.wrap ((IntKind.i64.wrap (List.getD xs2 (Int.toNat a4) (0 : Int))) * (2 ^ (min (8 : Int).toNat IntKind.i64.bits)))))) (IntKind.i64.wrap (a4 + (2 : Int)))
      else none
    else none
  else
    ret a3
def f152.l3 (k : Nat) : Nat → (List Int) → Int → Int → Option Int
  | 0, _, _, _ => none
  | j + 1, xs2, a3, a4 => f152.l3.step k (fun xs2 a3 a4 => f152.l3 k j xs2 a3 a4) some xs2 a3 a4
def f152.l3.w {R : Type} : Int → (Exit → St env → Option R) → Option R := fun t8 K => K (.exit 0) ⟨fullT [3] 0 40 [.v (.c (.s (.int .i64 t8)))], [], 529⟩
def f152.l3.st (xs2 : List Int) (a3 : Int) (a4 : Int) : St env := ⟨fullT [0, 3, 4] 0 40 [.v (.c (.imm 5 xs2)), .v (.c (.s (.int .i64 a3))), .v (.c (.s (.int .i64 a4)))], [], 49⟩
def f152.l8.step {R : Type} (k : Nat) (rec_ : Int → Option R) (ret : Int → Option R) (a6 : Int) : Option R :=
  if (decide (a6 > (65535 : Int))) = true then
    rec_ (IntKind.i64.wrap ((bitsV .and .i64 a6 (65535 : Int)) + (Int.fdiv a6 (2 ^ (min (16 : Int).toNat IntKind.i64.bits)))))
  else
    ret a6
def f152.l8 (k : Nat) : Nat → Int → Option Int
  | 0, _ => none
  | j + 1, a6 => f152.l8.step k (fun a6 => f152.l8 k j a6) some a6
def f152.l8.w {R : Type} : Int → (Exit → St env → Option R) → Option R := fun t9 K => K (.exit 2) ⟨fullT [3] 0 40 [.v (.c (.s (.int .i64 t9)))], [], 657⟩
def f152.l8.st (a6 : Int) : St env := ⟨fullT [3] 0 40 [.v (.c (.s (.int .i64 a6)))], [], 529⟩
def f152.l3.hd (k : Nat) (ts_ : List (AV env)) (mm_ : Mem env) (n_ : Nat) : LCl env :=
  gTs LCl.no [0, 3, 4] 40 ts_ fun l_ => gV LCl.no l_ fun a_ l_ => rImm LCl.no 5 a_ fun xs2 => gV LCl.no l_ fun a_ l_ => rV LCl.no a_ fun v_ => vI LCl.no .i64 v_ fun a3 => gV LCl.no l_ fun a_ l_ => rV LCl.no a_ fun v_ => vI LCl.no .i64 v_ fun a4 => gE LCl.no l_ <| gE LCl.no mm_ <| gN LCl.no 49 n_ { α := Int, o := f152.l3 k k xs2 a3 a4, w := f152.l3.w }
def f152.l8.hd (k : Nat) (ts_ : List (AV env)) (mm_ : Mem env) (n_ : Nat) : LCl env :=
  gTs LCl.no [3] 40 ts_ fun l_ => gV LCl.no l_ fun a_ l_ => rV LCl.no a_ fun v_ => vI LCl.no .i64 v_ fun a6 => gE LCl.no l_ <| gE LCl.no mm_ <| gN LCl.no 529 n_ { α := Int, o := f152.l8 k k a6, w := f152.l8.w }
def f152.step {R : Type} (k : Nat) (ret : Int → Option R) (xs1 : List Int) : Option R :=
  (f152.l3 k k xs1 (0 : Int) (0 : Int)).bind fun t5 => (f152.l8 k k t5).bind fun t7 => ret t7
def f152 (k : Nat) (xs1 : List Int) : Option Int := f152.step k some xs1
def f152.w {R : Type} : Int → (Res env → Option R) → Option R := fun t10 K => K ⟨.v (.c (.s (.int .i64 t10))), [[]]⟩
theorem f152.wn (x : Int) : ∃ res, ∀ {R : Type} (K : Res env → Option R), f152.w x K = K res := by
  exact ⟨_, fun _ => rfl⟩
def f152.hd (k : Nat) (ps_ : List (P2 env)) : Cl env :=
  gC Cl.no ps_ fun p_ ps_ => qC Cl.no p_ fun c_ => qSl Cl.no 5 c_ fun xs1 => gE Cl.no ps_ <| { α := Int, o := f152 k xs1, w := f152.w, nat := fun x _ => f152.wn x }
def f152.e (k : Nat) : Entry env := ⟨fun ps => f152.hd k (coer [[.rd 5]] ps), []⟩
def f152.X (k : Nat) : Ctx env := { C := lookE [], L := lookE [(3, fun S => f152.l3.hd k S.ts S.m S.n), (8, fun S => f152.l8.hd k S.ts S.m S.n)], J := lookE [], keep := lookD [(3, [0, 3, 4]), (8, [3])], keepX := lookD [(3, [3]), (8, [3])], span := lookN [(3, 480), (8, 128)], eff := fun n => memN n [], prep := lookP [], np := 0 }
theorem f152.l3.nat {R : Type} (k : Nat) (rec_ : (List Int) → Int → Int → Option Int) (g : Int → Option R) (xs2 : List Int) (a3 : Int) (a4 : Int) : (f152.l3.step k rec_ some xs2 a3 a4).bind g = f152.l3.step k (fun xs2 a3 a4 => (rec_ xs2 a3 a4).bind g) g xs2 a3 a4 := by
  simp only [f152.l3.step, bind_ite, bind_sum, Option.bind_assoc, Option.bind_some, Option.bind_none]
theorem f152.l3.good (k : Nat) (xs2 : List Int) (a3 : Int) (a4 : Int) : GoodL (f152.X k) (nthC 0 (loopsOf (bodyOf Try.f152))) (f152.l3.st xs2 a3 a4) { α := Int, o := f152.l3 k k xs2 a3 a4, w := f152.l3.w } :=
  loop_good (ι := (List Int) × Int × Int) (α := Int) (fun i => f152.l3.st i.1 i.2.1 i.2.2) (fun j i => f152.l3 k j i.1 i.2.1 i.2.2) f152.l3.w (fun rec_ ret i => f152.l3.step k (fun xs2 a3 a4 => rec_ (xs2, a3, a4)) ret i.1 i.2.1 i.2.2)
    (fun _ => rfl) (fun _ _ => rfl) (fun rec_ g i => f152.l3.nat k _ g i.1 i.2.1 i.2.2) (fun {R} i0 i rec_ K => by kernel_rfl) k (xs2, a3, a4)
theorem f152.l3.all (k : Nat) (S : St env) : GoodL (f152.X k) (nthC 0 (loopsOf (bodyOf Try.f152))) S (f152.l3.hd k S.ts S.m S.n) := by
  obtain ⟨ts_, m_, n_⟩ := S
  show GoodL _ _ _ (f152.l3.hd k ts_ m_ n_)
  unfold f152.l3.hd
  refine gTs_ok (p := GoodL _ _ _) goodL_no fun _ h => ?_
  subst h
  refine gV_ok (p := GoodL _ _ _) goodL_no fun _ _ h => ?_
  subst h
  refine rImm_ok (p := GoodL _ _ _) goodL_no fun _ h => ?_
  subst h
  refine gV_ok (p := GoodL _ _ _) goodL_no fun _ _ h => ?_
  subst h
  refine rV_ok (p := GoodL _ _ _) goodL_no fun _ h => ?_
  subst h
  refine vI_ok (p := GoodL _ _ _) goodL_no fun _ h => ?_
  subst h
  refine gV_ok (p := GoodL _ _ _) goodL_no fun _ _ h => ?_
  subst h
  refine rV_ok (p := GoodL _ _ _) goodL_no fun _ h => ?_
  subst h
  refine vI_ok (p := GoodL _ _ _) goodL_no fun _ h => ?_
  subst h
  refine gE_ok (p := GoodL _ _ _) goodL_no fun h => ?_
  subst h
  refine gE_ok (p := GoodL _ _ _) goodL_no fun h => ?_
  subst h
  refine gN_ok (p := GoodL _ _ _) goodL_no fun h => ?_
  subst h
  exact f152.l3.good k _ _ _
theorem f152.l8.nat {R : Type} (k : Nat) (rec_ : Int → Option Int) (g : Int → Option R) (a6 : Int) : (f152.l8.step k rec_ some a6).bind g = f152.l8.step k (fun a6 => (rec_ a6).bind g) g a6 := by
  simp only [f152.l8.step, bind_ite, bind_sum, Option.bind_assoc, Option.bind_some, Option.bind_none]
theorem f152.l8.good (k : Nat) (a6 : Int) : GoodL (f152.X k) (nthC 1 (loopsOf (bodyOf Try.f152))) (f152.l8.st a6) { α := Int, o := f152.l8 k k a6, w := f152.l8.w } :=
  loop_good (ι := Int) (α := Int) (fun i => f152.l8.st i) (fun j i => f152.l8 k j i) f152.l8.w (fun rec_ ret i => f152.l8.step k (fun a6 => rec_ a6) ret i)
    (fun _ => rfl) (fun _ _ => rfl) (fun rec_ g i => f152.l8.nat k _ g i) (fun {R} i0 i rec_ K => by kernel_rfl) k a6
theorem f152.l8.all (k : Nat) (S : St env) : GoodL (f152.X k) (nthC 1 (loopsOf (bodyOf Try.f152))) S (f152.l8.hd k S.ts S.m S.n) := by
  obtain ⟨ts_, m_, n_⟩ := S
  show GoodL _ _ _ (f152.l8.hd k ts_ m_ n_)
  unfold f152.l8.hd
  refine gTs_ok (p := GoodL _ _ _) goodL_no fun _ h => ?_
  subst h
  refine gV_ok (p := GoodL _ _ _) goodL_no fun _ _ h => ?_
  subst h
  refine rV_ok (p := GoodL _ _ _) goodL_no fun _ h => ?_
  subst h
  refine vI_ok (p := GoodL _ _ _) goodL_no fun _ h => ?_
  subst h
  refine gE_ok (p := GoodL _ _ _) goodL_no fun h => ?_
  subst h
  refine gE_ok (p := GoodL _ _ _) goodL_no fun h => ?_
  subst h
  refine gN_ok (p := GoodL _ _ _) goodL_no fun h => ?_
  subst h
  exact f152.l8.good k _
theorem f152.nat {R : Type} (k : Nat) (g : Int → Option R) (xs1 : List Int) : f152.step k g xs1 = (f152 k xs1).bind g := by
  simp only [f152, f152.step, bind_ite, bind_sum, Option.bind_assoc, Option.bind_some, Option.bind_none]
theorem f152.ev (k : Nat) (xs1 : List Int) : evF (f152.X k) (bodyOf Try.f152) Try.f152.ntmps Try.f152.results.toList [.v (.c (.sl 5 xs1))] = f152.step k (fun x => f152.w x some) xs1 := by kernel_rfl
theorem f152.hok (k : Nat) : HOK (f152.X k) (bodyOf Try.f152) where
  l := allP_mem (by exact ⟨ls_of (h0 := fun S => f152.l3.hd k S.ts S.m S.n) (by kernel_rfl) (f152.l3.all k), ls_of (h0 := fun S => f152.l8.hd k S.ts S.m S.n) (by kernel_rfl) (f152.l8.all k), trivial⟩)
  j := allP_mem (by exact trivial)
theorem f152.sound0 (k : Nat) : SoundC env Try.prog 152 (f152.hd k) := by
  intro ps_
  show GoodC _ _ _ ps_ (f152.hd k ps_)
  unfold f152.hd
  refine gC_ok (p := GoodC env Try.prog 152 _) goodC_no fun _ _ h => ?_
  subst h
  refine qC_ok (p := GoodC env Try.prog 152 _) goodC_no fun _ h => ?_
  subst h
  refine qSl_ok (p := GoodC env Try.prog 152 _) goodC_no fun _ h => ?_
  subst h
  refine gE_ok (p := GoodC env Try.prog 152 _) goodC_no fun h => ?_
  subst h
  exact fun_good (fun_sound envOK (cs_sound _ (by exact trivial)) (f152.hok k) Try.func152 rfl) ((f152.ev k _).trans (f152.nat k _ _))
theorem f152.sound (k : Nat) : SoundC env Try.prog 152 (f152.e k).F := soundC_coer (f152.sound0 k) [[.rd 5]]
theorem f152.says (k : Nat) (xs1 : List Int) (t11 : Int) (h_ : f152 k xs1 = some t11) : SoundAt env Try.prog 152 [.v (.c (.sl 5 xs1))] ⟨.v (.c (.s (.int .i64 t11))), [[]]⟩ :=
  fun_sound envOK (cs_sound _ (by exact trivial)) (f152.hok k) Try.func152 rfl _ _ (((f152.ev k xs1).trans (f152.nat k _ xs1)).trans (by rw [h_]; rfl))
theorem f152.fnok : FnOK Try.prog 152 := fn_ok Try.func152 (by kernel_rfl) rfl
def f94.step {R : Type} (k : Nat) (ret : Int → Option R) (xs1 : List Int) : Option R :=
  (f152 k xs1).bind fun t2 => ret (IntKind.i64.wrap ((65535 : Int) - t2))
def f94 (k : Nat) (xs1 : List Int) : Option Int := f94.step k some xs1
def f94.w {R : Type} : Int → (Res env → Option R) → Option R := fun t3 K => K ⟨.v (.c (.s (.int .i64 t3))), [[]]⟩
theorem f94.wn (x : Int) : ∃ res, ∀ {R : Type} (K : Res env → Option R), f94.w x K = K res := by
  exact ⟨_, fun _ => rfl⟩
def f94.hd (k : Nat) (ps_ : List (P2 env)) : Cl env :=
  gC Cl.no ps_ fun p_ ps_ => qC Cl.no p_ fun c_ => qSl Cl.no 5 c_ fun xs1 => gE Cl.no ps_ <| { α := Int, o := f94 k xs1, w := f94.w, nat := fun x _ => f94.wn x }
def f94.e (k : Nat) : Entry env := ⟨fun ps => f94.hd k (coer [[.rd 5]] ps), []⟩
def f94.X (k : Nat) : Ctx env := { C := lookE [(152, f152.e k)], L := lookE [], J := lookE [], keep := lookD [], keepX := lookD [], span := lookN [], eff := fun n => memN n [], prep := lookP [], np := 0 }
theorem f94.nat {R : Type} (k : Nat) (g : Int → Option R) (xs1 : List Int) : f94.step k g xs1 = (f94 k xs1).bind g := by
  simp only [f94, f94.step, bind_ite, bind_sum, Option.bind_assoc, Option.bind_some, Option.bind_none]
theorem f94.ev (k : Nat) (xs1 : List Int) : evF (f94.X k) (bodyOf Try.f94) Try.f94.ntmps Try.f94.results.toList [.v (.c (.sl 5 xs1))] = f94.step k (fun x => f94.w x some) xs1 := by kernel_rfl
theorem f94.hok (k : Nat) : HOK (f94.X k) (bodyOf Try.f94) where
  l := allP_mem (by exact trivial)
  j := allP_mem (by exact trivial)
theorem f94.sound0 (k : Nat) : SoundC env Try.prog 94 (f94.hd k) := by
  intro ps_
  show GoodC _ _ _ ps_ (f94.hd k ps_)
  unfold f94.hd
  refine gC_ok (p := GoodC env Try.prog 94 _) goodC_no fun _ _ h => ?_
  subst h
  refine qC_ok (p := GoodC env Try.prog 94 _) goodC_no fun _ h => ?_
  subst h
  refine qSl_ok (p := GoodC env Try.prog 94 _) goodC_no fun _ h => ?_
  subst h
  refine gE_ok (p := GoodC env Try.prog 94 _) goodC_no fun h => ?_
  subst h
  exact fun_good (fun_sound envOK (cs_sound _ (by exact ⟨⟨f152.sound k, f152.fnok⟩, trivial⟩)) (f94.hok k) Try.func94 rfl) ((f94.ev k _).trans (f94.nat k _ _))
theorem f94.sound (k : Nat) : SoundC env Try.prog 94 (f94.e k).F := soundC_coer (f94.sound0 k) [[.rd 5]]
theorem f94.says (k : Nat) (xs1 : List Int) (t4 : Int) (h_ : f94 k xs1 = some t4) : SoundAt env Try.prog 94 [.v (.c (.sl 5 xs1))] ⟨.v (.c (.s (.int .i64 t4))), [[]]⟩ :=
  fun_sound envOK (cs_sound _ (by exact ⟨⟨f152.sound k, f152.fnok⟩, trivial⟩)) (f94.hok k) Try.func94 rfl _ _ (((f94.ev k xs1).trans (f94.nat k _ xs1)).trans (by rw [h_]; rfl))
theorem f94.fnok : FnOK Try.prog 94 := fn_ok Try.func94 (by kernel_rfl) rfl
def f31.step {R : Type} (k : Nat) (ret : ((Int × ByteArray × ByteArray × Int × Int × Int × Int × Bool × Bool × Int) ⊕ (Int × ByteArray × ByteArray × Int × Int × Int × Int × Bool × Bool × (List Int) × Int)) → Option R) (xs1 : List Int) : Option R :=
  if (decide ((((List.length xs1) : Nat) : Int) > (65536 : Int))) = true then
    ret (.inl ((0 : Int), ByteArray.empty, ByteArray.empty, (0 : Int), (0 : Int), (0 : Int), (0 : Int), false, false, (2 : Int)))
  else
    if (decide ((((List.length xs1) : Nat) : Int) > (0 : Int))) = true then
      if (0 : Int) < ((List.length xs1 : Nat) : Int) then
        if (decide ((Int.fdiv (List.getD xs1 0 (0 : Int)) (2 ^ (min (4 : Int).toNat IntKind.u8.bits))) = (6 : Int))) = true then
          (f92 k xs1).bind (Sum.elim (fun t2 => ret (.inl (t2.1, t2.2.1, t2.2.2.1, t2.2.2.2.1, t2.2.2.2.2.1, t2.2.2.2.2.2.1, t2.2.2.2.2.2.2.1, t2.2.2.2.2.2.2.2.1, t2.2.2.2.2.2.2.2.2.1, t2.2.2.2.2.2.2.2.2.2))) (fun t3 => ret (.inr (t3.1, t3.2.1, t3.2.2.1, t3.2.2.2.1, t3.2.2.2.2.1, t3.2.2.2.2.2.1, t3.2.2.2.2.2.2.1, t3.2.2.2.2.2.2.2.1, t3.2.2.2.2.2.2.2.2.1, t3.2.2.2.2.2.2.2.2.2.1, t3.2.2.2.2.2.2.2.2.2.2))))
        else
          if (decide ((((List.length xs1) : Nat) : Int) < (20 : Int))) = false then
            if (0 : Int) < ((List.length xs1 : Nat) : Int) then
              if (decide ((List.getD xs1 0 (0 : Int)) ≠ (69 : Int))) = false then
                (f93 k xs1 (2 : Int)).bind fun t4 => if (decide (t4 ≠ (((List.length xs1) : Nat) : Int))) = true then
                    ret (.inl ((0 : Int), ByteArray.empty, ByteArray.empty, (0 : Int), (0 : Int), (0 : Int), (0 : Int), false, false, (3 : Int)))
                  else
                    if (20 : Int) ≤ ((List.length xs1 : Nat) : Int) then
                      (f94 k (List.drop 0 (List.take 20 xs1))).bind fun t5 => if (decide (t5 ≠ (0 : Int))) = true then
                          ret (.inl ((0 : Int), ByteArray.empty, ByteArray.empty, (0 : Int), (0 : Int), (0 : Int), (0 : Int), false, false, (8 : Int)))
                        else
                          (f93 k xs1 (6 : Int)).bind fun t6 => if (16 : Int) ≤ ((List.length xs1 : Nat) : Int) then
                              if (20 : Int) ≤ ((List.length xs1 : Nat) : Int) then
                                if (8 : Int) < ((List.length xs1 : Nat) : Int) then
                                  if (9 : Int) < ((List.length xs1 : Nat) : Int) then
                                    (f93 k xs1 (4 : Int)).bind fun t7 => if (20 : Int) ≤ ((List.length xs1 : Nat) : Int) then
                                        if ((List.length xs1 : Nat) : Int) ≤ ((List.length xs1 : Nat) : Int) then
                                          if (List.length ([] : List Int) + List.length (List.drop 20 (List.take (Int.toNat ((List.length xs1 : Nat) : Int)) xs1))) * 1 ≤ maxN then
                                            if (decide ((bitsV .and .i64 t6 (32768 : Int)) ≠ (0 : Int))) = false then
                                              (f20 k (4 : Int) (strOf (List.drop 12 (List.take 16 xs1))) (strOf (List.drop 16 (List.take 20 xs1))) (IntKind.i64.wrap (List.getD xs1 8 (0 : Int))) (IntKind.i64.wrap (List.getD xs1 9 (0 : Int))) t7 (bitsV .and .i64 t6 (8191 : Int)) (decide ((bitsV .and .i64 t6 (8192 : Int)) ≠ (0 : Int))) (decide ((bitsV .and .i64 t6 (16384 : Int)) ≠ (0 : Int))) (([] : List Int) ++ (List.drop 20 (List.take (Int.toNat ((List.length xs1 : Nat) : Int)) xs1)))).bind fun t8 => if (!t8) = true then
                                                  ret (.inl ((0 : Int), ByteArray.empty, ByteArray.empty, (0 : Int), (0 : Int), (0 : Int), (0 : Int), false, false, (1 : Int)))
                                                else
                                                  ret (.inr ((4 : Int), (strOf (List.drop 12 (List.take 16 xs1))), (strOf (List.drop 16 (List.take 20 xs1))), (IntKind.i64.wrap (List.getD xs1 8 (0 : Int))), (IntKind.i64.wrap (List.getD xs1 9 (0 : Int))), t7, (bitsV .and .i64 t6 (8191 : Int)), (decide ((bitsV .and .i64 t6 (8192 : Int)) ≠ (0 : Int))), (decide ((bitsV .and .i64 t6 (16384 : Int)) ≠ (0 : Int))), (([] : List Int) ++ (List.drop 20 (List.take (Int.toNat ((List.length xs1 : Nat) : Int)) xs1))), (0 : Int)))
                                            else
                                              ret (.inl ((0 : Int), ByteArray.empty, ByteArray.empty, (0 : Int), (0 : Int), (0 : Int), (0 : Int), false, false, (1 : Int)))
                                          else none
                                        else none
                                      else none
                                  else none
                                else none
                              else none
                            else none
                    else none
              else
                ret (.inl ((0 : Int), ByteArray.empty, ByteArray.empty, (0 : Int), (0 : Int), (0 : Int), (0 : Int), false, false, (3 : Int)))
            else none
          else
            ret (.inl ((0 : Int), ByteArray.empty, ByteArray.empty, (0 : Int), (0 : Int), (0 : Int), (0 : Int), false, false, (3 : Int)))
      else none
    else
      if (decide ((((List.length xs1) : Nat) : Int) < (20 : Int))) = false then
        if (0 : Int) < ((List.length xs1 : Nat) : Int) then
          if (decide ((List.getD xs1 0 (0 : Int)) ≠ (69 : Int))) = false then
            (f93 k xs1 (2 : Int)).bind fun t9 => if (decide (t9 ≠ (((List.length xs1) : Nat) : Int))) = true then
                ret (.inl ((0 : Int), ByteArray.empty, ByteArray.empty, (0 : Int), (0 : Int), (0 : Int), (0 : Int), false, false, (3 : Int)))
              else
                if (20 : Int) ≤ ((List.length xs1 : Nat) : Int) then
                  (f94 k (List.drop 0 (List.take 20 xs1))).bind fun t10 => if (decide (t10 ≠ (0 : Int))) = true then
                      ret (.inl ((0 : Int), ByteArray.empty, ByteArray.empty, (0 : Int), (0 : Int), (0 : Int), (0 : Int), false, false, (8 : Int)))
                    else
                      (f93 k xs1 (6 : Int)).bind fun t11 => if (16 : Int) ≤ ((List.length xs1 : Nat) : Int) then
                          if (20 : Int) ≤ ((List.length xs1 : Nat) : Int) then
                            if (8 : Int) < ((List.length xs1 : Nat) : Int) then
                              if (9 : Int) < ((List.length xs1 : Nat) : Int) then
                                (f93 k xs1 (4 : Int)).bind fun t12 => if (20 : Int) ≤ ((List.length xs1 : Nat) : Int) then
                                    if ((List.length xs1 : Nat) : Int) ≤ ((List.length xs1 : Nat) : Int) then
                                      if (List.length ([] : List Int) + List.length (List.drop 20 (List.take (Int.toNat ((List.length xs1 : Nat) : Int)) xs1))) * 1 ≤ maxN then
                                        if (decide ((bitsV .and .i64 t11 (32768 : Int)) ≠ (0 : Int))) = false then
                                          (f20 k (4 : Int) (strOf (List.drop 12 (List.take 16 xs1))) (strOf (List.drop 16 (List.take 20 xs1))) (IntKind.i64.wrap (List.getD xs1 8 (0 : Int))) (IntKind.i64.wrap (List.getD xs1 9 (0 : Int))) t12 (bitsV .and .i64 t11 (8191 : Int)) (decide ((bitsV .and .i64 t11 (8192 : Int)) ≠ (0 : Int))) (decide ((bitsV .and .i64 t11 (16384 : Int)) ≠ (0 : Int))) (([] : List Int) ++ (List.drop 20 (List.take (Int.toNat ((List.length xs1 : Nat) : Int)) xs1)))).bind fun t13 => if (!t13) = true then
                                              ret (.inl ((0 : Int), ByteArray.empty, ByteArray.empty, (0 : Int), (0 : Int), (0 : Int), (0 : Int), false, false, (1 : Int)))
                                            else
                                              ret (.inr ((4 : Int), (strOf (List.drop 12 (List.take 16 xs1))), (strOf (List.drop 16 (List.take 20 xs1))), (IntKind.i64.wrap (List.getD xs1 8 (0 : Int))), (IntKind.i64.wrap (List.getD xs1 9 (0 : Int))), t12, (bitsV .and .i64 t11 (8191 : Int)), (decide ((bitsV .and .i64 t11 (8192 : Int)) ≠ (0 : Int))), (decide ((bitsV .and .i64 t11 (16384 : Int)) ≠ (0 : Int))), (([] : List Int) ++ (List.drop 20 (List.take (Int.toNat ((List.length xs1 : Nat) : Int)) xs1))), (0 : Int)))
                                        else
                                          ret (.inl ((0 : Int), ByteArray.empty, ByteArray.empty, (0 : Int), (0 : Int), (0 : Int), (0 : Int), false, false, (1 : Int)))
                                      else none
                                    else none
                                  else none
                              else none
                            else none
                          else none
                        else none
                else none
          else
            ret (.inl ((0 : Int), ByteArray.empty, ByteArray.empty, (0 : Int), (0 : Int), (0 : Int), (0 : Int), false, false, (3 : Int)))
        else none
      else
        ret (.inl ((0 : Int), ByteArray.empty, ByteArray.empty, (0 : Int), (0 : Int), (0 : Int), (0 : Int), false, false, (3 : Int)))
def f31 (k : Nat) (xs1 : List Int) : Option ((Int × ByteArray × ByteArray × Int × Int × Int × Int × Bool × Bool × Int) ⊕ (Int × ByteArray × ByteArray × Int × Int × Int × Int × Bool × Bool × (List Int) × Int)) := f31.step k some xs1
def f31.w {R : Type} : ((Int × ByteArray × ByteArray × Int × Int × Int × Int × Bool × Bool × Int) ⊕ (Int × ByteArray × ByteArray × Int × Int × Int × Int × Bool × Bool × (List Int) × Int)) → (Res env → Option R) → Option R := fun x K => Sum.elim (fun t14 => K ⟨.tup [.g [.s (.int .i64 t14.1), .s (.string t14.2.1), .s (.string t14.2.2.1), .s (.int .i64 t14.2.2.2.1), .s (.int .i64 t14.2.2.2.2.1), .s (.int .i64 t14.2.2.2.2.2.1), .s (.int .i64 t14.2.2.2.2.2.2.1), .s (.bool t14.2.2.2.2.2.2.2.1), .s (.bool t14.2.2.2.2.2.2.2.2.1), .s (.slice none 0 0)], .c (.s (.int .i64 t14.2.2.2.2.2.2.2.2.2))], [[]]⟩) (fun t15 => K ⟨.tup [.g [.s (.int .i64 t15.1), .s (.string t15.2.1), .s (.string t15.2.2.1), .s (.int .i64 t15.2.2.2.1), .s (.int .i64 t15.2.2.2.2.1), .s (.int .i64 t15.2.2.2.2.2.1), .s (.int .i64 t15.2.2.2.2.2.2.1), .s (.bool t15.2.2.2.2.2.2.2.1), .s (.bool t15.2.2.2.2.2.2.2.2.1), .own true 5 t15.2.2.2.2.2.2.2.2.2.1], .c (.s (.int .i64 t15.2.2.2.2.2.2.2.2.2.2))], [[]]⟩) x
theorem f31.wn (x : ((Int × ByteArray × ByteArray × Int × Int × Int × Int × Bool × Bool × Int) ⊕ (Int × ByteArray × ByteArray × Int × Int × Int × Int × Bool × Bool × (List Int) × Int))) : ∃ res, ∀ {R : Type} (K : Res env → Option R), f31.w x K = K res := by
  rcases x with x | x <;> exact ⟨_, fun _ => rfl⟩
def f31.hd (k : Nat) (ps_ : List (P2 env)) : Cl env :=
  gC Cl.no ps_ fun p_ ps_ => qC Cl.no p_ fun c_ => qSl Cl.no 5 c_ fun xs1 => gE Cl.no ps_ <| { α := (Int × ByteArray × ByteArray × Int × Int × Int × Int × Bool × Bool × Int) ⊕ (Int × ByteArray × ByteArray × Int × Int × Int × Int × Bool × Bool × (List Int) × Int), o := f31 k xs1, w := f31.w, nat := fun x _ => f31.wn x }
def f31.e (k : Nat) : Entry env := ⟨fun ps => f31.hd k (coer [[.rd 5]] ps), []⟩
def f31.X (k : Nat) : Ctx env := { C := lookE [(20, f20.e k), (92, f92.e k), (93, f93.e k), (94, f94.e k)], L := lookE [], J := lookE [], keep := lookD [], keepX := lookD [], span := lookN [], eff := fun n => memN n [10], prep := lookP [], np := 0 }
theorem f31.nat {R : Type} (k : Nat) (g : ((Int × ByteArray × ByteArray × Int × Int × Int × Int × Bool × Bool × Int) ⊕ (Int × ByteArray × ByteArray × Int × Int × Int × Int × Bool × Bool × (List Int) × Int)) → Option R) (xs1 : List Int) : f31.step k g xs1 = (f31 k xs1).bind g := by
  simp only [f31, f31.step, bind_ite, bind_sum, Option.bind_assoc, Option.bind_some, Option.bind_none]
theorem f31.ev (k : Nat) (xs1 : List Int) : evF (f31.X k) (bodyOf Try.f31) Try.f31.ntmps Try.f31.results.toList [.v (.c (.sl 5 xs1))] = f31.step k (fun x => f31.w x some) xs1 := by kernel_rfl
theorem f31.hok (k : Nat) : HOK (f31.X k) (bodyOf Try.f31) where
  l := allP_mem (by exact trivial)
  j := allP_mem (by exact trivial)
theorem f31.sound0 (k : Nat) : SoundC env Try.prog 31 (f31.hd k) := by
  intro ps_
  show GoodC _ _ _ ps_ (f31.hd k ps_)
  unfold f31.hd
  refine gC_ok (p := GoodC env Try.prog 31 _) goodC_no fun _ _ h => ?_
  subst h
  refine qC_ok (p := GoodC env Try.prog 31 _) goodC_no fun _ h => ?_
  subst h
  refine qSl_ok (p := GoodC env Try.prog 31 _) goodC_no fun _ h => ?_
  subst h
  refine gE_ok (p := GoodC env Try.prog 31 _) goodC_no fun h => ?_
  subst h
  exact fun_good (fun_sound envOK (cs_sound _ (by exact ⟨⟨f20.sound k, f20.fnok⟩, ⟨f92.sound k, f92.fnok⟩, ⟨f93.sound k, f93.fnok⟩, ⟨f94.sound k, f94.fnok⟩, trivial⟩)) (f31.hok k) Try.func31 rfl) ((f31.ev k _).trans (f31.nat k _ _))
theorem f31.sound (k : Nat) : SoundC env Try.prog 31 (f31.e k).F := soundC_coer (f31.sound0 k) [[.rd 5]]
theorem f31.fnok : FnOK Try.prog 31 := fn_ok Try.func31 (by kernel_rfl) rfl
def f33.l4.step {R : Type} (k : Nat) (rec_ : (List Int) → (List Int) → Int → Option R) (ret : (Bool ⊕ (Unit)) → Option R) (xs3 : List Int) (xs4 : List Int) (a5 : Int) : Option R :=
  if (decide (a5 < (((List.length xs3) : Nat) : Int))) = true then
    if (0 : Int) ≤ a5 then
      if a5 < ((List.length xs3 : Nat) : Int) then
        if (0 : Int) ≤ a5 then
          if a5 < ((List.length xs4 : Nat) : Int) then
            if (decide ((List.getD xs3 (Int.toNat a5) (0 : Int)) ≠ (List.getD xs4 (Int.toNat a5) (0 : Int)))) = true then
              ret (.inl false)
            else
              rec_ xs3 xs4 (IntKind.i64.wrap (a5 + (1 : Int)))
          else none
        else none
      else none
    else none
  else
    ret (.inr ())
def f33.l4 (k : Nat) : Nat → (List Int) → (List Int) → Int → Option (Bool ⊕ (Unit))
  | 0, _, _, _ => none
  | j + 1, xs3, xs4, a5 => f33.l4.step k (fun xs3 xs4 a5 => f33.l4 k j xs3 xs4 a5) some xs3 xs4 a5
def f33.l4.w {R : Type} : (Bool ⊕ (Unit)) → (Exit → St env → Option R) → Option R := fun x K => Sum.elim (fun t8 => K .ret ⟨fullT [4] 0 26 [.v (.c (.s (.bool t8)))], [], 386⟩) (fun t9 => K (.exit 0) ⟨fullT [] 0 26 [], [], 386⟩) x
def f33.l4.st (xs3 : List Int) (xs4 : List Int) (a5 : Int) : St env := ⟨fullT [0, 1, 5] 0 26 [.v (.c (.imm 5 xs3)), .v (.c (.imm 5 xs4)), .v (.c (.s (.int .i64 a5)))], [], 114⟩
def f33.l4.hd (k : Nat) (ts_ : List (AV env)) (mm_ : Mem env) (n_ : Nat) : LCl env :=
  gTs LCl.no [0, 1, 5] 26 ts_ fun l_ => gV LCl.no l_ fun a_ l_ => rImm LCl.no 5 a_ fun xs3 => gV LCl.no l_ fun a_ l_ => rImm LCl.no 5 a_ fun xs4 => gV LCl.no l_ fun a_ l_ => rV LCl.no a_ fun v_ => vI LCl.no .i64 v_ fun a5 => gE LCl.no l_ <| gE LCl.no mm_ <| gN LCl.no 114 n_ { α := Bool ⊕ (Unit), o := f33.l4 k k xs3 xs4 a5, w := f33.l4.w }
def f33.step {R : Type} (k : Nat) (ret : Bool → Option R) (xs1 : List Int) (xs2 : List Int) : Option R :=
  if (decide ((((List.length xs1) : Nat) : Int) ≠ (((List.length xs2) : Nat) : Int))) = true then
    ret false
  else
    (f33.l4 k k xs1 xs2 (0 : Int)).bind (Sum.elim (fun t6 => ret t6) (fun t7 => ret true))
def f33 (k : Nat) (xs1 : List Int) (xs2 : List Int) : Option Bool := f33.step k some xs1 xs2
def f33.w {R : Type} : Bool → (Res env → Option R) → Option R := fun t10 K => K ⟨.v (.c (.s (.bool t10))), [[], []]⟩
theorem f33.wn (x : Bool) : ∃ res, ∀ {R : Type} (K : Res env → Option R), f33.w x K = K res := by
  exact ⟨_, fun _ => rfl⟩
def f33.hd (k : Nat) (ps_ : List (P2 env)) : Cl env :=
  gC Cl.no ps_ fun p_ ps_ => qC Cl.no p_ fun c_ => qSl Cl.no 5 c_ fun xs1 => gC Cl.no ps_ fun p_ ps_ => qC Cl.no p_ fun c_ => qSl Cl.no 5 c_ fun xs2 => gE Cl.no ps_ <| { α := Bool, o := f33 k xs1 xs2, w := f33.w, nat := fun x _ => f33.wn x }
def f33.e (k : Nat) : Entry env := ⟨fun ps => f33.hd k (coer [[.rd 5], [.rd 5]] ps), []⟩
def f33.X (k : Nat) : Ctx env := { C := lookE [], L := lookE [(4, fun S => f33.l4.hd k S.ts S.m S.n)], J := lookE [], keep := lookD [(4, [0, 1, 5])], keepX := lookD [(4, [4])], span := lookN [(4, 272)], eff := fun n => memN n [], prep := lookP [], np := 0 }
theorem f33.l4.nat {R : Type} (k : Nat) (rec_ : (List Int) → (List Int) → Int → Option (Bool ⊕ (Unit))) (g : (Bool ⊕ (Unit)) → Option R) (xs3 : List Int) (xs4 : List Int) (a5 : Int) : (f33.l4.step k rec_ some xs3 xs4 a5).bind g = f33.l4.step k (fun xs3 xs4 a5 => (rec_ xs3 xs4 a5).bind g) g xs3 xs4 a5 := by
  simp only [f33.l4.step, bind_ite, bind_sum, Option.bind_assoc, Option.bind_some, Option.bind_none]
theorem f33.l4.good (k : Nat) (xs3 : List Int) (xs4 : List Int) (a5 : Int) : GoodL (f33.X k) (nthC 0 (loopsOf (bodyOf Try.f33))) (f33.l4.st xs3 xs4 a5) { α := (Bool ⊕ (Unit)), o := f33.l4 k k xs3 xs4 a5, w := f33.l4.w } :=
  loop_good (ι := (List Int) × (List Int) × Int) (α := (Bool ⊕ (Unit))) (fun i => f33.l4.st i.1 i.2.1 i.2.2) (fun j i => f33.l4 k j i.1 i.2.1 i.2.2) f33.l4.w (fun rec_ ret i => f33.l4.step k (fun xs3 xs4 a5 => rec_ (xs3, xs4, a5)) ret i.1 i.2.1 i.2.2)
    (fun _ => rfl) (fun _ _ => rfl) (fun rec_ g i => f33.l4.nat k _ g i.1 i.2.1 i.2.2) (fun {R} i0 i rec_ K => by kernel_rfl) k (xs3, xs4, a5)
theorem f33.l4.all (k : Nat) (S : St env) : GoodL (f33.X k) (nthC 0 (loopsOf (bodyOf Try.f33))) S (f33.l4.hd k S.ts S.m S.n) := by
  obtain ⟨ts_, m_, n_⟩ := S
  show GoodL _ _ _ (f33.l4.hd k ts_ m_ n_)
  unfold f33.l4.hd
  refine gTs_ok (p := GoodL _ _ _) goodL_no fun _ h => ?_
  subst h
  refine gV_ok (p := GoodL _ _ _) goodL_no fun _ _ h => ?_
  subst h
  refine rImm_ok (p := GoodL _ _ _) goodL_no fun _ h => ?_
  subst h
  refine gV_ok (p := GoodL _ _ _) goodL_no fun _ _ h => ?_
  subst h
  refine rImm_ok (p := GoodL _ _ _) goodL_no fun _ h => ?_
  subst h
  refine gV_ok (p := GoodL _ _ _) goodL_no fun _ _ h => ?_
  subst h
  refine rV_ok (p := GoodL _ _ _) goodL_no fun _ h => ?_
  subst h
  refine vI_ok (p := GoodL _ _ _) goodL_no fun _ h => ?_
  subst h
  refine gE_ok (p := GoodL _ _ _) goodL_no fun h => ?_
  subst h
  refine gE_ok (p := GoodL _ _ _) goodL_no fun h => ?_
  subst h
  refine gN_ok (p := GoodL _ _ _) goodL_no fun h => ?_
  subst h
  exact f33.l4.good k _ _ _
theorem f33.nat {R : Type} (k : Nat) (g : Bool → Option R) (xs1 : List Int) (xs2 : List Int) : f33.step k g xs1 xs2 = (f33 k xs1 xs2).bind g := by
  simp only [f33, f33.step, bind_ite, bind_sum, Option.bind_assoc, Option.bind_some, Option.bind_none]
theorem f33.ev (k : Nat) (xs1 : List Int) (xs2 : List Int) : evF (f33.X k) (bodyOf Try.f33) Try.f33.ntmps Try.f33.results.toList [.v (.c (.sl 5 xs1)), .v (.c (.sl 5 xs2))] = f33.step k (fun x => f33.w x some) xs1 xs2 := by kernel_rfl
theorem f33.hok (k : Nat) : HOK (f33.X k) (bodyOf Try.f33) where
  l := allP_mem (by exact ⟨ls_of (h0 := fun S => f33.l4.hd k S.ts S.m S.n) (by kernel_rfl) (f33.l4.all k), trivial⟩)
  j := allP_mem (by exact trivial)
theorem f33.sound0 (k : Nat) : SoundC env Try.prog 33 (f33.hd k) := by
  intro ps_
  show GoodC _ _ _ ps_ (f33.hd k ps_)
  unfold f33.hd
  refine gC_ok (p := GoodC env Try.prog 33 _) goodC_no fun _ _ h => ?_
  subst h
  refine qC_ok (p := GoodC env Try.prog 33 _) goodC_no fun _ h => ?_
  subst h
  refine qSl_ok (p := GoodC env Try.prog 33 _) goodC_no fun _ h => ?_
  subst h
  refine gC_ok (p := GoodC env Try.prog 33 _) goodC_no fun _ _ h => ?_
  subst h
  refine qC_ok (p := GoodC env Try.prog 33 _) goodC_no fun _ h => ?_
  subst h
  refine qSl_ok (p := GoodC env Try.prog 33 _) goodC_no fun _ h => ?_
  subst h
  refine gE_ok (p := GoodC env Try.prog 33 _) goodC_no fun h => ?_
  subst h
  exact fun_good (fun_sound envOK (cs_sound _ (by exact trivial)) (f33.hok k) Try.func33 rfl) ((f33.ev k _ _).trans (f33.nat k _ _ _))
theorem f33.sound (k : Nat) : SoundC env Try.prog 33 (f33.e k).F := soundC_coer (f33.sound0 k) [[.rd 5], [.rd 5]]
theorem f33.says (k : Nat) (xs1 : List Int) (xs2 : List Int) (t11 : Bool) (h_ : f33 k xs1 xs2 = some t11) : SoundAt env Try.prog 33 [.v (.c (.sl 5 xs1)), .v (.c (.sl 5 xs2))] ⟨.v (.c (.s (.bool t11))), [[], []]⟩ :=
  fun_sound envOK (cs_sound _ (by exact trivial)) (f33.hok k) Try.func33 rfl _ _ (((f33.ev k xs1 xs2).trans (f33.nat k _ xs1 xs2)).trans (by rw [h_]; rfl))
theorem f33.fnok : FnOK Try.prog 33 := fn_ok Try.func33 (by kernel_rfl) rfl
def f32.step {R : Type} (k : Nat) (ret : Bool → Option R) (a1 : Int) (s2 : ByteArray) (s3 : ByteArray) (a4 : Int) (a5 : Int) (a6 : Int) (a7 : Int) (b8 : Bool) (b9 : Bool) (xs10 : List Int) (a11 : Int) (s12 : ByteArray) (s13 : ByteArray) (a14 : Int) (a15 : Int) (a16 : Int) (a17 : Int) (b18 : Bool) (b19 : Bool) (xs20 : List Int) : Option R :=
  if (decide (a1 ≠ a11)) = true then
    ret false
  else
    if (decide (ByteArray.toList s2 ≠ ByteArray.toList s12)) = true then
      ret false
    else
      if (decide (ByteArray.toList s3 ≠ ByteArray.toList s13)) = true then
        ret false
      else
        if (decide (a4 ≠ a14)) = true then
          ret false
        else
          if (decide (a5 ≠ a15)) = true then
            ret false
          else
            if (decide (a6 ≠ a16)) = true then
              ret false
            else
              if (decide (a7 ≠ a17)) = true then
                ret false
              else
                if (!(b8 == b18)) = true then
                  ret false
                else
                  if (!(b9 == b19)) = true then
                    ret false
                  else
                    (f33 k xs10 xs20).bind fun t21 => if (!t21) = true then
                        ret false
                      else
                        ret true
def f32 (k : Nat) (a1 : Int) (s2 : ByteArray) (s3 : ByteArray) (a4 : Int) (a5 : Int) (a6 : Int) (a7 : Int) (b8 : Bool) (b9 : Bool) (xs10 : List Int) (a11 : Int) (s12 : ByteArray) (s13 : ByteArray) (a14 : Int) (a15 : Int) (a16 : Int) (a17 : Int) (b18 : Bool) (b19 : Bool) (xs20 : List Int) : Option Bool := f32.step k some a1 s2 s3 a4 a5 a6 a7 b8 b9 xs10 a11 s12 s13 a14 a15 a16 a17 b18 b19 xs20
def f32.w {R : Type} : Bool → (Res env → Option R) → Option R := fun t22 K => K ⟨.v (.c (.s (.bool t22))), [[], []]⟩
theorem f32.wn (x : Bool) : ∃ res, ∀ {R : Type} (K : Res env → Option R), f32.w x K = K res := by
  exact ⟨_, fun _ => rfl⟩
def f32.hd (k : Nat) (ps_ : List (P2 env)) : Cl env :=
  gC Cl.no ps_ fun p_ ps_ => qG Cl.no p_ fun cs_ => gC Cl.no cs_ fun c_ cs_ => qS Cl.no c_ fun v_ => vI Cl.no .i64 v_ fun a1 => gC Cl.no cs_ fun c_ cs_ => qS Cl.no c_ fun v_ => vS Cl.no v_ fun s2 => gC Cl.no cs_ fun c_ cs_ => qS Cl.no c_ fun v_ => vS Cl.no v_ fun s3 => gC Cl.no cs_ fun c_ cs_ => qS Cl.no c_ fun v_ => vI Cl.no .i64 v_ fun a4 => gC Cl.no cs_ fun c_ cs_ => qS Cl.no c_ fun v_ => vI Cl.no .i64 v_ fun a5 => gC Cl.no cs_ fun c_ cs_ => qS Cl.no c_ fun v_ => vI Cl.no .i64 v_ fun a6 => gC Cl.no cs_ fun c_ cs_ => qS Cl.no c_ fun v_ => vI Cl.no .i64 v_ fun a7 => gC Cl.no cs_ fun c_ cs_ => qS Cl.no c_ fun v_ => vB Cl.no v_ fun b8 => gC Cl.no cs_ fun c_ cs_ => qS Cl.no c_ fun v_ => vB Cl.no v_ fun b9 => gC Cl.no cs_ fun c_ cs_ => qSl Cl.no 5 c_ fun xs10 => gE Cl.no cs_ <| gC Cl.no ps_ fun p_ ps_ => qG Cl.no p_ fun cs_ => gC Cl.no cs_ fun c_ cs_ => qS Cl.no c_ fun v_ => vI Cl.no .i64 v_ fun a11 => gC Cl.no cs_ fun c_ cs_ => qS Cl.no c_ fun v_ => vS Cl.no v_ fun s12 => gC Cl.no cs_ fun c_ cs_ => qS Cl.no c_ fun v_ => vS Cl.no v_ fun s13 => gC Cl.no cs_ fun c_ cs_ => qS Cl.no c_ fun v_ => vI Cl.no .i64 v_ fun a14 => gC Cl.no cs_ fun c_ cs_ => qS Cl.no c_ fun v_ => vI Cl.no .i64 v_ fun a15 => gC Cl.no cs_ fun c_ cs_ => qS Cl.no c_ fun v_ => vI Cl.no .i64 v_ fun a16 => gC Cl.no cs_ fun c_ cs_ => qS Cl.no c_ fun v_ => vI Cl.no .i64 v_ fun a17 => gC Cl.no cs_ fun c_ cs_ => qS Cl.no c_ fun v_ => vB Cl.no v_ fun b18 => gC Cl.no cs_ fun c_ cs_ => qS Cl.no c_ fun v_ => vB Cl.no v_ fun b19 => gC Cl.no cs_ fun c_ cs_ => qSl Cl.no 5 c_ fun xs20 => gE Cl.no cs_ <| gE Cl.no ps_ <| { α := Bool, o := f32 k a1 s2 s3 a4 a5 a6 a7 b8 b9 xs10 a11 s12 s13 a14 a15 a16 a17 b18 b19 xs20, w := f32.w, nat := fun x _ => f32.wn x }
def f32.e (k : Nat) : Entry env := ⟨fun ps => f32.hd k (coer [[.no, .no, .no, .no, .no, .no, .no, .no, .no, .rd 5], [.no, .no, .no, .no, .no, .no, .no, .no, .no, .rd 5]] ps), []⟩
def f32.X (k : Nat) : Ctx env := { C := lookE [(33, f33.e k)], L := lookE [], J := lookE [], keep := lookD [], keepX := lookD [], span := lookN [], eff := fun n => memN n [], prep := lookP [], np := 0 }
theorem f32.nat {R : Type} (k : Nat) (g : Bool → Option R) (a1 : Int) (s2 : ByteArray) (s3 : ByteArray) (a4 : Int) (a5 : Int) (a6 : Int) (a7 : Int) (b8 : Bool) (b9 : Bool) (xs10 : List Int) (a11 : Int) (s12 : ByteArray) (s13 : ByteArray) (a14 : Int) (a15 : Int) (a16 : Int) (a17 : Int) (b18 : Bool) (b19 : Bool) (xs20 : List Int) : f32.step k g a1 s2 s3 a4 a5 a6 a7 b8 b9 xs10 a11 s12 s13 a14 a15 a16 a17 b18 b19 xs20 = (f32 k a1 s2 s3 a4 a5 a6 a7 b8 b9 xs10 a11 s12 s13 a14 a15 a16 a17 b18 b19 xs20).bind g := by
  simp only [f32, f32.step, bind_ite, bind_sum, Option.bind_assoc, Option.bind_some, Option.bind_none]
theorem f32.ev (k : Nat) (a1 : Int) (s2 : ByteArray) (s3 : ByteArray) (a4 : Int) (a5 : Int) (a6 : Int) (a7 : Int) (b8 : Bool) (b9 : Bool) (xs10 : List Int) (a11 : Int) (s12 : ByteArray) (s13 : ByteArray) (a14 : Int) (a15 : Int) (a16 : Int) (a17 : Int) (b18 : Bool) (b19 : Bool) (xs20 : List Int) : evF (f32.X k) (bodyOf Try.f32) Try.f32.ntmps Try.f32.results.toList [.g [.s (.int .i64 a1), .s (.string s2), .s (.string s3), .s (.int .i64 a4), .s (.int .i64 a5), .s (.int .i64 a6), .s (.int .i64 a7), .s (.bool b8), .s (.bool b9), .sl 5 xs10], .g [.s (.int .i64 a11), .s (.string s12), .s (.string s13), .s (.int .i64 a14), .s (.int .i64 a15), .s (.int .i64 a16), .s (.int .i64 a17), .s (.bool b18), .s (.bool b19), .sl 5 xs20]] = f32.step k (fun x => f32.w x some) a1 s2 s3 a4 a5 a6 a7 b8 b9 xs10 a11 s12 s13 a14 a15 a16 a17 b18 b19 xs20 := by kernel_rfl
theorem f32.hok (k : Nat) : HOK (f32.X k) (bodyOf Try.f32) where
  l := allP_mem (by exact trivial)
  j := allP_mem (by exact trivial)
theorem f32.sound0 (k : Nat) : SoundC env Try.prog 32 (f32.hd k) := by
  intro ps_
  show GoodC _ _ _ ps_ (f32.hd k ps_)
  unfold f32.hd
  refine gC_ok (p := GoodC env Try.prog 32 _) goodC_no fun _ _ h => ?_
  subst h
  refine qG_ok (p := GoodC env Try.prog 32 _) goodC_no fun _ h => ?_
  subst h
  refine gC_ok (p := GoodC env Try.prog 32 _) goodC_no fun _ _ h => ?_
  subst h
  refine qS_ok (p := GoodC env Try.prog 32 _) goodC_no fun _ h => ?_
  subst h
  refine vI_ok (p := GoodC env Try.prog 32 _) goodC_no fun _ h => ?_
  subst h
  refine gC_ok (p := GoodC env Try.prog 32 _) goodC_no fun _ _ h => ?_
  subst h
  refine qS_ok (p := GoodC env Try.prog 32 _) goodC_no fun _ h => ?_
  subst h
  refine vS_ok (p := GoodC env Try.prog 32 _) goodC_no fun _ h => ?_
  subst h
  refine gC_ok (p := GoodC env Try.prog 32 _) goodC_no fun _ _ h => ?_
  subst h
  refine qS_ok (p := GoodC env Try.prog 32 _) goodC_no fun _ h => ?_
  subst h
  refine vS_ok (p := GoodC env Try.prog 32 _) goodC_no fun _ h => ?_
  subst h
  refine gC_ok (p := GoodC env Try.prog 32 _) goodC_no fun _ _ h => ?_
  subst h
  refine qS_ok (p := GoodC env Try.prog 32 _) goodC_no fun _ h => ?_
  subst h
  refine vI_ok (p := GoodC env Try.prog 32 _) goodC_no fun _ h => ?_
  subst h
  refine gC_ok (p := GoodC env Try.prog 32 _) goodC_no fun _ _ h => ?_
  subst h
  refine qS_ok (p := GoodC env Try.prog 32 _) goodC_no fun _ h => ?_
  subst h
  refine vI_ok (p := GoodC env Try.prog 32 _) goodC_no fun _ h => ?_
  subst h
  refine gC_ok (p := GoodC env Try.prog 32 _) goodC_no fun _ _ h => ?_
  subst h
  refine qS_ok (p := GoodC env Try.prog 32 _) goodC_no fun _ h => ?_
  subst h
  refine vI_ok (p := GoodC env Try.prog 32 _) goodC_no fun _ h => ?_
  subst h
  refine gC_ok (p := GoodC env Try.prog 32 _) goodC_no fun _ _ h => ?_
  subst h
  refine qS_ok (p := GoodC env Try.prog 32 _) goodC_no fun _ h => ?_
  subst h
  refine vI_ok (p := GoodC env Try.prog 32 _) goodC_no fun _ h => ?_
  subst h
  refine gC_ok (p := GoodC env Try.prog 32 _) goodC_no fun _ _ h => ?_
  subst h
  refine qS_ok (p := GoodC env Try.prog 32 _) goodC_no fun _ h => ?_
  subst h
  refine vB_ok (p := GoodC env Try.prog 32 _) goodC_no fun _ h => ?_
  subst h
  refine gC_ok (p := GoodC env Try.prog 32 _) goodC_no fun _ _ h => ?_
  subst h
  refine qS_ok (p := GoodC env Try.prog 32 _) goodC_no fun _ h => ?_
  subst h
  refine vB_ok (p := GoodC env Try.prog 32 _) goodC_no fun _ h => ?_
  subst h
  refine gC_ok (p := GoodC env Try.prog 32 _) goodC_no fun _ _ h => ?_
  subst h
  refine qSl_ok (p := GoodC env Try.prog 32 _) goodC_no fun _ h => ?_
  subst h
  refine gE_ok (p := GoodC env Try.prog 32 _) goodC_no fun h => ?_
  subst h
  refine gC_ok (p := GoodC env Try.prog 32 _) goodC_no fun _ _ h => ?_
  subst h
  refine qG_ok (p := GoodC env Try.prog 32 _) goodC_no fun _ h => ?_
  subst h
  refine gC_ok (p := GoodC env Try.prog 32 _) goodC_no fun _ _ h => ?_
  subst h
  refine qS_ok (p := GoodC env Try.prog 32 _) goodC_no fun _ h => ?_
  subst h
  refine vI_ok (p := GoodC env Try.prog 32 _) goodC_no fun _ h => ?_
  subst h
  refine gC_ok (p := GoodC env Try.prog 32 _) goodC_no fun _ _ h => ?_
  subst h
  refine qS_ok (p := GoodC env Try.prog 32 _) goodC_no fun _ h => ?_
  subst h
  refine vS_ok (p := GoodC env Try.prog 32 _) goodC_no fun _ h => ?_
  subst h
  refine gC_ok (p := GoodC env Try.prog 32 _) goodC_no fun _ _ h => ?_
  subst h
  refine qS_ok (p := GoodC env Try.prog 32 _) goodC_no fun _ h => ?_
  subst h
  refine vS_ok (p := GoodC env Try.prog 32 _) goodC_no fun _ h => ?_
  subst h
  refine gC_ok (p := GoodC env Try.prog 32 _) goodC_no fun _ _ h => ?_
  subst h
  refine qS_ok (p := GoodC env Try.prog 32 _) goodC_no fun _ h => ?_
  subst h
  refine vI_ok (p := GoodC env Try.prog 32 _) goodC_no fun _ h => ?_
  subst h
  refine gC_ok (p := GoodC env Try.prog 32 _) goodC_no fun _ _ h => ?_
  subst h
  refine qS_ok (p := GoodC env Try.prog 32 _) goodC_no fun _ h => ?_
  subst h
  refine vI_ok (p := GoodC env Try.prog 32 _) goodC_no fun _ h => ?_
  subst h
  refine gC_ok (p := GoodC env Try.prog 32 _) goodC_no fun _ _ h => ?_
  subst h
  refine qS_ok (p := GoodC env Try.prog 32 _) goodC_no fun _ h => ?_
  subst h
  refine vI_ok (p := GoodC env Try.prog 32 _) goodC_no fun _ h => ?_
  subst h
  refine gC_ok (p := GoodC env Try.prog 32 _) goodC_no fun _ _ h => ?_
  subst h
  refine qS_ok (p := GoodC env Try.prog 32 _) goodC_no fun _ h => ?_
  subst h
  refine vI_ok (p := GoodC env Try.prog 32 _) goodC_no fun _ h => ?_
  subst h
  refine gC_ok (p := GoodC env Try.prog 32 _) goodC_no fun _ _ h => ?_
  subst h
  refine qS_ok (p := GoodC env Try.prog 32 _) goodC_no fun _ h => ?_
  subst h
  refine vB_ok (p := GoodC env Try.prog 32 _) goodC_no fun _ h => ?_
  subst h
  refine gC_ok (p := GoodC env Try.prog 32 _) goodC_no fun _ _ h => ?_
  subst h
  refine qS_ok (p := GoodC env Try.prog 32 _) goodC_no fun _ h => ?_
  subst h
  refine vB_ok (p := GoodC env Try.prog 32 _) goodC_no fun _ h => ?_
  subst h
  refine gC_ok (p := GoodC env Try.prog 32 _) goodC_no fun _ _ h => ?_
  subst h
  refine qSl_ok (p := GoodC env Try.prog 32 _) goodC_no fun _ h => ?_
  subst h
  refine gE_ok (p := GoodC env Try.prog 32 _) goodC_no fun h => ?_
  subst h
  refine gE_ok (p := GoodC env Try.prog 32 _) goodC_no fun h => ?_
  subst h
  exact fun_good (fun_sound envOK (cs_sound _ (by exact ⟨⟨f33.sound k, f33.fnok⟩, trivial⟩)) (f32.hok k) Try.func32 rfl) ((f32.ev k _ _ _ _ _ _ _ _ _ _ _ _ _ _ _ _ _ _ _ _).trans (f32.nat k _ _ _ _ _ _ _ _ _ _ _ _ _ _ _ _ _ _ _ _ _))
theorem f32.sound (k : Nat) : SoundC env Try.prog 32 (f32.e k).F := soundC_coer (f32.sound0 k) [[.no, .no, .no, .no, .no, .no, .no, .no, .no, .rd 5], [.no, .no, .no, .no, .no, .no, .no, .no, .no, .rd 5]]
theorem f32.says (k : Nat) (a1 : Int) (s2 : ByteArray) (s3 : ByteArray) (a4 : Int) (a5 : Int) (a6 : Int) (a7 : Int) (b8 : Bool) (b9 : Bool) (xs10 : List Int) (a11 : Int) (s12 : ByteArray) (s13 : ByteArray) (a14 : Int) (a15 : Int) (a16 : Int) (a17 : Int) (b18 : Bool) (b19 : Bool) (xs20 : List Int) (t23 : Bool) (h_ : f32 k a1 s2 s3 a4 a5 a6 a7 b8 b9 xs10 a11 s12 s13 a14 a15 a16 a17 b18 b19 xs20 = some t23) : SoundAt env Try.prog 32 [.g [.s (.int .i64 a1), .s (.string s2), .s (.string s3), .s (.int .i64 a4), .s (.int .i64 a5), .s (.int .i64 a6), .s (.int .i64 a7), .s (.bool b8), .s (.bool b9), .sl 5 xs10], .g [.s (.int .i64 a11), .s (.string s12), .s (.string s13), .s (.int .i64 a14), .s (.int .i64 a15), .s (.int .i64 a16), .s (.int .i64 a17), .s (.bool b18), .s (.bool b19), .sl 5 xs20]] ⟨.v (.c (.s (.bool t23))), [[], []]⟩ :=
  fun_sound envOK (cs_sound _ (by exact ⟨⟨f33.sound k, f33.fnok⟩, trivial⟩)) (f32.hok k) Try.func32 rfl _ _ (((f32.ev k a1 s2 s3 a4 a5 a6 a7 b8 b9 xs10 a11 s12 s13 a14 a15 a16 a17 b18 b19 xs20).trans (f32.nat k _ a1 s2 s3 a4 a5 a6 a7 b8 b9 xs10 a11 s12 s13 a14 a15 a16 a17 b18 b19 xs20)).trans (by rw [h_]; rfl))
theorem f32.fnok : FnOK Try.prog 32 := fn_ok Try.func32 (by kernel_rfl) rfl
def f34.l2.step {R : Type} (k : Nat) (rec_ : Int → Int → (List Int) → Option R) (ret : (Int × (List Int)) → Option R) (a3 : Int) (a4 : Int) (xs5 : List Int) : Option R :=
  if (decide (a4 < (((List.length xs5) : Nat) : Int))) = true then
    if (0 : Int) ≤ a4 then
      if a4 < ((List.length xs5 : Nat) : Int) then
        rec_ (IntKind.i64.wrap (a3 + (1 : Int))) (IntKind.i64.wrap (a4 + (1 : Int))) (List.set xs5 (Int.toNat a4) (IntKind.u8.wrap a3))
      else none
    else none
  else
    ret (a3, xs5)
def f34.l2 (k : Nat) : Nat → Int → Int → (List Int) → Option (Int × (List Int))
  | 0, _, _, _ => none
  | j + 1, a3, a4, xs5 => f34.l2.step k (fun a3 a4 xs5 => f34.l2 k j a3 a4 xs5) some a3 a4 xs5
def f34.l2.w {R : Type} : (Int × (List Int)) → (Exit → St env → Option R) → Option R := fun t7 K => K (.exit 0) ⟨fullT [0, 1] 0 20 [.v (.c (.row 2)), .v (.c (.s (.int .i64 t7.1)))], [(2, .row true 5 t7.2)], 418⟩
def f34.l2.st (a3 : Int) (a4 : Int) (xs5 : List Int) : St env := ⟨fullT [0, 1, 5] 0 20 [.v (.c (.row 2)), .v (.c (.s (.int .i64 a3))), .v (.c (.s (.int .i64 a4)))], [(2, .row true 5 xs5)], 162⟩
def f34.l2.hd (k : Nat) (ts_ : List (AV env)) (mm_ : Mem env) (n_ : Nat) : LCl env :=
  gTs LCl.no [0, 1, 5] 20 ts_ fun l_ => gV LCl.no l_ fun a_ l_ => rRow LCl.no 2 a_ <| gV LCl.no l_ fun a_ l_ => rV LCl.no a_ fun v_ => vI LCl.no .i64 v_ fun a3 => gV LCl.no l_ fun a_ l_ => rV LCl.no a_ fun v_ => vI LCl.no .i64 v_ fun a4 => gE LCl.no l_ <| mRow LCl.no 2 true 5 mm_ fun xs5 m_ => gE LCl.no m_ <| gN LCl.no 162 n_ { α := Int × (List Int), o := f34.l2 k k a3 a4 xs5, w := f34.l2.w }
def f34.step {R : Type} (k : Nat) (ret : (Int × (List Int)) → Option R) (xs1 : List Int) (a2 : Int) : Option R :=
  (f34.l2 k k a2 (0 : Int) xs1).bind fun t6 => ret (t6.1, t6.2)
def f34 (k : Nat) (xs1 : List Int) (a2 : Int) : Option (Int × (List Int)) := f34.step k some xs1 a2
def f34.w {R : Type} : (Int × (List Int)) → (Res env → Option R) → Option R := fun t8 K => K ⟨.v (.c (.s (.int .i64 t8.1))), [[.sl 5 t8.2], []]⟩
theorem f34.wn (x : (Int × (List Int))) : ∃ res, ∀ {R : Type} (K : Res env → Option R), f34.w x K = K res := by
  exact ⟨_, fun _ => rfl⟩
def f34.hd (k : Nat) (ps_ : List (P2 env)) : Cl env :=
  gC Cl.no ps_ fun p_ ps_ => qC Cl.no p_ fun c_ => qWr Cl.no 5 c_ fun xs1 => gC Cl.no ps_ fun p_ ps_ => qC Cl.no p_ fun c_ => qS Cl.no c_ fun v_ => vI Cl.no .i64 v_ fun a2 => gE Cl.no ps_ <| { α := Int × (List Int), o := f34 k xs1 a2, w := f34.w, nat := fun x _ => f34.wn x }
def f34.e (k : Nat) : Entry env := ⟨fun ps => f34.hd k (coer [[.wr 5], [.no]] ps), [(0, 0)]⟩
def f34.X (k : Nat) : Ctx env := { C := lookE [], L := lookE [(2, fun S => f34.l2.hd k S.ts S.m S.n)], J := lookE [], keep := lookD [(2, [0, 1, 5])], keepX := lookD [(2, [0, 1])], span := lookN [(2, 256)], eff := fun n => memN n [], prep := lookP [], np := 130 }
theorem f34.l2.nat {R : Type} (k : Nat) (rec_ : Int → Int → (List Int) → Option (Int × (List Int))) (g : (Int × (List Int)) → Option R) (a3 : Int) (a4 : Int) (xs5 : List Int) : (f34.l2.step k rec_ some a3 a4 xs5).bind g = f34.l2.step k (fun a3 a4 xs5 => (rec_ a3 a4 xs5).bind g) g a3 a4 xs5 := by
  simp only [f34.l2.step, bind_ite, bind_sum, Option.bind_assoc, Option.bind_some, Option.bind_none]
theorem f34.l2.good (k : Nat) (a3 : Int) (a4 : Int) (xs5 : List Int) : GoodL (f34.X k) (nthC 0 (loopsOf (bodyOf Try.f34))) (f34.l2.st a3 a4 xs5) { α := (Int × (List Int)), o := f34.l2 k k a3 a4 xs5, w := f34.l2.w } :=
  loop_good (ι := Int × Int × (List Int)) (α := (Int × (List Int))) (fun i => f34.l2.st i.1 i.2.1 i.2.2) (fun j i => f34.l2 k j i.1 i.2.1 i.2.2) f34.l2.w (fun rec_ ret i => f34.l2.step k (fun a3 a4 xs5 => rec_ (a3, a4, xs5)) ret i.1 i.2.1 i.2.2)
    (fun _ => rfl) (fun _ _ => rfl) (fun rec_ g i => f34.l2.nat k _ g i.1 i.2.1 i.2.2) (fun {R} i0 i rec_ K => by kernel_rfl) k (a3, a4, xs5)
theorem f34.l2.all (k : Nat) (S : St env) : GoodL (f34.X k) (nthC 0 (loopsOf (bodyOf Try.f34))) S (f34.l2.hd k S.ts S.m S.n) := by
  obtain ⟨ts_, m_, n_⟩ := S
  show GoodL _ _ _ (f34.l2.hd k ts_ m_ n_)
  unfold f34.l2.hd
  refine gTs_ok (p := GoodL _ _ _) goodL_no fun _ h => ?_
  subst h
  refine gV_ok (p := GoodL _ _ _) goodL_no fun _ _ h => ?_
  subst h
  refine rRow_ok (p := GoodL _ _ _) goodL_no fun h => ?_
  subst h
  refine gV_ok (p := GoodL _ _ _) goodL_no fun _ _ h => ?_
  subst h
  refine rV_ok (p := GoodL _ _ _) goodL_no fun _ h => ?_
  subst h
  refine vI_ok (p := GoodL _ _ _) goodL_no fun _ h => ?_
  subst h
  refine gV_ok (p := GoodL _ _ _) goodL_no fun _ _ h => ?_
  subst h
  refine rV_ok (p := GoodL _ _ _) goodL_no fun _ h => ?_
  subst h
  refine vI_ok (p := GoodL _ _ _) goodL_no fun _ h => ?_
  subst h
  refine gE_ok (p := GoodL _ _ _) goodL_no fun h => ?_
  subst h
  refine mRow_ok (p := GoodL _ _ _) goodL_no fun _ _ h => ?_
  subst h
  refine gE_ok (p := GoodL _ _ _) goodL_no fun h => ?_
  subst h
  refine gN_ok (p := GoodL _ _ _) goodL_no fun h => ?_
  subst h
  exact f34.l2.good k _ _ _
theorem f34.nat {R : Type} (k : Nat) (g : (Int × (List Int)) → Option R) (xs1 : List Int) (a2 : Int) : f34.step k g xs1 a2 = (f34 k xs1 a2).bind g := by
  simp only [f34, f34.step, bind_ite, bind_sum, Option.bind_assoc, Option.bind_some, Option.bind_none]
theorem f34.ev (k : Nat) (xs1 : List Int) (a2 : Int) : evF (f34.X k) (bodyOf Try.f34) Try.f34.ntmps Try.f34.results.toList [.v (.c (.wr 5 xs1)), .v (.c (.s (.int .i64 a2)))] = f34.step k (fun x => f34.w x some) xs1 a2 := by kernel_rfl
theorem f34.hok (k : Nat) : HOK (f34.X k) (bodyOf Try.f34) where
  l := allP_mem (by exact ⟨ls_of (h0 := fun S => f34.l2.hd k S.ts S.m S.n) (by kernel_rfl) (f34.l2.all k), trivial⟩)
  j := allP_mem (by exact trivial)
theorem f34.sound0 (k : Nat) : SoundC env Try.prog 34 (f34.hd k) := by
  intro ps_
  show GoodC _ _ _ ps_ (f34.hd k ps_)
  unfold f34.hd
  refine gC_ok (p := GoodC env Try.prog 34 _) goodC_no fun _ _ h => ?_
  subst h
  refine qC_ok (p := GoodC env Try.prog 34 _) goodC_no fun _ h => ?_
  subst h
  refine qWr_ok (p := GoodC env Try.prog 34 _) goodC_no fun _ h => ?_
  subst h
  refine gC_ok (p := GoodC env Try.prog 34 _) goodC_no fun _ _ h => ?_
  subst h
  refine qC_ok (p := GoodC env Try.prog 34 _) goodC_no fun _ h => ?_
  subst h
  refine qS_ok (p := GoodC env Try.prog 34 _) goodC_no fun _ h => ?_
  subst h
  refine vI_ok (p := GoodC env Try.prog 34 _) goodC_no fun _ h => ?_
  subst h
  refine gE_ok (p := GoodC env Try.prog 34 _) goodC_no fun h => ?_
  subst h
  exact fun_good (fun_sound envOK (cs_sound _ (by exact trivial)) (f34.hok k) Try.func34 rfl) ((f34.ev k _ _).trans (f34.nat k _ _ _))
theorem f34.sound (k : Nat) : SoundC env Try.prog 34 (f34.e k).F := soundC_coer (f34.sound0 k) [[.wr 5], [.no]]
theorem f34.says (k : Nat) (xs1 : List Int) (a2 : Int) (t9 : Int × (List Int)) (h_ : f34 k xs1 a2 = some t9) : SoundAt env Try.prog 34 [.v (.c (.wr 5 xs1)), .v (.c (.s (.int .i64 a2)))] ⟨.v (.c (.s (.int .i64 t9.1))), [[.sl 5 t9.2], []]⟩ :=
  fun_sound envOK (cs_sound _ (by exact trivial)) (f34.hok k) Try.func34 rfl _ _ (((f34.ev k xs1 a2).trans (f34.nat k _ xs1 a2)).trans (by rw [h_]; rfl))
theorem f34.fnok : FnOK Try.prog 34 := fn_ok Try.func34 (by kernel_rfl) rfl
def f35.step {R : Type} (k : Nat) (ret : (Int × Bool × Bool × Bool × Bool × Bool × Bool × Bool × Bool × Bool × (List Int)) → Option R) (a1 : Int) (s2 : ByteArray) (s3 : ByteArray) (a4 : Int) (a5 : Int) (a6 : Int) (a7 : Int) (b8 : Bool) (b9 : Bool) (xs10 : List Int) (a11 : Int) : Option R :=
  (f34 k xs10 a11).bind fun t12 => ret (t12.1, false, false, false, false, false, false, false, false, false, t12.2)
def f35 (k : Nat) (a1 : Int) (s2 : ByteArray) (s3 : ByteArray) (a4 : Int) (a5 : Int) (a6 : Int) (a7 : Int) (b8 : Bool) (b9 : Bool) (xs10 : List Int) (a11 : Int) : Option (Int × Bool × Bool × Bool × Bool × Bool × Bool × Bool × Bool × Bool × (List Int)) := f35.step k some a1 s2 s3 a4 a5 a6 a7 b8 b9 xs10 a11
def f35.w {R : Type} : (Int × Bool × Bool × Bool × Bool × Bool × Bool × Bool × Bool × Bool × (List Int)) → (Res env → Option R) → Option R := fun t13 K => K ⟨.v (.c (.s (.int .i64 t13.1))), [[.s (.bool t13.2.1), .s (.bool t13.2.2.1), .s (.bool t13.2.2.2.1), .s (.bool t13.2.2.2.2.1), .s (.bool t13.2.2.2.2.2.1), .s (.bool t13.2.2.2.2.2.2.1), .s (.bool t13.2.2.2.2.2.2.2.1), .s (.bool t13.2.2.2.2.2.2.2.2.1), .s (.bool t13.2.2.2.2.2.2.2.2.2.1), .sl 5 t13.2.2.2.2.2.2.2.2.2.2], []]⟩
theorem f35.wn (x : (Int × Bool × Bool × Bool × Bool × Bool × Bool × Bool × Bool × Bool × (List Int))) : ∃ res, ∀ {R : Type} (K : Res env → Option R), f35.w x K = K res := by
  exact ⟨_, fun _ => rfl⟩
def f35.hd (k : Nat) (ps_ : List (P2 env)) : Cl env :=
  gC Cl.no ps_ fun p_ ps_ => qG Cl.no p_ fun cs_ => gC Cl.no cs_ fun c_ cs_ => qS Cl.no c_ fun v_ => vI Cl.no .i64 v_ fun a1 => gC Cl.no cs_ fun c_ cs_ => qS Cl.no c_ fun v_ => vS Cl.no v_ fun s2 => gC Cl.no cs_ fun c_ cs_ => qS Cl.no c_ fun v_ => vS Cl.no v_ fun s3 => gC Cl.no cs_ fun c_ cs_ => qS Cl.no c_ fun v_ => vI Cl.no .i64 v_ fun a4 => gC Cl.no cs_ fun c_ cs_ => qS Cl.no c_ fun v_ => vI Cl.no .i64 v_ fun a5 => gC Cl.no cs_ fun c_ cs_ => qS Cl.no c_ fun v_ => vI Cl.no .i64 v_ fun a6 => gC Cl.no cs_ fun c_ cs_ => qS Cl.no c_ fun v_ => vI Cl.no .i64 v_ fun a7 => gC Cl.no cs_ fun c_ cs_ => qS Cl.no c_ fun v_ => vB Cl.no v_ fun b8 => gC Cl.no cs_ fun c_ cs_ => qS Cl.no c_ fun v_ => vB Cl.no v_ fun b9 => gC Cl.no cs_ fun c_ cs_ => qWr Cl.no 5 c_ fun xs10 => gE Cl.no cs_ <| gC Cl.no ps_ fun p_ ps_ => qC Cl.no p_ fun c_ => qS Cl.no c_ fun v_ => vI Cl.no .i64 v_ fun a11 => gE Cl.no ps_ <| { α := Int × Bool × Bool × Bool × Bool × Bool × Bool × Bool × Bool × Bool × (List Int), o := f35 k a1 s2 s3 a4 a5 a6 a7 b8 b9 xs10 a11, w := f35.w, nat := fun x _ => f35.wn x }
def f35.e (k : Nat) : Entry env := ⟨fun ps => f35.hd k (coer [[.no, .no, .no, .no, .no, .no, .no, .no, .no, .wr 5], [.no]] ps), [(0, 9)]⟩
def f35.X (k : Nat) : Ctx env := { C := lookE [(34, f34.e k)], L := lookE [], J := lookE [], keep := lookD [], keepX := lookD [], span := lookN [], eff := fun n => memN n [], prep := lookP [], np := 130 }
theorem f35.nat {R : Type} (k : Nat) (g : (Int × Bool × Bool × Bool × Bool × Bool × Bool × Bool × Bool × Bool × (List Int)) → Option R) (a1 : Int) (s2 : ByteArray) (s3 : ByteArray) (a4 : Int) (a5 : Int) (a6 : Int) (a7 : Int) (b8 : Bool) (b9 : Bool) (xs10 : List Int) (a11 : Int) : f35.step k g a1 s2 s3 a4 a5 a6 a7 b8 b9 xs10 a11 = (f35 k a1 s2 s3 a4 a5 a6 a7 b8 b9 xs10 a11).bind g := by
  simp only [f35, f35.step, bind_ite, bind_sum, Option.bind_assoc, Option.bind_some, Option.bind_none]
theorem f35.ev (k : Nat) (a1 : Int) (s2 : ByteArray) (s3 : ByteArray) (a4 : Int) (a5 : Int) (a6 : Int) (a7 : Int) (b8 : Bool) (b9 : Bool) (xs10 : List Int) (a11 : Int) : evF (f35.X k) (bodyOf Try.f35) Try.f35.ntmps Try.f35.results.toList [.g [.s (.int .i64 a1), .s (.string s2), .s (.string s3), .s (.int .i64 a4), .s (.int .i64 a5), .s (.int .i64 a6), .s (.int .i64 a7), .s (.bool b8), .s (.bool b9), .wr 5 xs10], .v (.c (.s (.int .i64 a11)))] = f35.step k (fun x => f35.w x some) a1 s2 s3 a4 a5 a6 a7 b8 b9 xs10 a11 := by kernel_rfl
theorem f35.hok (k : Nat) : HOK (f35.X k) (bodyOf Try.f35) where
  l := allP_mem (by exact trivial)
  j := allP_mem (by exact trivial)
theorem f35.sound0 (k : Nat) : SoundC env Try.prog 35 (f35.hd k) := by
  intro ps_
  show GoodC _ _ _ ps_ (f35.hd k ps_)
  unfold f35.hd
  refine gC_ok (p := GoodC env Try.prog 35 _) goodC_no fun _ _ h => ?_
  subst h
  refine qG_ok (p := GoodC env Try.prog 35 _) goodC_no fun _ h => ?_
  subst h
  refine gC_ok (p := GoodC env Try.prog 35 _) goodC_no fun _ _ h => ?_
  subst h
  refine qS_ok (p := GoodC env Try.prog 35 _) goodC_no fun _ h => ?_
  subst h
  refine vI_ok (p := GoodC env Try.prog 35 _) goodC_no fun _ h => ?_
  subst h
  refine gC_ok (p := GoodC env Try.prog 35 _) goodC_no fun _ _ h => ?_
  subst h
  refine qS_ok (p := GoodC env Try.prog 35 _) goodC_no fun _ h => ?_
  subst h
  refine vS_ok (p := GoodC env Try.prog 35 _) goodC_no fun _ h => ?_
  subst h
  refine gC_ok (p := GoodC env Try.prog 35 _) goodC_no fun _ _ h => ?_
  subst h
  refine qS_ok (p := GoodC env Try.prog 35 _) goodC_no fun _ h => ?_
  subst h
  refine vS_ok (p := GoodC env Try.prog 35 _) goodC_no fun _ h => ?_
  subst h
  refine gC_ok (p := GoodC env Try.prog 35 _) goodC_no fun _ _ h => ?_
  subst h
  refine qS_ok (p := GoodC env Try.prog 35 _) goodC_no fun _ h => ?_
  subst h
  refine vI_ok (p := GoodC env Try.prog 35 _) goodC_no fun _ h => ?_
  subst h
  refine gC_ok (p := GoodC env Try.prog 35 _) goodC_no fun _ _ h => ?_
  subst h
  refine qS_ok (p := GoodC env Try.prog 35 _) goodC_no fun _ h => ?_
  subst h
  refine vI_ok (p := GoodC env Try.prog 35 _) goodC_no fun _ h => ?_
  subst h
  refine gC_ok (p := GoodC env Try.prog 35 _) goodC_no fun _ _ h => ?_
  subst h
  refine qS_ok (p := GoodC env Try.prog 35 _) goodC_no fun _ h => ?_
  subst h
  refine vI_ok (p := GoodC env Try.prog 35 _) goodC_no fun _ h => ?_
  subst h
  refine gC_ok (p := GoodC env Try.prog 35 _) goodC_no fun _ _ h => ?_
  subst h
  refine qS_ok (p := GoodC env Try.prog 35 _) goodC_no fun _ h => ?_
  subst h
  refine vI_ok (p := GoodC env Try.prog 35 _) goodC_no fun _ h => ?_
  subst h
  refine gC_ok (p := GoodC env Try.prog 35 _) goodC_no fun _ _ h => ?_
  subst h
  refine qS_ok (p := GoodC env Try.prog 35 _) goodC_no fun _ h => ?_
  subst h
  refine vB_ok (p := GoodC env Try.prog 35 _) goodC_no fun _ h => ?_
  subst h
  refine gC_ok (p := GoodC env Try.prog 35 _) goodC_no fun _ _ h => ?_
  subst h
  refine qS_ok (p := GoodC env Try.prog 35 _) goodC_no fun _ h => ?_
  subst h
  refine vB_ok (p := GoodC env Try.prog 35 _) goodC_no fun _ h => ?_
  subst h
  refine gC_ok (p := GoodC env Try.prog 35 _) goodC_no fun _ _ h => ?_
  subst h
  refine qWr_ok (p := GoodC env Try.prog 35 _) goodC_no fun _ h => ?_
  subst h
  refine gE_ok (p := GoodC env Try.prog 35 _) goodC_no fun h => ?_
  subst h
  refine gC_ok (p := GoodC env Try.prog 35 _) goodC_no fun _ _ h => ?_
  subst h
  refine qC_ok (p := GoodC env Try.prog 35 _) goodC_no fun _ h => ?_
  subst h
  refine qS_ok (p := GoodC env Try.prog 35 _) goodC_no fun _ h => ?_
  subst h
  refine vI_ok (p := GoodC env Try.prog 35 _) goodC_no fun _ h => ?_
  subst h
  refine gE_ok (p := GoodC env Try.prog 35 _) goodC_no fun h => ?_
  subst h
  exact fun_good (fun_sound envOK (cs_sound _ (by exact ⟨⟨f34.sound k, f34.fnok⟩, trivial⟩)) (f35.hok k) Try.func35 rfl) ((f35.ev k _ _ _ _ _ _ _ _ _ _ _).trans (f35.nat k _ _ _ _ _ _ _ _ _ _ _ _))
theorem f35.sound (k : Nat) : SoundC env Try.prog 35 (f35.e k).F := soundC_coer (f35.sound0 k) [[.no, .no, .no, .no, .no, .no, .no, .no, .no, .wr 5], [.no]]
theorem f35.says (k : Nat) (a1 : Int) (s2 : ByteArray) (s3 : ByteArray) (a4 : Int) (a5 : Int) (a6 : Int) (a7 : Int) (b8 : Bool) (b9 : Bool) (xs10 : List Int) (a11 : Int) (t14 : Int × Bool × Bool × Bool × Bool × Bool × Bool × Bool × Bool × Bool × (List Int)) (h_ : f35 k a1 s2 s3 a4 a5 a6 a7 b8 b9 xs10 a11 = some t14) : SoundAt env Try.prog 35 [.g [.s (.int .i64 a1), .s (.string s2), .s (.string s3), .s (.int .i64 a4), .s (.int .i64 a5), .s (.int .i64 a6), .s (.int .i64 a7), .s (.bool b8), .s (.bool b9), .wr 5 xs10], .v (.c (.s (.int .i64 a11)))] ⟨.v (.c (.s (.int .i64 t14.1))), [[.s (.bool t14.2.1), .s (.bool t14.2.2.1), .s (.bool t14.2.2.2.1), .s (.bool t14.2.2.2.2.1), .s (.bool t14.2.2.2.2.2.1), .s (.bool t14.2.2.2.2.2.2.1), .s (.bool t14.2.2.2.2.2.2.2.1), .s (.bool t14.2.2.2.2.2.2.2.2.1), .s (.bool t14.2.2.2.2.2.2.2.2.2.1), .sl 5 t14.2.2.2.2.2.2.2.2.2.2], []]⟩ :=
  fun_sound envOK (cs_sound _ (by exact ⟨⟨f34.sound k, f34.fnok⟩, trivial⟩)) (f35.hok k) Try.func35 rfl _ _ (((f35.ev k a1 s2 s3 a4 a5 a6 a7 b8 b9 xs10 a11).trans (f35.nat k _ a1 s2 s3 a4 a5 a6 a7 b8 b9 xs10 a11)).trans (by rw [h_]; rfl))
theorem f35.fnok : FnOK Try.prog 35 := fn_ok Try.func35 (by kernel_rfl) rfl
def f95.l2.step {R : Type} (k : Nat) (rec_ : (List Int) → Int → Int → Option R) (ret : ((Int × Int) ⊕ (Int)) → Option R) (xs3 : List Int) (a4 : Int) (a5 : Int) : Option R :=
  if (decide (a5 < (((List.length xs3) : Nat) : Int))) = true then
    if (0 : Int) ≤ a5 then
      if a5 < ((List.length xs3 : Nat) : Int) then
        if (decide ((List.getD xs3 (Int.toNat a5) (0 : Int)) ≠ (IntKind.u8.wrap a4))) = true then
          ret (.inl (a4, (-1 : Int)))
        else
          rec_ xs3 (IntKind.i64.wrap (a4 + (1 : Int))) (IntKind.i64.wrap (a5 + (1 : Int)))
      else none
    else none
  else
    ret (.inr a4)
def f95.l2 (k : Nat) : Nat → (List Int) → Int → Int → Option ((Int × Int) ⊕ (Int))
  | 0, _, _, _ => none
  | j + 1, xs3, a4, a5 => f95.l2.step k (fun xs3 a4 a5 => f95.l2 k j xs3 a4 a5) some xs3 a4 a5
def f95.l2.w {R : Type} : ((Int × Int) ⊕ (Int)) → (Exit → St env → Option R) → Option R := fun x K => Sum.elim (fun t8 => K .ret ⟨fullT [1, 4] 0 22 [.v (.c (.s (.int .i64 t8.1))), .v (.c (.s (.int .i64 t8.2)))], [], 322⟩) (fun t9 => K (.exit 0) ⟨fullT [1] 0 22 [.v (.c (.s (.int .i64 t9)))], [], 322⟩) x
def f95.l2.st (xs3 : List Int) (a4 : Int) (a5 : Int) : St env := ⟨fullT [0, 1, 5] 0 22 [.v (.c (.imm 5 xs3)), .v (.c (.s (.int .i64 a4))), .v (.c (.s (.int .i64 a5)))], [], 34⟩
def f95.l2.hd (k : Nat) (ts_ : List (AV env)) (mm_ : Mem env) (n_ : Nat) : LCl env :=
  gTs LCl.no [0, 1, 5] 22 ts_ fun l_ => gV LCl.no l_ fun a_ l_ => rImm LCl.no 5 a_ fun xs3 => gV LCl.no l_ fun a_ l_ => rV LCl.no a_ fun v_ => vI LCl.no .i64 v_ fun a4 => gV LCl.no l_ fun a_ l_ => rV LCl.no a_ fun v_ => vI LCl.no .i64 v_ fun a5 => gE LCl.no l_ <| gE LCl.no mm_ <| gN LCl.no 34 n_ { α := (Int × Int) ⊕ (Int), o := f95.l2 k k xs3 a4 a5, w := f95.l2.w }
def f95.step {R : Type} (k : Nat) (ret : Int → Option R) (xs1 : List Int) (a2 : Int) : Option R :=
  (f95.l2 k k xs1 a2 (0 : Int)).bind (Sum.elim (fun t6 => ret t6.2) (fun t7 => ret t7))
def f95 (k : Nat) (xs1 : List Int) (a2 : Int) : Option Int := f95.step k some xs1 a2
def f95.w {R : Type} : Int → (Res env → Option R) → Option R := fun t10 K => K ⟨.v (.c (.s (.int .i64 t10))), [[], []]⟩
theorem f95.wn (x : Int) : ∃ res, ∀ {R : Type} (K : Res env → Option R), f95.w x K = K res := by
  exact ⟨_, fun _ => rfl⟩
def f95.hd (k : Nat) (ps_ : List (P2 env)) : Cl env :=
  gC Cl.no ps_ fun p_ ps_ => qC Cl.no p_ fun c_ => qSl Cl.no 5 c_ fun xs1 => gC Cl.no ps_ fun p_ ps_ => qC Cl.no p_ fun c_ => qS Cl.no c_ fun v_ => vI Cl.no .i64 v_ fun a2 => gE Cl.no ps_ <| { α := Int, o := f95 k xs1 a2, w := f95.w, nat := fun x _ => f95.wn x }
def f95.e (k : Nat) : Entry env := ⟨fun ps => f95.hd k (coer [[.rd 5], [.no]] ps), []⟩
def f95.X (k : Nat) : Ctx env := { C := lookE [], L := lookE [(2, fun S => f95.l2.hd k S.ts S.m S.n)], J := lookE [], keep := lookD [(2, [0, 1, 5])], keepX := lookD [(2, [1, 4])], span := lookN [(2, 288)], eff := fun n => memN n [], prep := lookP [], np := 0 }
theorem f95.l2.nat {R : Type} (k : Nat) (rec_ : (List Int) → Int → Int → Option ((Int × Int) ⊕ (Int))) (g : ((Int × Int) ⊕ (Int)) → Option R) (xs3 : List Int) (a4 : Int) (a5 : Int) : (f95.l2.step k rec_ some xs3 a4 a5).bind g = f95.l2.step k (fun xs3 a4 a5 => (rec_ xs3 a4 a5).bind g) g xs3 a4 a5 := by
  simp only [f95.l2.step, bind_ite, bind_sum, Option.bind_assoc, Option.bind_some, Option.bind_none]
theorem f95.l2.good (k : Nat) (xs3 : List Int) (a4 : Int) (a5 : Int) : GoodL (f95.X k) (nthC 0 (loopsOf (bodyOf Try.f95))) (f95.l2.st xs3 a4 a5) { α := ((Int × Int) ⊕ (Int)), o := f95.l2 k k xs3 a4 a5, w := f95.l2.w } :=
  loop_good (ι := (List Int) × Int × Int) (α := ((Int × Int) ⊕ (Int))) (fun i => f95.l2.st i.1 i.2.1 i.2.2) (fun j i => f95.l2 k j i.1 i.2.1 i.2.2) f95.l2.w (fun rec_ ret i => f95.l2.step k (fun xs3 a4 a5 => rec_ (xs3, a4, a5)) ret i.1 i.2.1 i.2.2)
    (fun _ => rfl) (fun _ _ => rfl) (fun rec_ g i => f95.l2.nat k _ g i.1 i.2.1 i.2.2) (fun {R} i0 i rec_ K => by kernel_rfl) k (xs3, a4, a5)
theorem f95.l2.all (k : Nat) (S : St env) : GoodL (f95.X k) (nthC 0 (loopsOf (bodyOf Try.f95))) S (f95.l2.hd k S.ts S.m S.n) := by
  obtain ⟨ts_, m_, n_⟩ := S
  show GoodL _ _ _ (f95.l2.hd k ts_ m_ n_)
  unfold f95.l2.hd
  refine gTs_ok (p := GoodL _ _ _) goodL_no fun _ h => ?_
  subst h
  refine gV_ok (p := GoodL _ _ _) goodL_no fun _ _ h => ?_
  subst h
  refine rImm_ok (p := GoodL _ _ _) goodL_no fun _ h => ?_
  subst h
  refine gV_ok (p := GoodL _ _ _) goodL_no fun _ _ h => ?_
  subst h
  refine rV_ok (p := GoodL _ _ _) goodL_no fun _ h => ?_
  subst h
  refine vI_ok (p := GoodL _ _ _) goodL_no fun _ h => ?_
  subst h
  refine gV_ok (p := GoodL _ _ _) goodL_no fun _ _ h => ?_
  subst h
  refine rV_ok (p := GoodL _ _ _) goodL_no fun _ h => ?_
  subst h
  refine vI_ok (p := GoodL _ _ _) goodL_no fun _ h => ?_
  subst h
  refine gE_ok (p := GoodL _ _ _) goodL_no fun h => ?_
  subst h
  refine gE_ok (p := GoodL _ _ _) goodL_no fun h => ?_
  subst h
  refine gN_ok (p := GoodL _ _ _) goodL_no fun h => ?_
  subst h
  exact f95.l2.good k _ _ _
theorem f95.nat {R : Type} (k : Nat) (g : Int → Option R) (xs1 : List Int) (a2 : Int) : f95.step k g xs1 a2 = (f95 k xs1 a2).bind g := by
  simp only [f95, f95.step, bind_ite, bind_sum, Option.bind_assoc, Option.bind_some, Option.bind_none]
theorem f95.ev (k : Nat) (xs1 : List Int) (a2 : Int) : evF (f95.X k) (bodyOf Try.f95) Try.f95.ntmps Try.f95.results.toList [.v (.c (.sl 5 xs1)), .v (.c (.s (.int .i64 a2)))] = f95.step k (fun x => f95.w x some) xs1 a2 := by kernel_rfl
theorem f95.hok (k : Nat) : HOK (f95.X k) (bodyOf Try.f95) where
  l := allP_mem (by exact ⟨ls_of (h0 := fun S => f95.l2.hd k S.ts S.m S.n) (by kernel_rfl) (f95.l2.all k), trivial⟩)
  j := allP_mem (by exact trivial)
theorem f95.sound0 (k : Nat) : SoundC env Try.prog 95 (f95.hd k) := by
  intro ps_
  show GoodC _ _ _ ps_ (f95.hd k ps_)
  unfold f95.hd
  refine gC_ok (p := GoodC env Try.prog 95 _) goodC_no fun _ _ h => ?_
  subst h
  refine qC_ok (p := GoodC env Try.prog 95 _) goodC_no fun _ h => ?_
  subst h
  refine qSl_ok (p := GoodC env Try.prog 95 _) goodC_no fun _ h => ?_
  subst h
  refine gC_ok (p := GoodC env Try.prog 95 _) goodC_no fun _ _ h => ?_
  subst h
  refine qC_ok (p := GoodC env Try.prog 95 _) goodC_no fun _ h => ?_
  subst h
  refine qS_ok (p := GoodC env Try.prog 95 _) goodC_no fun _ h => ?_
  subst h
  refine vI_ok (p := GoodC env Try.prog 95 _) goodC_no fun _ h => ?_
  subst h
  refine gE_ok (p := GoodC env Try.prog 95 _) goodC_no fun h => ?_
  subst h
  exact fun_good (fun_sound envOK (cs_sound _ (by exact trivial)) (f95.hok k) Try.func95 rfl) ((f95.ev k _ _).trans (f95.nat k _ _ _))
theorem f95.sound (k : Nat) : SoundC env Try.prog 95 (f95.e k).F := soundC_coer (f95.sound0 k) [[.rd 5], [.no]]
theorem f95.says (k : Nat) (xs1 : List Int) (a2 : Int) (t11 : Int) (h_ : f95 k xs1 a2 = some t11) : SoundAt env Try.prog 95 [.v (.c (.sl 5 xs1)), .v (.c (.s (.int .i64 a2)))] ⟨.v (.c (.s (.int .i64 t11))), [[], []]⟩ :=
  fun_sound envOK (cs_sound _ (by exact trivial)) (f95.hok k) Try.func95 rfl _ _ (((f95.ev k xs1 a2).trans (f95.nat k _ xs1 a2)).trans (by rw [h_]; rfl))
theorem f95.fnok : FnOK Try.prog 95 := fn_ok Try.func95 (by kernel_rfl) rfl
def f36.step {R : Type} (k : Nat) (ret : Int → Option R) (a1 : Int) (s2 : ByteArray) (s3 : ByteArray) (a4 : Int) (a5 : Int) (a6 : Int) (a7 : Int) (b8 : Bool) (b9 : Bool) (xs10 : List Int) (a11 : Int) : Option R :=
  (f95 k xs10 a11).bind fun t12 => if (decide (t12 < (0 : Int))) = true then
      ret (-1 : Int)
    else
      ret t12
def f36 (k : Nat) (a1 : Int) (s2 : ByteArray) (s3 : ByteArray) (a4 : Int) (a5 : Int) (a6 : Int) (a7 : Int) (b8 : Bool) (b9 : Bool) (xs10 : List Int) (a11 : Int) : Option Int := f36.step k some a1 s2 s3 a4 a5 a6 a7 b8 b9 xs10 a11
def f36.w {R : Type} : Int → (Res env → Option R) → Option R := fun t13 K => K ⟨.v (.c (.s (.int .i64 t13))), [[], []]⟩
theorem f36.wn (x : Int) : ∃ res, ∀ {R : Type} (K : Res env → Option R), f36.w x K = K res := by
  exact ⟨_, fun _ => rfl⟩
def f36.hd (k : Nat) (ps_ : List (P2 env)) : Cl env :=
  gC Cl.no ps_ fun p_ ps_ => qG Cl.no p_ fun cs_ => gC Cl.no cs_ fun c_ cs_ => qS Cl.no c_ fun v_ => vI Cl.no .i64 v_ fun a1 => gC Cl.no cs_ fun c_ cs_ => qS Cl.no c_ fun v_ => vS Cl.no v_ fun s2 => gC Cl.no cs_ fun c_ cs_ => qS Cl.no c_ fun v_ => vS Cl.no v_ fun s3 => gC Cl.no cs_ fun c_ cs_ => qS Cl.no c_ fun v_ => vI Cl.no .i64 v_ fun a4 => gC Cl.no cs_ fun c_ cs_ => qS Cl.no c_ fun v_ => vI Cl.no .i64 v_ fun a5 => gC Cl.no cs_ fun c_ cs_ => qS Cl.no c_ fun v_ => vI Cl.no .i64 v_ fun a6 => gC Cl.no cs_ fun c_ cs_ => qS Cl.no c_ fun v_ => vI Cl.no .i64 v_ fun a7 => gC Cl.no cs_ fun c_ cs_ => qS Cl.no c_ fun v_ => vB Cl.no v_ fun b8 => gC Cl.no cs_ fun c_ cs_ => qS Cl.no c_ fun v_ => vB Cl.no v_ fun b9 => gC Cl.no cs_ fun c_ cs_ => qSl Cl.no 5 c_ fun xs10 => gE Cl.no cs_ <| gC Cl.no ps_ fun p_ ps_ => qC Cl.no p_ fun c_ => qS Cl.no c_ fun v_ => vI Cl.no .i64 v_ fun a11 => gE Cl.no ps_ <| { α := Int, o := f36 k a1 s2 s3 a4 a5 a6 a7 b8 b9 xs10 a11, w := f36.w, nat := fun x _ => f36.wn x }
def f36.e (k : Nat) : Entry env := ⟨fun ps => f36.hd k (coer [[.no, .no, .no, .no, .no, .no, .no, .no, .no, .rd 5], [.no]] ps), []⟩
def f36.X (k : Nat) : Ctx env := { C := lookE [(95, f95.e k)], L := lookE [], J := lookE [], keep := lookD [], keepX := lookD [], span := lookN [], eff := fun n => memN n [], prep := lookP [], np := 0 }
theorem f36.nat {R : Type} (k : Nat) (g : Int → Option R) (a1 : Int) (s2 : ByteArray) (s3 : ByteArray) (a4 : Int) (a5 : Int) (a6 : Int) (a7 : Int) (b8 : Bool) (b9 : Bool) (xs10 : List Int) (a11 : Int) : f36.step k g a1 s2 s3 a4 a5 a6 a7 b8 b9 xs10 a11 = (f36 k a1 s2 s3 a4 a5 a6 a7 b8 b9 xs10 a11).bind g := by
  simp only [f36, f36.step, bind_ite, bind_sum, Option.bind_assoc, Option.bind_some, Option.bind_none]
theorem f36.ev (k : Nat) (a1 : Int) (s2 : ByteArray) (s3 : ByteArray) (a4 : Int) (a5 : Int) (a6 : Int) (a7 : Int) (b8 : Bool) (b9 : Bool) (xs10 : List Int) (a11 : Int) : evF (f36.X k) (bodyOf Try.f36) Try.f36.ntmps Try.f36.results.toList [.g [.s (.int .i64 a1), .s (.string s2), .s (.string s3), .s (.int .i64 a4), .s (.int .i64 a5), .s (.int .i64 a6), .s (.int .i64 a7), .s (.bool b8), .s (.bool b9), .sl 5 xs10], .v (.c (.s (.int .i64 a11)))] = f36.step k (fun x => f36.w x some) a1 s2 s3 a4 a5 a6 a7 b8 b9 xs10 a11 := by kernel_rfl
theorem f36.hok (k : Nat) : HOK (f36.X k) (bodyOf Try.f36) where
  l := allP_mem (by exact trivial)
  j := allP_mem (by exact trivial)
theorem f36.sound0 (k : Nat) : SoundC env Try.prog 36 (f36.hd k) := by
  intro ps_
  show GoodC _ _ _ ps_ (f36.hd k ps_)
  unfold f36.hd
  refine gC_ok (p := GoodC env Try.prog 36 _) goodC_no fun _ _ h => ?_
  subst h
  refine qG_ok (p := GoodC env Try.prog 36 _) goodC_no fun _ h => ?_
  subst h
  refine gC_ok (p := GoodC env Try.prog 36 _) goodC_no fun _ _ h => ?_
  subst h
  refine qS_ok (p := GoodC env Try.prog 36 _) goodC_no fun _ h => ?_
  subst h
  refine vI_ok (p := GoodC env Try.prog 36 _) goodC_no fun _ h => ?_
  subst h
  refine gC_ok (p := GoodC env Try.prog 36 _) goodC_no fun _ _ h => ?_
  subst h
  refine qS_ok (p := GoodC env Try.prog 36 _) goodC_no fun _ h => ?_
  subst h
  refine vS_ok (p := GoodC env Try.prog 36 _) goodC_no fun _ h => ?_
  subst h
  refine gC_ok (p := GoodC env Try.prog 36 _) goodC_no fun _ _ h => ?_
  subst h
  refine qS_ok (p := GoodC env Try.prog 36 _) goodC_no fun _ h => ?_
  subst h
  refine vS_ok (p := GoodC env Try.prog 36 _) goodC_no fun _ h => ?_
  subst h
  refine gC_ok (p := GoodC env Try.prog 36 _) goodC_no fun _ _ h => ?_
  subst h
  refine qS_ok (p := GoodC env Try.prog 36 _) goodC_no fun _ h => ?_
  subst h
  refine vI_ok (p := GoodC env Try.prog 36 _) goodC_no fun _ h => ?_
  subst h
  refine gC_ok (p := GoodC env Try.prog 36 _) goodC_no fun _ _ h => ?_
  subst h
  refine qS_ok (p := GoodC env Try.prog 36 _) goodC_no fun _ h => ?_
  subst h
  refine vI_ok (p := GoodC env Try.prog 36 _) goodC_no fun _ h => ?_
  subst h
  refine gC_ok (p := GoodC env Try.prog 36 _) goodC_no fun _ _ h => ?_
  subst h
  refine qS_ok (p := GoodC env Try.prog 36 _) goodC_no fun _ h => ?_
  subst h
  refine vI_ok (p := GoodC env Try.prog 36 _) goodC_no fun _ h => ?_
  subst h
  refine gC_ok (p := GoodC env Try.prog 36 _) goodC_no fun _ _ h => ?_
  subst h
  refine qS_ok (p := GoodC env Try.prog 36 _) goodC_no fun _ h => ?_
  subst h
  refine vI_ok (p := GoodC env Try.prog 36 _) goodC_no fun _ h => ?_
  subst h
  refine gC_ok (p := GoodC env Try.prog 36 _) goodC_no fun _ _ h => ?_
  subst h
  refine qS_ok (p := GoodC env Try.prog 36 _) goodC_no fun _ h => ?_
  subst h
  refine vB_ok (p := GoodC env Try.prog 36 _) goodC_no fun _ h => ?_
  subst h
  refine gC_ok (p := GoodC env Try.prog 36 _) goodC_no fun _ _ h => ?_
  subst h
  refine qS_ok (p := GoodC env Try.prog 36 _) goodC_no fun _ h => ?_
  subst h
  refine vB_ok (p := GoodC env Try.prog 36 _) goodC_no fun _ h => ?_
  subst h
  refine gC_ok (p := GoodC env Try.prog 36 _) goodC_no fun _ _ h => ?_
  subst h
  refine qSl_ok (p := GoodC env Try.prog 36 _) goodC_no fun _ h => ?_
  subst h
  refine gE_ok (p := GoodC env Try.prog 36 _) goodC_no fun h => ?_
  subst h
  refine gC_ok (p := GoodC env Try.prog 36 _) goodC_no fun _ _ h => ?_
  subst h
  refine qC_ok (p := GoodC env Try.prog 36 _) goodC_no fun _ h => ?_
  subst h
  refine qS_ok (p := GoodC env Try.prog 36 _) goodC_no fun _ h => ?_
  subst h
  refine vI_ok (p := GoodC env Try.prog 36 _) goodC_no fun _ h => ?_
  subst h
  refine gE_ok (p := GoodC env Try.prog 36 _) goodC_no fun h => ?_
  subst h
  exact fun_good (fun_sound envOK (cs_sound _ (by exact ⟨⟨f95.sound k, f95.fnok⟩, trivial⟩)) (f36.hok k) Try.func36 rfl) ((f36.ev k _ _ _ _ _ _ _ _ _ _ _).trans (f36.nat k _ _ _ _ _ _ _ _ _ _ _ _))
theorem f36.sound (k : Nat) : SoundC env Try.prog 36 (f36.e k).F := soundC_coer (f36.sound0 k) [[.no, .no, .no, .no, .no, .no, .no, .no, .no, .rd 5], [.no]]
theorem f36.says (k : Nat) (a1 : Int) (s2 : ByteArray) (s3 : ByteArray) (a4 : Int) (a5 : Int) (a6 : Int) (a7 : Int) (b8 : Bool) (b9 : Bool) (xs10 : List Int) (a11 : Int) (t14 : Int) (h_ : f36 k a1 s2 s3 a4 a5 a6 a7 b8 b9 xs10 a11 = some t14) : SoundAt env Try.prog 36 [.g [.s (.int .i64 a1), .s (.string s2), .s (.string s3), .s (.int .i64 a4), .s (.int .i64 a5), .s (.int .i64 a6), .s (.int .i64 a7), .s (.bool b8), .s (.bool b9), .sl 5 xs10], .v (.c (.s (.int .i64 a11)))] ⟨.v (.c (.s (.int .i64 t14))), [[], []]⟩ :=
  fun_sound envOK (cs_sound _ (by exact ⟨⟨f95.sound k, f95.fnok⟩, trivial⟩)) (f36.hok k) Try.func36 rfl _ _ (((f36.ev k a1 s2 s3 a4 a5 a6 a7 b8 b9 xs10 a11).trans (f36.nat k _ a1 s2 s3 a4 a5 a6 a7 b8 b9 xs10 a11)).trans (by rw [h_]; rfl))
theorem f36.fnok : FnOK Try.prog 36 := fn_ok Try.func36 (by kernel_rfl) rfl
def f5.step {R : Type} (k : Nat) (ret : Bool → Option R) (xs1 : List Int) : Option R :=
  if (decide ((((List.length xs1) : Nat) : Int) > (1048576 : Int))) = true then
    ret true
  else
    (f30 k xs1).bind fun t2 => (f29 k t2).bind (Sum.elim (fun t3 => (f30 k xs1).bind fun t4 => (f31 k t4).bind (Sum.elim (fun t5 => (f32 k t5.1 t5.2.1 t5.2.2.1 t5.2.2.2.1 t5.2.2.2.2.1 t5.2.2.2.2.2.1 t5.2.2.2.2.2.2.1 t5.2.2.2.2.2.2.2.1 t5.2.2.2.2.2.2.2.2.1 ([] : List Int) t3.1 t3.2.1 t3.2.2.1 t3.2.2.2.1 t3.2.2.2.2.1 t3.2.2.2.2.2.1 t3.2.2.2.2.2.2.1 t3.2.2.2.2.2.2.2.1 t3.2.2.2.2.2.2.2.2.1 ([] : List Int)).bind fun t6 => if (!t6) = false then
                if (decide (t5.2.2.2.2.2.2.2.2.2 ≠ t3.2.2.2.2.2.2.2.2.2)) = true then
                  ret false
                else
                  (f30 k xs1).bind fun t7 => (f33 k t4 t7).bind fun t8 => if (!t8) = true then
                        ret false
                      else
                        (f34 k t4 (1 : Int)).bind fun t9 => if (decide (t9.1 < (0 : Int))) = false then
                            (f32 k t5.1 t5.2.1 t5.2.2.1 t5.2.2.2.1 t5.2.2.2.2.1 t5.2.2.2.2.2.1 t5.2.2.2.2.2.2.1 t5.2.2.2.2.2.2.2.1 t5.2.2.2.2.2.2.2.2.1 ([] : List Int) t3.1 t3.2.1 t3.2.2.1 t3.2.2.2.1 t3.2.2.2.2.1 t3.2.2.2.2.2.1 t3.2.2.2.2.2.2.1 t3.2.2.2.2.2.2.2.1 t3.2.2.2.2.2.2.2.2.1 ([] : List Int)).bind fun t10 => if (!t10) = false then
                                if (decide (t5.2.2.2.2.2.2.2.2.2 ≠ t3.2.2.2.2.2.2.2.2.2)) = true then
                                  ret false
                                else
                                  (f35 k t5.1 t5.2.1 t5.2.2.1 t5.2.2.2.1 t5.2.2.2.2.1 t5.2.2.2.2.2.1 t5.2.2.2.2.2.2.1 t5.2.2.2.2.2.2.2.1 t5.2.2.2.2.2.2.2.2.1 ([] : List Int) (1 : Int)).bind fun t11 => (f36 k t5.1 t5.2.1 t5.2.2.1 t5.2.2.2.1 t5.2.2.2.2.1 t5.2.2.2.2.2.1 t5.2.2.2.2.2.2.1 t5.2.2.2.2.2.2.2.1 t5.2.2.2.2.2.2.2.2.1 ([] : List Int) (1 : Int)).bind fun t12 => if (decide (t12 < (0 : Int))) = true then
                                        ret false
                                      else
                                        if (decide (t12 ≠ t11.1)) = true then
                                          ret false
                                        else
                                          (f30 k xs1).bind fun t13 => (f31 k t13).bind (Sum.elim (fun t14 => (f32 k t14.1 t14.2.1 t14.2.2.1 t14.2.2.2.1 t14.2.2.2.2.1 t14.2.2.2.2.2.1 t14.2.2.2.2.2.2.1 t14.2.2.2.2.2.2.2.1 t14.2.2.2.2.2.2.2.2.1 ([] : List Int) t3.1 t3.2.1 t3.2.2.1 t3.2.2.2.1 t3.2.2.2.2.1 t3.2.2.2.2.2.1 t3.2.2.2.2.2.2.1 t3.2.2.2.2.2.2.2.1 t3.2.2.2.2.2.2.2.2.1 ([] : List Int)).bind fun t15 => if (!t15) = false then
                                                  if (decide (t14.2.2.2.2.2.2.2.2.2 ≠ t3.2.2.2.2.2.2.2.2.2)) = true then
                                                    ret false
                                                  else
                                                    (f36 k t5.1 t5.2.1 t5.2.2.1 t5.2.2.2.1 t5.2.2.2.2.1 t5.2.2.2.2.2.1 t5.2.2.2.2.2.2.1 t5.2.2.2.2.2.2.2.1 t5.2.2.2.2.2.2.2.2.1 ([] : List Int) (1 : Int)).bind fun t16 => if (decide (t16 < (0 : Int))) = true then
                                                        ret false
                                                      else
                                                        if (decide (t16 ≠ t11.1)) = true then
                                                          ret false
                                                        else
                                                          ret true
                                                else
                                                  ret false) (fun t17 => (f32 k t17.1 t17.2.1 t17.2.2.1 t17.2.2.2.1 t17.2.2.2.2.1 t17.2.2.2.2.2.1 t17.2.2.2.2.2.2.1 t17.2.2.2.2.2.2.2.1 t17.2.2.2.2.2.2.2.2.1 t17.2.2.2.2.2.2.2.2.2.1 t3.1 t3.2.1 t3.2.2.1 t3.2.2.2.1 t3.2.2.2.2.1 t3.2.2.2.2.2.1 t3.2.2.2.2.2.2.1 t3.2.2.2.2.2.2.2.1 t3.2.2.2.2.2.2.2.2.1 ([] : List Int)).bind fun t18 => if (!t18) = false then
                                                  if (decide (t17.2.2.2.2.2.2.2.2.2.2 ≠ t3.2.2.2.2.2.2.2.2.2)) = true then
                                                    ret false
                                                  else
                                                    (f36 k t5.1 t5.2.1 t5.2.2.1 t5.2.2.2.1 t5.2.2.2.2.1 t5.2.2.2.2.2.1 t5.2.2.2.2.2.2.1 t5.2.2.2.2.2.2.2.1 t5.2.2.2.2.2.2.2.2.1 ([] : List Int) (1 : Int)).bind fun t19 => if (decide (t19 < (0 : Int))) = true then
                                                        ret false
                                                      else
                                                        if (decide (t19 ≠ t11.1)) = true then
                                                          ret false
                                                        else
                                                          ret true
                                                else
                                                  ret false))
                              else
                                ret false
                          else
                            ret false
              else
                ret false) (fun t20 => (f32 k t20.1 t20.2.1 t20.2.2.1 t20.2.2.2.1 t20.2.2.2.2.1 t20.2.2.2.2.2.1 t20.2.2.2.2.2.2.1 t20.2.2.2.2.2.2.2.1 t20.2.2.2.2.2.2.2.2.1 t20.2.2.2.2.2.2.2.2.2.1 t3.1 t3.2.1 t3.2.2.1 t3.2.2.2.1 t3.2.2.2.2.1 t3.2.2.2.2.2.1 t3.2.2.2.2.2.2.1 t3.2.2.2.2.2.2.2.1 t3.2.2.2.2.2.2.2.2.1 ([] : List Int)).bind fun t21 => if (!t21) = false then
                if (decide (t20.2.2.2.2.2.2.2.2.2.2 ≠ t3.2.2.2.2.2.2.2.2.2)) = true then
                  ret false
                else
                  (f30 k xs1).bind fun t22 => (f33 k t4 t22).bind fun t23 => if (!t23) = true then
                        ret false
                      else
                        (f34 k t4 (1 : Int)).bind fun t24 => if (decide (t24.1 < (0 : Int))) = false then
                            (f32 k t20.1 t20.2.1 t20.2.2.1 t20.2.2.2.1 t20.2.2.2.2.1 t20.2.2.2.2.2.1 t20.2.2.2.2.2.2.1 t20.2.2.2.2.2.2.2.1 t20.2.2.2.2.2.2.2.2.1 t20.2.2.2.2.2.2.2.2.2.1 t3.1 t3.2.1 t3.2.2.1 t3.2.2.2.1 t3.2.2.2.2.1 t3.2.2.2.2.2.1 t3.2.2.2.2.2.2.1 t3.2.2.2.2.2.2.2.1 t3.2.2.2.2.2.2.2.2.1 ([] : List Int)).bind fun t25 => if (!t25) = false then
                                if (decide (t20.2.2.2.2.2.2.2.2.2.2 ≠ t3.2.2.2.2.2.2.2.2.2)) = true then
                                  ret false
                                else
                                  (f35 k t20.1 t20.2.1 t20.2.2.1 t20.2.2.2.1 t20.2.2.2.2.1 t20.2.2.2.2.2.1 t20.2.2.2.2.2.2.1 t20.2.2.2.2.2.2.2.1 t20.2.2.2.2.2.2.2.2.1 t20.2.2.2.2.2.2.2.2.2.1 (1 : Int)).bind fun t26 => (f36 k t20.1 t20.2.1 t20.2.2.1 t20.2.2.2.1 t20.2.2.2.2.1 t20.2.2.2.2.2.1 t20.2.2.2.2.2.2.1 t20.2.2.2.2.2.2.2.1 t20.2.2.2.2.2.2.2.2.1 t26.2.2.2.2.2.2.2.2.2.2 (1 : Int)).bind fun t27 => if (decide (t27 < (0 : Int))) = true then
                                        ret false
                                      else
                                        if (decide (t27 ≠ t26.1)) = true then
                                          ret false
                                        else
                                          (f30 k xs1).bind fun t28 => (f31 k t28).bind (Sum.elim (fun t29 => (f32 k t29.1 t29.2.1 t29.2.2.1 t29.2.2.2.1 t29.2.2.2.2.1 t29.2.2.2.2.2.1 t29.2.2.2.2.2.2.1 t29.2.2.2.2.2.2.2.1 t29.2.2.2.2.2.2.2.2.1 ([] : List Int) t3.1 t3.2.1 t3.2.2.1 t3.2.2.2.1 t3.2.2.2.2.1 t3.2.2.2.2.2.1 t3.2.2.2.2.2.2.1 t3.2.2.2.2.2.2.2.1 t3.2.2.2.2.2.2.2.2.1 ([] : List Int)).bind fun t30 => if (!t30) = false then
                                                  if (decide (t29.2.2.2.2.2.2.2.2.2 ≠ t3.2.2.2.2.2.2.2.2.2)) = true then
                                                    ret false
                                                  else
                                                    (f36 k t20.1 t20.2.1 t20.2.2.1 t20.2.2.2.1 t20.2.2.2.2.1 t20.2.2.2.2.2.1 t20.2.2.2.2.2.2.1 t20.2.2.2.2.2.2.2.1 t20.2.2.2.2.2.2.2.2.1 t26.2.2.2.2.2.2.2.2.2.2 (1 : Int)).bind fun t31 => if (decide (t31 < (0 : Int))) = true then
                                                        ret false
                                                      else
                                                        if (decide (t31 ≠ t26.1)) = true then
                                                          ret false
                                                        else
                                                          ret true
                                                else
                                                  ret false) (fun t32 => (f32 k t32.1 t32.2.1 t32.2.2.1 t32.2.2.2.1 t32.2.2.2.2.1 t32.2.2.2.2.2.1 t32.2.2.2.2.2.2.1 t32.2.2.2.2.2.2.2.1 t32.2.2.2.2.2.2.2.2.1 t32.2.2.2.2.2.2.2.2.2.1 t3.1 t3.2.1 t3.2.2.1 t3.2.2.2.1 t3.2.2.2.2.1 t3.2.2.2.2.2.1 t3.2.2.2.2.2.2.1 t3.2.2.2.2.2.2.2.1 t3.2.2.2.2.2.2.2.2.1 ([] : List Int)).bind fun t33 => if (!t33) = false then
                                                  if (decide (t32.2.2.2.2.2.2.2.2.2.2 ≠ t3.2.2.2.2.2.2.2.2.2)) = true then
                                                    ret false
                                                  else
                                                    (f36 k t20.1 t20.2.1 t20.2.2.1 t20.2.2.2.1 t20.2.2.2.2.1 t20.2.2.2.2.2.1 t20.2.2.2.2.2.2.1 t20.2.2.2.2.2.2.2.1 t20.2.2.2.2.2.2.2.2.1 t26.2.2.2.2.2.2.2.2.2.2 (1 : Int)).bind fun t34 => if (decide (t34 < (0 : Int))) = true then
                                                        ret false
                                                      else
                                                        if (decide (t34 ≠ t26.1)) = true then
                                                          ret false
                                                        else
                                                          ret true
                                                else
                                                  ret false))
                              else
                                ret false
                          else
                            ret false
              else
                ret false))) (fun t35 => (f30 k xs1).bind fun t36 => (f31 k t36).bind (Sum.elim (fun t37 => (f32 k t37.1 t37.2.1 t37.2.2.1 t37.2.2.2.1 t37.2.2.2.2.1 t37.2.2.2.2.2.1 t37.2.2.2.2.2.2.1 t37.2.2.2.2.2.2.2.1 t37.2.2.2.2.2.2.2.2.1 ([] : List Int) t35.1 t35.2.1 t35.2.2.1 t35.2.2.2.1 t35.2.2.2.2.1 t35.2.2.2.2.2.1 t35.2.2.2.2.2.2.1 t35.2.2.2.2.2.2.2.1 t35.2.2.2.2.2.2.2.2.1 t35.2.2.2.2.2.2.2.2.2.1).bind fun t38 => if (!t38) = false then
                if (decide (t37.2.2.2.2.2.2.2.2.2 ≠ t35.2.2.2.2.2.2.2.2.2.2)) = true then
                  ret false
                else
                  (f30 k xs1).bind fun t39 => (f33 k t36 t39).bind fun t40 => if (!t40) = true then
                        ret false
                      else
                        (f34 k t36 (1 : Int)).bind fun t41 => if (decide (t41.1 < (0 : Int))) = false then
                            (f32 k t37.1 t37.2.1 t37.2.2.1 t37.2.2.2.1 t37.2.2.2.2.1 t37.2.2.2.2.2.1 t37.2.2.2.2.2.2.1 t37.2.2.2.2.2.2.2.1 t37.2.2.2.2.2.2.2.2.1 ([] : List Int) t35.1 t35.2.1 t35.2.2.1 t35.2.2.2.1 t35.2.2.2.2.1 t35.2.2.2.2.2.1 t35.2.2.2.2.2.2.1 t35.2.2.2.2.2.2.2.1 t35.2.2.2.2.2.2.2.2.1 t35.2.2.2.2.2.2.2.2.2.1).bind fun t42 => if (!t42) = false then
                                if (decide (t37.2.2.2.2.2.2.2.2.2 ≠ t35.2.2.2.2.2.2.2.2.2.2)) = true then
                                  ret false
                                else
                                  (f35 k t37.1 t37.2.1 t37.2.2.1 t37.2.2.2.1 t37.2.2.2.2.1 t37.2.2.2.2.2.1 t37.2.2.2.2.2.2.1 t37.2.2.2.2.2.2.2.1 t37.2.2.2.2.2.2.2.2.1 ([] : List Int) (1 : Int)).bind fun t43 => (f36 k t37.1 t37.2.1 t37.2.2.1 t37.2.2.2.1 t37.2.2.2.2.1 t37.2.2.2.2.2.1 t37.2.2.2.2.2.2.1 t37.2.2.2.2.2.2.2.1 t37.2.2.2.2.2.2.2.2.1 ([] : List Int) (1 : Int)).bind fun t44 => if (decide (t44 < (0 : Int))) = true then
                                        ret false
                                      else
                                        if (decide (t44 ≠ t43.1)) = true then
                                          ret false
                                        else
                                          (f30 k xs1).bind fun t45 => (f31 k t45).bind (Sum.elim (fun t46 => (f32 k t46.1 t46.2.1 t46.2.2.1 t46.2.2.2.1 t46.2.2.2.2.1 t46.2.2.2.2.2.1 t46.2.2.2.2.2.2.1 t46.2.2.2.2.2.2.2.1 t46.2.2.2.2.2.2.2.2.1 ([] : List Int) t35.1 t35.2.1 t35.2.2.1 t35.2.2.2.1 t35.2.2.2.2.1 t35.2.2.2.2.2.1 t35.2.2.2.2.2.2.1 t35.2.2.2.2.2.2.2.1 t35.2.2.2.2.2.2.2.2.1 t35.2.2.2.2.2.2.2.2.2.1).bind fun t47 => if (!t47) = false then
                                                  if (decide (t46.2.2.2.2.2.2.2.2.2 ≠ t35.2.2.2.2.2.2.2.2.2.2)) = true then
                                                    ret false
                                                  else
                                                    (f36 k t37.1 t37.2.1 t37.2.2.1 t37.2.2.2.1 t37.2.2.2.2.1 t37.2.2.2.2.2.1 t37.2.2.2.2.2.2.1 t37.2.2.2.2.2.2.2.1 t37.2.2.2.2.2.2.2.2.1 ([] : List Int) (1 : Int)).bind fun t48 => if (decide (t48 < (0 : Int))) = true then
                                                        ret false
                                                      else
                                                        if (decide (t48 ≠ t43.1)) = true then
                                                          ret false
                                                        else
                                                          ret true
                                                else
                                                  ret false) (fun t49 => (f32 k t49.1 t49.2.1 t49.2.2.1 t49.2.2.2.1 t49.2.2.2.2.1 t49.2.2.2.2.2.1 t49.2.2.2.2.2.2.1 t49.2.2.2.2.2.2.2.1 t49.2.2.2.2.2.2.2.2.1 t49.2.2.2.2.2.2.2.2.2.1 t35.1 t35.2.1 t35.2.2.1 t35.2.2.2.1 t35.2.2.2.2.1 t35.2.2.2.2.2.1 t35.2.2.2.2.2.2.1 t35.2.2.2.2.2.2.2.1 t35.2.2.2.2.2.2.2.2.1 t35.2.2.2.2.2.2.2.2.2.1).bind fun t50 => if (!t50) = false then
                                                  if (decide (t49.2.2.2.2.2.2.2.2.2.2 ≠ t35.2.2.2.2.2.2.2.2.2.2)) = true then
                                                    ret false
                                                  else
                                                    (f36 k t37.1 t37.2.1 t37.2.2.1 t37.2.2.2.1 t37.2.2.2.2.1 t37.2.2.2.2.2.1 t37.2.2.2.2.2.2.1 t37.2.2.2.2.2.2.2.1 t37.2.2.2.2.2.2.2.2.1 ([] : List Int) (1 : Int)).bind fun t51 => if (decide (t51 < (0 : Int))) = true then
                                                        ret false
                                                      else
                                                        if (decide (t51 ≠ t43.1)) = true then
                                                          ret false
                                                        else
                                                          ret true
                                                else
                                                  ret false))
                              else
                                ret false
                          else
                            ret false
              else
                ret false) (fun t52 => (f32 k t52.1 t52.2.1 t52.2.2.1 t52.2.2.2.1 t52.2.2.2.2.1 t52.2.2.2.2.2.1 t52.2.2.2.2.2.2.1 t52.2.2.2.2.2.2.2.1 t52.2.2.2.2.2.2.2.2.1 t52.2.2.2.2.2.2.2.2.2.1 t35.1 t35.2.1 t35.2.2.1 t35.2.2.2.1 t35.2.2.2.2.1 t35.2.2.2.2.2.1 t35.2.2.2.2.2.2.1 t35.2.2.2.2.2.2.2.1 t35.2.2.2.2.2.2.2.2.1 t35.2.2.2.2.2.2.2.2.2.1).bind fun t53 => if (!t53) = false then
                if (decide (t52.2.2.2.2.2.2.2.2.2.2 ≠ t35.2.2.2.2.2.2.2.2.2.2)) = true then
                  ret false
                else
                  (f30 k xs1).bind fun t54 => (f33 k t36 t54).bind fun t55 => if (!t55) = true then
                        ret false
                      else
                        (f34 k t36 (1 : Int)).bind fun t56 => if (decide (t56.1 < (0 : Int))) = false then
                            (f32 k t52.1 t52.2.1 t52.2.2.1 t52.2.2.2.1 t52.2.2.2.2.1 t52.2.2.2.2.2.1 t52.2.2.2.2.2.2.1 t52.2.2.2.2.2.2.2.1 t52.2.2.2.2.2.2.2.2.1 t52.2.2.2.2.2.2.2.2.2.1 t35.1 t35.2.1 t35.2.2.1 t35.2.2.2.1 t35.2.2.2.2.1 t35.2.2.2.2.2.1 t35.2.2.2.2.2.2.1 t35.2.2.2.2.2.2.2.1 t35.2.2.2.2.2.2.2.2.1 t35.2.2.2.2.2.2.2.2.2.1).bind fun t57 => if (!t57) = false then
                                if (decide (t52.2.2.2.2.2.2.2.2.2.2 ≠ t35.2.2.2.2.2.2.2.2.2.2)) = true then
                                  ret false
                                else
                                  (f35 k t52.1 t52.2.1 t52.2.2.1 t52.2.2.2.1 t52.2.2.2.2.1 t52.2.2.2.2.2.1 t52.2.2.2.2.2.2.1 t52.2.2.2.2.2.2.2.1 t52.2.2.2.2.2.2.2.2.1 t52.2.2.2.2.2.2.2.2.2.1 (1 : Int)).bind fun t58 => (f36 k t52.1 t52.2.1 t52.2.2.1 t52.2.2.2.1 t52.2.2.2.2.1 t52.2.2.2.2.2.1 t52.2.2.2.2.2.2.1 t52.2.2.2.2.2.2.2.1 t52.2.2.2.2.2.2.2.2.1 t58.2.2.2.2.2.2.2.2.2.2 (1 : Int)).bind fun t59 => if (decide (t59 < (0 : Int))) = true then
                                        ret false
                                      else
                                        if (decide (t59 ≠ t58.1)) = true then
                                          ret false
                                        else
                                          (f30 k xs1).bind fun t60 => (f31 k t60).bind (Sum.elim (fun t61 => (f32 k t61.1 t61.2.1 t61.2.2.1 t61.2.2.2.1 t61.2.2.2.2.1 t61.2.2.2.2.2.1 t61.2.2.2.2.2.2.1 t61.2.2.2.2.2.2.2.1 t61.2.2.2.2.2.2.2.2.1 ([] : List Int) t35.1 t35.2.1 t35.2.2.1 t35.2.2.2.1 t35.2.2.2.2.1 t35.2.2.2.2.2.1 t35.2.2.2.2.2.2.1 t35.2.2.2.2.2.2.2.1 t35.2.2.2.2.2.2.2.2.1 t35.2.2.2.2.2.2.2.2.2.1).bind fun t62 => if (!t62) = false then
                                                  if (decide (t61.2.2.2.2.2.2.2.2.2 ≠ t35.2.2.2.2.2.2.2.2.2.2)) = true then
                                                    ret false
                                                  else
                                                    (f36 k t52.1 t52.2.1 t52.2.2.1 t52.2.2.2.1 t52.2.2.2.2.1 t52.2.2.2.2.2.1 t52.2.2.2.2.2.2.1 t52.2.2.2.2.2.2.2.1 t52.2.2.2.2.2.2.2.2.1 t58.2.2.2.2.2.2.2.2.2.2 (1 : Int)).bind fun t63 => if (decide (t63 < (0 : Int))) = true then
                                                        ret false
                                                      else
                                                        if (decide (t63 ≠ t58.1)) = true then
                                                          ret false
                                                        else
                                                          ret true
                                                else
                                                  ret false) (fun t64 => (f32 k t64.1 t64.2.1 t64.2.2.1 t64.2.2.2.1 t64.2.2.2.2.1 t64.2.2.2.2.2.1 t64.2.2.2.2.2.2.1 t64.2.2.2.2.2.2.2.1 t64.2.2.2.2.2.2.2.2.1 t64.2.2.2.2.2.2.2.2.2.1 t35.1 t35.2.1 t35.2.2.1 t35.2.2.2.1 t35.2.2.2.2.1 t35.2.2.2.2.2.1 t35.2.2.2.2.2.2.1 t35.2.2.2.2.2.2.2.1 t35.2.2.2.2.2.2.2.2.1 t35.2.2.2.2.2.2.2.2.2.1).bind fun t65 => if (!t65) = false then
                                                  if (decide (t64.2.2.2.2.2.2.2.2.2.2 ≠ t35.2.2.2.2.2.2.2.2.2.2)) = true then
                                                    ret false
                                                  else
                                                    (f36 k t52.1 t52.2.1 t52.2.2.1 t52.2.2.2.1 t52.2.2.2.2.1 t52.2.2.2.2.2.1 t52.2.2.2.2.2.2.1 t52.2.2.2.2.2.2.2.1 t52.2.2.2.2.2.2.2.2.1 t58.2.2.2.2.2.2.2.2.2.2 (1 : Int)).bind fun t66 => if (decide (t66 < (0 : Int))) = true then
                                                        ret false
                                                      else
                                                        if (decide (t66 ≠ t58.1)) = true then
                                                          ret false
                                                        else
                                                          ret true
                                                else
                                                  ret false))
                              else
                                ret false
                          else
                            ret false
              else
                ret false))))
def f5 (k : Nat) (xs1 : List Int) : Option Bool := f5.step k some xs1
def f5.w {R : Type} : Bool → (Res env → Option R) → Option R := fun t67 K => K ⟨.v (.c (.s (.bool t67))), [[]]⟩
theorem f5.wn (x : Bool) : ∃ res, ∀ {R : Type} (K : Res env → Option R), f5.w x K = K res := by
  exact ⟨_, fun _ => rfl⟩
def f5.hd (k : Nat) (ps_ : List (P2 env)) : Cl env :=
  gC Cl.no ps_ fun p_ ps_ => qC Cl.no p_ fun c_ => qSl Cl.no 5 c_ fun xs1 => gE Cl.no ps_ <| { α := Bool, o := f5 k xs1, w := f5.w, nat := fun x _ => f5.wn x }
def f5.e (k : Nat) : Entry env := ⟨fun ps => f5.hd k (coer [[.rd 5]] ps), []⟩
def f5.X (k : Nat) : Ctx env := { C := lookE [(29, f29.e k), (30, f30.e k), (31, f31.e k), (32, f32.e k), (33, f33.e k), (34, f34.e k), (35, f35.e k), (36, f36.e k)], L := lookE [], J := lookE [], keep := lookD [], keepX := lookD [], span := lookN [], eff := fun n => memN n [], prep := lookP [], np := 0 }
theorem f5.nat {R : Type} (k : Nat) (g : Bool → Option R) (xs1 : List Int) : f5.step k g xs1 = (f5 k xs1).bind g := by
  simp only [f5, f5.step, bind_ite, bind_sum, Option.bind_assoc, Option.bind_some, Option.bind_none]
theorem f5.ev (k : Nat) (xs1 : List Int) : evF (f5.X k) (bodyOf Try.f5) Try.f5.ntmps Try.f5.results.toList [.v (.c (.sl 5 xs1))] = f5.step k (fun x => f5.w x some) xs1 := by kernel_rfl
theorem f5.hok (k : Nat) : HOK (f5.X k) (bodyOf Try.f5) where
  l := allP_mem (by exact trivial)
  j := allP_mem (by exact trivial)
theorem f5.sound0 (k : Nat) : SoundC env Try.prog 5 (f5.hd k) := by
  intro ps_
  show GoodC _ _ _ ps_ (f5.hd k ps_)
  unfold f5.hd
  refine gC_ok (p := GoodC env Try.prog 5 _) goodC_no fun _ _ h => ?_
  subst h
  refine qC_ok (p := GoodC env Try.prog 5 _) goodC_no fun _ h => ?_
  subst h
  refine qSl_ok (p := GoodC env Try.prog 5 _) goodC_no fun _ h => ?_
  subst h
  refine gE_ok (p := GoodC env Try.prog 5 _) goodC_no fun h => ?_
  subst h
  exact fun_good (fun_sound envOK (cs_sound _ (by exact ⟨⟨f29.sound k, f29.fnok⟩, ⟨f30.sound k, f30.fnok⟩, ⟨f31.sound k, f31.fnok⟩, ⟨f32.sound k, f32.fnok⟩, ⟨f33.sound k, f33.fnok⟩, ⟨f34.sound k, f34.fnok⟩, ⟨f35.sound k, f35.fnok⟩, ⟨f36.sound k, f36.fnok⟩, trivial⟩)) (f5.hok k) Try.func5 rfl) ((f5.ev k _).trans (f5.nat k _ _))
theorem f5.sound (k : Nat) : SoundC env Try.prog 5 (f5.e k).F := soundC_coer (f5.sound0 k) [[.rd 5]]
theorem f5.says (k : Nat) (xs1 : List Int) (t68 : Bool) (h_ : f5 k xs1 = some t68) : SoundAt env Try.prog 5 [.v (.c (.sl 5 xs1))] ⟨.v (.c (.s (.bool t68))), [[]]⟩ :=
  fun_sound envOK (cs_sound _ (by exact ⟨⟨f29.sound k, f29.fnok⟩, ⟨f30.sound k, f30.fnok⟩, ⟨f31.sound k, f31.fnok⟩, ⟨f32.sound k, f32.fnok⟩, ⟨f33.sound k, f33.fnok⟩, ⟨f34.sound k, f34.fnok⟩, ⟨f35.sound k, f35.fnok⟩, ⟨f36.sound k, f36.fnok⟩, trivial⟩)) (f5.hok k) Try.func5 rfl _ _ (((f5.ev k xs1).trans (f5.nat k _ xs1)).trans (by rw [h_]; rfl))
theorem f5.fnok : FnOK Try.prog 5 := fn_ok Try.func5 (by kernel_rfl) rfl
end Go.Proofs.Ytildepkogbcdpaa.B

/- Written by a program of this session. -/
import Derived.Test.YtildepkogbcdpaaBEnv
import Derived.Test.YtildepkogbcdpaaBHd
namespace Go.Proofs.Ytildepkogbcdpaa.B
open Go Go.B
set_option linter.unusedVariables false
set_option linter.unusedSimpArgs false
def f81.step {R : Type} (k : Nat) (ret : ((List Int) × Int × Int) → Option R) (xs1 : List Int) : Option R :=
  ret (xs1, (0 : Int), (Int.tmod (((List.length xs1) : Nat) : Int) (1000 : Int)))
def f81 (k : Nat) (xs1 : List Int) : Option ((List Int) × Int × Int) := f81.step k some xs1
def f81.w {R : Type} : ((List Int) × Int × Int) → (Res env → Option R) → Option R := fun t2 K => K ⟨.v (.c (.ptr [.sl 5 t2.1, .s (.int .i64 t2.2.1), .s (.int .i64 t2.2.2)])), [[]]⟩
theorem f81.wn (x : ((List Int) × Int × Int)) : ∃ res, ∀ {R : Type} (K : Res env → Option R), f81.w x K = K res := by
  exact ⟨_, fun _ => rfl⟩
def f81.hd (k : Nat) (ps_ : List (P2 env)) : Cl env :=
  gC Cl.no ps_ fun p_ ps_ => qC Cl.no p_ fun c_ => qSl Cl.no 5 c_ fun xs1 => gE Cl.no ps_ <| { α := (List Int) × Int × Int, o := f81 k xs1, w := f81.w, nat := fun x _ => f81.wn x }
def f81.e (k : Nat) : Entry env := ⟨fun ps => f81.hd k (coer [[.rd 5]] ps), [], []⟩
def f81.X (k : Nat) : Ctx env := { C := lookE [], L := lookE [], J := lookE [], keep := lookD [], keepX := lookD [], span := lookN [], eff := fun n => memN n [], prep := lookP [], np := 0 }
theorem f81.nat {R : Type} (k : Nat) (g : ((List Int) × Int × Int) → Option R) (xs1 : List Int) : f81.step k g xs1 = (f81 k xs1).bind g := by
  simp only [f81, f81.step, bind_ite, bind_sum, Option.bind_assoc, Option.bind_some, Option.bind_none]
theorem f81.ev (k : Nat) (xs1 : List Int) : evF (f81.X k) (bodyOf Try.f81) Try.f81.ntmps Try.f81.results.toList [.v (.c (.sl 5 xs1))] = f81.step k (fun x => f81.w x some) xs1 := by kernel_rfl
theorem f81.hok (k : Nat) : HOK (f81.X k) (bodyOf Try.f81) where
  l := allP_mem (by exact trivial)
  j := allP_mem (by exact trivial)
theorem f81.sound0 (k : Nat) : SoundC env Try.prog 81 (f81.hd k) := by
  intro ps_
  show GoodC _ _ _ ps_ (f81.hd k ps_)
  unfold f81.hd
  refine gC_ok (p := GoodC env Try.prog 81 _) goodC_no fun _ _ h => ?_
  subst h
  refine qC_ok (p := GoodC env Try.prog 81 _) goodC_no fun _ h => ?_
  subst h
  refine qSl_ok (p := GoodC env Try.prog 81 _) goodC_no fun _ h => ?_
  subst h
  refine gE_ok (p := GoodC env Try.prog 81 _) goodC_no fun h => ?_
  subst h
  exact fun_good (fun_sound envOK (cs_sound _ (by exact trivial)) (f81.hok k) Try.func81 rfl) ((f81.ev k _).trans (f81.nat k _ _))
theorem f81.sound (k : Nat) : SoundC env Try.prog 81 (f81.e k).F := soundC_coer (f81.sound0 k) [[.rd 5]]
theorem f81.says (k : Nat) (xs1 : List Int) (t3 : (List Int) × Int × Int) (h_ : f81 k xs1 = some t3) : SoundAt env Try.prog 81 [.v (.c (.sl 5 xs1))] ⟨.v (.c (.ptr [.sl 5 t3.1, .s (.int .i64 t3.2.1), .s (.int .i64 t3.2.2)])), [[]]⟩ :=
  fun_sound envOK (cs_sound _ (by exact trivial)) (f81.hok k) Try.func81 rfl _ _ (((f81.ev k xs1).trans (f81.nat k _ xs1)).trans (by rw [h_]; rfl))
theorem f81.fnok : FnOK Try.prog 81 := fn_ok Try.func81 (by kernel_rfl) rfl
def f182.step {R : Type} (k : Nat) (ret : (Int × (List Int) × Int × Int) → Option R) (xs1 : List Int) (a2 : Int) (a3 : Int) : Option R :=
  if (decide ((IntKind.i64.wrap (a2 + (1 : Int))) ≤ (((List.length xs1) : Nat) : Int))) = true then
    if (0 : Int) ≤ (IntKind.i64.wrap ((IntKind.i64.wrap (a2 + (1 : Int))) - (1 : Int))) then
      if (IntKind.i64.wrap ((IntKind.i64.wrap (a2 + (1 : Int))) - (1 : Int))) < ((List.length xs1 : Nat) : Int) then
        if (0 : Int) ≤ (IntKind.i64.wrap ((IntKind.i64.wrap (a2 + (1 : Int))) - (1 : Int))) then
          if (IntKind.i64.wrap ((IntKind.i64.wrap (a2 + (1 : Int))) - (1 : Int))) < ((List.length xs1 : Nat) : Int) then
            ret ((IntKind.i64.wrap (List.getD xs1 (Int.toNat (IntKind.i64.wrap ((IntKind.i64.wrap (a2 + (1 : Int))) - (1 : Int)))) (0 : Int))), xs1, (IntKind.i64.wrap (a2 + (1 : Int))), (Int.tmod (IntKind.i64.wrap ((IntKind.i64.wrap ((IntKind.i64.wrap (a3 * (31 : Int))) + (IntKind.i64.wrap (List.getD xs1 (Int.toNat (IntKind.i64.wrap ((IntKind.i64.wrap (a2 + (1 : Int))) - (1 : Int)))) (0 : Int))))) + (7 : Int))) (2147483648 : Int)))
          else none
        else none
      else none
    else none
  else
    if (decide ((IntKind.i64.wrap (a2 + (1 : Int))) > (3000 : Int))) = true then
      ret ((0 : Int), xs1, (IntKind.i64.wrap (a2 + (1 : Int))), a3)
    else
      ret ((Int.tmod (IntKind.i64.wrap (Int.tdiv (Int.tmod (IntKind.i64.wrap ((IntKind.i64.wrap (a3 * (1103515245 : Int))) + (12345 : Int))) (2147483648 : Int)) (65536 : Int))) (256 : Int)), xs1, (IntKind.i64.wrap (a2 + (1 : Int))), (Int.tmod (IntKind.i64.wrap ((IntKind.i64.wrap (a3 * (1103515245 : Int))) + (12345 : Int))) (2147483648 : Int)))
def f182 (k : Nat) (xs1 : List Int) (a2 : Int) (a3 : Int) : Option (Int × (List Int) × Int × Int) := f182.step k some xs1 a2 a3
def f182.w {R : Type} : (Int × (List Int) × Int × Int) → (Res env → Option R) → Option R := fun t4 K => K ⟨.v (.c (.s (.int .i64 t4.1))), [[.sl 5 t4.2.1, .s (.int .i64 t4.2.2.1), .s (.int .i64 t4.2.2.2)]]⟩
theorem f182.wn (x : (Int × (List Int) × Int × Int)) : ∃ res, ∀ {R : Type} (K : Res env → Option R), f182.w x K = K res := by
  exact ⟨_, fun _ => rfl⟩
def f182.hd (k : Nat) (ps_ : List (P2 env)) : Cl env :=
  gC Cl.no ps_ fun p_ ps_ => qP Cl.no p_ fun cs_ => gC Cl.no cs_ fun c_ cs_ => qSl Cl.no 5 c_ fun xs1 => gC Cl.no cs_ fun c_ cs_ => qS Cl.no c_ fun v_ => vI Cl.no .i64 v_ fun a2 => gC Cl.no cs_ fun c_ cs_ => qS Cl.no c_ fun v_ => vI Cl.no .i64 v_ fun a3 => gE Cl.no cs_ <| gE Cl.no ps_ <| { α := Int × (List Int) × Int × Int, o := f182 k xs1 a2 a3, w := f182.w, nat := fun x _ => f182.wn x }
def f182.e (k : Nat) : Entry env := ⟨fun ps => f182.hd k (coer [[.rd 5, .no, .no]] ps), [], []⟩
def f182.X (k : Nat) : Ctx env := { C := lookE [], L := lookE [], J := lookE [], keep := lookD [], keepX := lookD [], span := lookN [], eff := fun n => memN n [3], prep := lookP [], np := 0 }
theorem f182.nat {R : Type} (k : Nat) (g : (Int × (List Int) × Int × Int) → Option R) (xs1 : List Int) (a2 : Int) (a3 : Int) : f182.step k g xs1 a2 a3 = (f182 k xs1 a2 a3).bind g := by
  simp only [f182, f182.step, bind_ite, bind_sum, Option.bind_assoc, Option.bind_some, Option.bind_none]
theorem f182.ev (k : Nat) (xs1 : List Int) (a2 : Int) (a3 : Int) : evF (f182.X k) (bodyOf Try.f182) Try.f182.ntmps Try.f182.results.toList [.v (.ptr [.sl 5 xs1, .s (.int .i64 a2), .s (.int .i64 a3)])] = f182.step k (fun x => f182.w x some) xs1 a2 a3 := by kernel_rfl
theorem f182.hok (k : Nat) : HOK (f182.X k) (bodyOf Try.f182) where
  l := allP_mem (by exact trivial)
  j := allP_mem (by exact trivial)
theorem f182.sound0 (k : Nat) : SoundC env Try.prog 182 (f182.hd k) := by
  intro ps_
  show GoodC _ _ _ ps_ (f182.hd k ps_)
  unfold f182.hd
  refine gC_ok (p := GoodC env Try.prog 182 _) goodC_no fun _ _ h => ?_
  subst h
  refine qP_ok (p := GoodC env Try.prog 182 _) goodC_no fun _ h => ?_
  subst h
  refine gC_ok (p := GoodC env Try.prog 182 _) goodC_no fun _ _ h => ?_
  subst h
  refine qSl_ok (p := GoodC env Try.prog 182 _) goodC_no fun _ h => ?_
  subst h
  refine gC_ok (p := GoodC env Try.prog 182 _) goodC_no fun _ _ h => ?_
  subst h
  refine qS_ok (p := GoodC env Try.prog 182 _) goodC_no fun _ h => ?_
  subst h
  refine vI_ok (p := GoodC env Try.prog 182 _) goodC_no fun _ h => ?_
  subst h
  refine gC_ok (p := GoodC env Try.prog 182 _) goodC_no fun _ _ h => ?_
  subst h
  refine qS_ok (p := GoodC env Try.prog 182 _) goodC_no fun _ h => ?_
  subst h
  refine vI_ok (p := GoodC env Try.prog 182 _) goodC_no fun _ h => ?_
  subst h
  refine gE_ok (p := GoodC env Try.prog 182 _) goodC_no fun h => ?_
  subst h
  refine gE_ok (p := GoodC env Try.prog 182 _) goodC_no fun h => ?_
  subst h
  exact fun_good (fun_sound envOK (cs_sound _ (by exact trivial)) (f182.hok k) Try.func182 rfl) ((f182.ev k _ _ _).trans (f182.nat k _ _ _ _))
theorem f182.sound (k : Nat) : SoundC env Try.prog 182 (f182.e k).F := soundC_coer (f182.sound0 k) [[.rd 5, .no, .no]]
theorem f182.says (k : Nat) (xs1 : List Int) (a2 : Int) (a3 : Int) (t5 : Int × (List Int) × Int × Int) (h_ : f182 k xs1 a2 a3 = some t5) : SoundAt env Try.prog 182 [.v (.ptr [.sl 5 xs1, .s (.int .i64 a2), .s (.int .i64 a3)])] ⟨.v (.c (.s (.int .i64 t5.1))), [[.sl 5 t5.2.1, .s (.int .i64 t5.2.2.1), .s (.int .i64 t5.2.2.2)]]⟩ :=
  fun_sound envOK (cs_sound _ (by exact trivial)) (f182.hok k) Try.func182 rfl _ _ (((f182.ev k xs1 a2 a3).trans (f182.nat k _ xs1 a2 a3)).trans (by rw [h_]; rfl))
theorem f182.fnok : FnOK Try.prog 182 := fn_ok Try.func182 (by kernel_rfl) rfl
def f145.step {R : Type} (k : Nat) (ret : (Int × (List Int) × Int × Int) → Option R) (xs1 : List Int) (a2 : Int) (a3 : Int) (a4 : Int) : Option R :=
  if (decide (a4 ≤ (1 : Int))) = true then
    ret ((0 : Int), xs1, a2, a3)
  else
    if (decide (a4 ≤ (256 : Int))) = true then
      (f182 k xs1 a2 a3).bind fun t5 => if a4 ≠ 0 then
          ret ((Int.tmod t5.1 a4), t5.2.1, t5.2.2.1, t5.2.2.2)
        else none
    else
      (f182 k xs1 a2 a3).bind fun t6 => (f182 k t6.2.1 t6.2.2.1 t6.2.2.2).bind fun t7 => (f182 k t7.2.1 t7.2.2.1 t7.2.2.2).bind fun t8 => if a4 ≠ 0 then
              ret ((Int.tmod (IntKind.i64.wrap ((IntKind.i64.wrap ((IntKind.i64.wrap (t6.1 * (65536 : Int))) + (IntKind.i64.wrap (t7.1 * (256 : Int))))) + t8.1)) a4), t8.2.1, t8.2.2.1, t8.2.2.2)
            else none
def f145 (k : Nat) (xs1 : List Int) (a2 : Int) (a3 : Int) (a4 : Int) : Option (Int × (List Int) × Int × Int) := f145.step k some xs1 a2 a3 a4
def f145.w {R : Type} : (Int × (List Int) × Int × Int) → (Res env → Option R) → Option R := fun t9 K => K ⟨.v (.c (.s (.int .i64 t9.1))), [[.sl 5 t9.2.1, .s (.int .i64 t9.2.2.1), .s (.int .i64 t9.2.2.2)], []]⟩
theorem f145.wn (x : (Int × (List Int) × Int × Int)) : ∃ res, ∀ {R : Type} (K : Res env → Option R), f145.w x K = K res := by
  exact ⟨_, fun _ => rfl⟩
def f145.hd (k : Nat) (ps_ : List (P2 env)) : Cl env :=
  gC Cl.no ps_ fun p_ ps_ => qP Cl.no p_ fun cs_ => gC Cl.no cs_ fun c_ cs_ => qSl Cl.no 5 c_ fun xs1 => gC Cl.no cs_ fun c_ cs_ => qS Cl.no c_ fun v_ => vI Cl.no .i64 v_ fun a2 => gC Cl.no cs_ fun c_ cs_ => qS Cl.no c_ fun v_ => vI Cl.no .i64 v_ fun a3 => gE Cl.no cs_ <| gC Cl.no ps_ fun p_ ps_ => qC Cl.no p_ fun c_ => qS Cl.no c_ fun v_ => vI Cl.no .i64 v_ fun a4 => gE Cl.no ps_ <| { α := Int × (List Int) × Int × Int, o := f145 k xs1 a2 a3 a4, w := f145.w, nat := fun x _ => f145.wn x }
def f145.e (k : Nat) : Entry env := ⟨fun ps => f145.hd k (coer [[.rd 5, .no, .no], [.no]] ps), [], []⟩
def f145.X (k : Nat) : Ctx env := { C := lookE [(182, f182.e k)], L := lookE [], J := lookE [], keep := lookD [], keepX := lookD [], span := lookN [], eff := fun n => memN n [], prep := lookP [], np := 0 }
theorem f145.nat {R : Type} (k : Nat) (g : (Int × (List Int) × Int × Int) → Option R) (xs1 : List Int) (a2 : Int) (a3 : Int) (a4 : Int) : f145.step k g xs1 a2 a3 a4 = (f145 k xs1 a2 a3 a4).bind g := by
  simp only [f145, f145.step, bind_ite, bind_sum, Option.bind_assoc, Option.bind_some, Option.bind_none]
theorem f145.ev (k : Nat) (xs1 : List Int) (a2 : Int) (a3 : Int) (a4 : Int) : evF (f145.X k) (bodyOf Try.f145) Try.f145.ntmps Try.f145.results.toList [.v (.ptr [.sl 5 xs1, .s (.int .i64 a2), .s (.int .i64 a3)]), .v (.c (.s (.int .i64 a4)))] = f145.step k (fun x => f145.w x some) xs1 a2 a3 a4 := by kernel_rfl
theorem f145.hok (k : Nat) : HOK (f145.X k) (bodyOf Try.f145) where
  l := allP_mem (by exact trivial)
  j := allP_mem (by exact trivial)
theorem f145.sound0 (k : Nat) : SoundC env Try.prog 145 (f145.hd k) := by
  intro ps_
  show GoodC _ _ _ ps_ (f145.hd k ps_)
  unfold f145.hd
  refine gC_ok (p := GoodC env Try.prog 145 _) goodC_no fun _ _ h => ?_
  subst h
  refine qP_ok (p := GoodC env Try.prog 145 _) goodC_no fun _ h => ?_
  subst h
  refine gC_ok (p := GoodC env Try.prog 145 _) goodC_no fun _ _ h => ?_
  subst h
  refine qSl_ok (p := GoodC env Try.prog 145 _) goodC_no fun _ h => ?_
  subst h
  refine gC_ok (p := GoodC env Try.prog 145 _) goodC_no fun _ _ h => ?_
  subst h
  refine qS_ok (p := GoodC env Try.prog 145 _) goodC_no fun _ h => ?_
  subst h
  refine vI_ok (p := GoodC env Try.prog 145 _) goodC_no fun _ h => ?_
  subst h
  refine gC_ok (p := GoodC env Try.prog 145 _) goodC_no fun _ _ h => ?_
  subst h
  refine qS_ok (p := GoodC env Try.prog 145 _) goodC_no fun _ h => ?_
  subst h
  refine vI_ok (p := GoodC env Try.prog 145 _) goodC_no fun _ h => ?_
  subst h
  refine gE_ok (p := GoodC env Try.prog 145 _) goodC_no fun h => ?_
  subst h
  refine gC_ok (p := GoodC env Try.prog 145 _) goodC_no fun _ _ h => ?_
  subst h
  refine qC_ok (p := GoodC env Try.prog 145 _) goodC_no fun _ h => ?_
  subst h
  refine qS_ok (p := GoodC env Try.prog 145 _) goodC_no fun _ h => ?_
  subst h
  refine vI_ok (p := GoodC env Try.prog 145 _) goodC_no fun _ h => ?_
  subst h
  refine gE_ok (p := GoodC env Try.prog 145 _) goodC_no fun h => ?_
  subst h
  exact fun_good (fun_sound envOK (cs_sound _ (by exact ⟨⟨f182.sound k, f182.fnok⟩, trivial⟩)) (f145.hok k) Try.func145 rfl) ((f145.ev k _ _ _ _).trans (f145.nat k _ _ _ _ _))
theorem f145.sound (k : Nat) : SoundC env Try.prog 145 (f145.e k).F := soundC_coer (f145.sound0 k) [[.rd 5, .no, .no], [.no]]
theorem f145.says (k : Nat) (xs1 : List Int) (a2 : Int) (a3 : Int) (a4 : Int) (t10 : Int × (List Int) × Int × Int) (h_ : f145 k xs1 a2 a3 a4 = some t10) : SoundAt env Try.prog 145 [.v (.ptr [.sl 5 xs1, .s (.int .i64 a2), .s (.int .i64 a3)]), .v (.c (.s (.int .i64 a4)))] ⟨.v (.c (.s (.int .i64 t10.1))), [[.sl 5 t10.2.1, .s (.int .i64 t10.2.2.1), .s (.int .i64 t10.2.2.2)], []]⟩ :=
  fun_sound envOK (cs_sound _ (by exact ⟨⟨f182.sound k, f182.fnok⟩, trivial⟩)) (f145.hok k) Try.func145 rfl _ _ (((f145.ev k xs1 a2 a3 a4).trans (f145.nat k _ xs1 a2 a3 a4)).trans (by rw [h_]; rfl))
theorem f145.fnok : FnOK Try.prog 145 := fn_ok Try.func145 (by kernel_rfl) rfl
def f164.l5.step {R : Type} (k : Nat) (rec_ : Int → (List Int) → Int → Int → (List Int) → Option R) (ret : ((List Int) × Int × Int × (List Int)) → Option R) (a6 : Int) (xs7 : List Int) (a8 : Int) (a9 : Int) (xs10 : List Int) : Option R :=
  if (decide (a6 > (0 : Int))) = true then
    (f145 k xs7 a8 a9 (16 : Int)).bind fun t11 => (f145 k t11.2.1 t11.2.2.1 t11.2.2.2 (256 : Int)).bind fun t12 => if (0 : Int) ≤ t11.1 then
          if t11.1 < ((List.length xs10 : Nat) : Int) then
            rec_ (IntKind.i64.wrap (a6 - (1 : Int))) t12.2.1 t12.2.2.1 t12.2.2.2 (List.set xs10 (Int.toNat t11.1) (IntKind.u8.wrap t12.1))
          else none
        else none
  else
    ret (xs7, a8, a9, xs10)
def f164.l5 (k : Nat) : Nat → Int → (List Int) → Int → Int → (List Int) → Option ((List Int) × Int × Int × (List Int))
  | 0, _, _, _, _, _ => none
  | j + 1, a6, xs7, a8, a9, xs10 => f164.l5.step k (fun a6 xs7 a8 a9 xs10 => f164.l5 k j a6 xs7 a8 a9 xs10) some a6 xs7 a8 a9 xs10
def f164.l5.w {R : Type} : ((List Int) × Int × Int × (List Int)) → (Exit → St env → Option R) → Option R := fun t14 K => K (.exit 0) ⟨fullT [0, 3] 0 28 [.v (.c (.bp 0 0)), .v (.c (.row 17))], [(0, .box [.imm 5 t14.1, .s (.int .i64 t14.2.1), .s (.int .i64 t14.2.2.1)]), (17, .row true 5 t14.2.2.2)], 449⟩
def f164.l5.st (a6 : Int) (xs7 : List Int) (a8 : Int) (a9 : Int) (xs10 : List Int) : St env := ⟨fullT [0, 3, 4] 0 28 [.v (.c (.bp 0 0)), .v (.c (.row 17)), .v (.c (.s (.int .i64 a6)))], [(0, .box [.imm 5 xs7, .s (.int .i64 a8), .s (.int .i64 a9)]), (17, .row true 5 xs10)], 241⟩
def f164.l5.hd (k : Nat) (ts_ : List (AV env)) (mm_ : Mem env) (n_ : Nat) : LCl env :=
  gTs LCl.no [0, 3, 4] 28 ts_ fun l_ => gV LCl.no l_ fun a_ l_ => rBp LCl.no 0 0 a_ <| gV LCl.no l_ fun a_ l_ => rRow LCl.no 17 a_ <| gV LCl.no l_ fun a_ l_ => rV LCl.no a_ fun v_ => vI LCl.no .i64 v_ fun a6 => gE LCl.no l_ <| mBox LCl.no 0 mm_ fun c_ m_ => gC LCl.no c_ fun a_ c_ => rImm LCl.no 5 a_ fun xs7 => gC LCl.no c_ fun a_ c_ => rV LCl.no a_ fun v_ => vI LCl.no .i64 v_ fun a8 => gC LCl.no c_ fun a_ c_ => rV LCl.no a_ fun v_ => vI LCl.no .i64 v_ fun a9 => gE LCl.no c_ <| mRow LCl.no 17 true 5 m_ fun xs10 m_ => gE LCl.no m_ <| gN LCl.no 241 n_ { α := (List Int) × Int × Int × (List Int), o := f164.l5 k k a6 xs7 a8 a9 xs10, w := f164.l5.w }
def f164.step {R : Type} (k : Nat) (ret : (ByteArray × (List Int) × Int × Int) → Option R) (xs1 : List Int) (a2 : Int) (a3 : Int) : Option R :=
  if (0 : Int) < ((List.length (List.replicate 16 (0 : Int)) : Nat) : Int) then
    (f145 k xs1 a2 a3 (2 : Int)).bind fun t4 => if (1 : Int) < ((List.length (List.set (List.replicate 16 (0 : Int)) 0 (32 : Int)) : Nat) : Int) then
        (f145 k t4.2.1 t4.2.2.1 t4.2.2.2 (4 : Int)).bind fun t5 => (f164.l5 k k t5.1 t5.2.1 t5.2.2.1 t5.2.2.2 (List.set (List.set (List.replicate 16 (0 : Int)) 0 (32 : Int)) 1 (IntKind.u8.wrap t4.1))).bind fun t13 => ret ((strOf t13.2.2.2), t13.1, t13.2.1, t13.2.2.1)
      else none
  else none
def f164 (k : Nat) (xs1 : List Int) (a2 : Int) (a3 : Int) : Option (ByteArray × (List Int) × Int × Int) := f164.step k some xs1 a2 a3
def f164.w {R : Type} : (ByteArray × (List Int) × Int × Int) → (Res env → Option R) → Option R := fun t15 K => K ⟨.v (.c (.s (.string t15.1))), [[.sl 5 t15.2.1, .s (.int .i64 t15.2.2.1), .s (.int .i64 t15.2.2.2)]]⟩
theorem f164.wn (x : (ByteArray × (List Int) × Int × Int)) : ∃ res, ∀ {R : Type} (K : Res env → Option R), f164.w x K = K res := by
  exact ⟨_, fun _ => rfl⟩
def f164.hd (k : Nat) (ps_ : List (P2 env)) : Cl env :=
  gC Cl.no ps_ fun p_ ps_ => qP Cl.no p_ fun cs_ => gC Cl.no cs_ fun c_ cs_ => qSl Cl.no 5 c_ fun xs1 => gC Cl.no cs_ fun c_ cs_ => qS Cl.no c_ fun v_ => vI Cl.no .i64 v_ fun a2 => gC Cl.no cs_ fun c_ cs_ => qS Cl.no c_ fun v_ => vI Cl.no .i64 v_ fun a3 => gE Cl.no cs_ <| gE Cl.no ps_ <| { α := ByteArray × (List Int) × Int × Int, o := f164 k xs1 a2 a3, w := f164.w, nat := fun x _ => f164.wn x }
def f164.e (k : Nat) : Entry env := ⟨fun ps => f164.hd k (coer [[.rd 5, .no, .no]] ps), [], []⟩
def f164.X (k : Nat) : Ctx env := { C := lookE [(145, f145.e k)], L := lookE [(5, fun S => f164.l5.hd k S.ts S.m S.n)], J := lookE [], keep := lookD [(5, [0, 3, 4])], keepX := lookD [(5, [0, 3])], span := lookN [(5, 208)], eff := fun n => memN n [], prep := lookP [], np := 0 }
theorem f164.l5.nat {R : Type} (k : Nat) (rec_ : Int → (List Int) → Int → Int → (List Int) → Option ((List Int) × Int × Int × (List Int))) (g : ((List Int) × Int × Int × (List Int)) → Option R) (a6 : Int) (xs7 : List Int) (a8 : Int) (a9 : Int) (xs10 : List Int) : (f164.l5.step k rec_ some a6 xs7 a8 a9 xs10).bind g = f164.l5.step k (fun a6 xs7 a8 a9 xs10 => (rec_ a6 xs7 a8 a9 xs10).bind g) g a6 xs7 a8 a9 xs10 := by
  simp only [f164.l5.step, bind_ite, bind_sum, Option.bind_assoc, Option.bind_some, Option.bind_none]
theorem f164.l5.good (k : Nat) (a6 : Int) (xs7 : List Int) (a8 : Int) (a9 : Int) (xs10 : List Int) : GoodL (f164.X k) (nthC 0 (loopsOf (bodyOf Try.f164))) (f164.l5.st a6 xs7 a8 a9 xs10) { α := ((List Int) × Int × Int × (List Int)), o := f164.l5 k k a6 xs7 a8 a9 xs10, w := f164.l5.w } :=
  loop_good (ι := Int × (List Int) × Int × Int × (List Int)) (α := ((List Int) × Int × Int × (List Int))) (fun i => f164.l5.st i.1 i.2.1 i.2.2.1 i.2.2.2.1 i.2.2.2.2) (fun j i => f164.l5 k j i.1 i.2.1 i.2.2.1 i.2.2.2.1 i.2.2.2.2) f164.l5.w (fun rec_ ret i => f164.l5.step k (fun a6 xs7 a8 a9 xs10 => rec_ (a6, xs7, a8, a9, xs10)) ret i.1 i.2.1 i.2.2.1 i.2.2.2.1 i.2.2.2.2)
    (fun _ => rfl) (fun _ _ => rfl) (fun rec_ g i => f164.l5.nat k _ g i.1 i.2.1 i.2.2.1 i.2.2.2.1 i.2.2.2.2) (fun {R} i0 i rec_ K => by kernel_rfl) k (a6, xs7, a8, a9, xs10)
theorem f164.l5.all (k : Nat) (S : St env) : GoodL (f164.X k) (nthC 0 (loopsOf (bodyOf Try.f164))) S (f164.l5.hd k S.ts S.m S.n) := by
  obtain ⟨ts_, m_, n_⟩ := S
  show GoodL _ _ _ (f164.l5.hd k ts_ m_ n_)
  unfold f164.l5.hd
  refine gTs_ok (p := GoodL _ _ _) goodL_no fun _ h => ?_
  subst h
  refine gV_ok (p := GoodL _ _ _) goodL_no fun _ _ h => ?_
  subst h
  refine rBp_ok (p := GoodL _ _ _) goodL_no fun h => ?_
  subst h
  refine gV_ok (p := GoodL _ _ _) goodL_no fun _ _ h => ?_
  subst h
  refine rRow_ok (p := GoodL _ _ _) goodL_no fun h => ?_
  subst h
  refine gV_ok (p := GoodL _ _ _) goodL_no fun _ _ h => ?_
  subst h
  refine rV_ok (p := GoodL _ _ _) goodL_no fun _ h => ?_
  subst h
  refine vI_ok (p := GoodL _ _ _) goodL_no fun _ h => ?_
  subst h
  refine gE_ok (p := GoodL _ _ _) goodL_no fun h => ?_
  subst h
  refine mBox_ok (p := GoodL _ _ _) goodL_no fun _ _ h => ?_
  subst h
  refine gC_ok (p := GoodL _ _ _) goodL_no fun _ _ h => ?_
  subst h
  refine rImm_ok (p := GoodL _ _ _) goodL_no fun _ h => ?_
  subst h
  refine gC_ok (p := GoodL _ _ _) goodL_no fun _ _ h => ?_
  subst h
  refine rV_ok (p := GoodL _ _ _) goodL_no fun _ h => ?_
  subst h
  refine vI_ok (p := GoodL _ _ _) goodL_no fun _ h => ?_
  subst h
  refine gC_ok (p := GoodL _ _ _) goodL_no fun _ _ h => ?_
  subst h
  refine rV_ok (p := GoodL _ _ _) goodL_no fun _ h => ?_
  subst h
  refine vI_ok (p := GoodL _ _ _) goodL_no fun _ h => ?_
  subst h
  refine gE_ok (p := GoodL _ _ _) goodL_no fun h => ?_
  subst h
  refine mRow_ok (p := GoodL _ _ _) goodL_no fun _ _ h => ?_
  subst h
  refine gE_ok (p := GoodL _ _ _) goodL_no fun h => ?_
  subst h
  refine gN_ok (p := GoodL _ _ _) goodL_no fun h => ?_
  subst h
  exact f164.l5.good k _ _ _ _ _
theorem f164.nat {R : Type} (k : Nat) (g : (ByteArray × (List Int) × Int × Int) → Option R) (xs1 : List Int) (a2 : Int) (a3 : Int) : f164.step k g xs1 a2 a3 = (f164 k xs1 a2 a3).bind g := by
  simp only [f164, f164.step, bind_ite, bind_sum, Option.bind_assoc, Option.bind_some, Option.bind_none]
theorem f164.ev (k : Nat) (xs1 : List Int) (a2 : Int) (a3 : Int) : evF (f164.X k) (bodyOf Try.f164) Try.f164.ntmps Try.f164.results.toList [.v (.ptr [.sl 5 xs1, .s (.int .i64 a2), .s (.int .i64 a3)])] = f164.step k (fun x => f164.w x some) xs1 a2 a3 := by kernel_rfl
theorem f164.hok (k : Nat) : HOK (f164.X k) (bodyOf Try.f164) where
  l := allP_mem (by exact ⟨ls_of (h0 := fun S => f164.l5.hd k S.ts S.m S.n) (by kernel_rfl) (f164.l5.all k), trivial⟩)
  j := allP_mem (by exact trivial)
theorem f164.sound0 (k : Nat) : SoundC env Try.prog 164 (f164.hd k) := by
  intro ps_
  show GoodC _ _ _ ps_ (f164.hd k ps_)
  unfold f164.hd
  refine gC_ok (p := GoodC env Try.prog 164 _) goodC_no fun _ _ h => ?_
  subst h
  refine qP_ok (p := GoodC env Try.prog 164 _) goodC_no fun _ h => ?_
  subst h
  refine gC_ok (p := GoodC env Try.prog 164 _) goodC_no fun _ _ h => ?_
  subst h
  refine qSl_ok (p := GoodC env Try.prog 164 _) goodC_no fun _ h => ?_
  subst h
  refine gC_ok (p := GoodC env Try.prog 164 _) goodC_no fun _ _ h => ?_
  subst h
  refine qS_ok (p := GoodC env Try.prog 164 _) goodC_no fun _ h => ?_
  subst h
  refine vI_ok (p := GoodC env Try.prog 164 _) goodC_no fun _ h => ?_
  subst h
  refine gC_ok (p := GoodC env Try.prog 164 _) goodC_no fun _ _ h => ?_
  subst h
  refine qS_ok (p := GoodC env Try.prog 164 _) goodC_no fun _ h => ?_
  subst h
  refine vI_ok (p := GoodC env Try.prog 164 _) goodC_no fun _ h => ?_
  subst h
  refine gE_ok (p := GoodC env Try.prog 164 _) goodC_no fun h => ?_
  subst h
  refine gE_ok (p := GoodC env Try.prog 164 _) goodC_no fun h => ?_
  subst h
  exact fun_good (fun_sound envOK (cs_sound _ (by exact ⟨⟨f145.sound k, f145.fnok⟩, trivial⟩)) (f164.hok k) Try.func164 rfl) ((f164.ev k _ _ _).trans (f164.nat k _ _ _ _))
theorem f164.sound (k : Nat) : SoundC env Try.prog 164 (f164.e k).F := soundC_coer (f164.sound0 k) [[.rd 5, .no, .no]]
theorem f164.says (k : Nat) (xs1 : List Int) (a2 : Int) (a3 : Int) (t16 : ByteArray × (List Int) × Int × Int) (h_ : f164 k xs1 a2 a3 = some t16) : SoundAt env Try.prog 164 [.v (.ptr [.sl 5 xs1, .s (.int .i64 a2), .s (.int .i64 a3)])] ⟨.v (.c (.s (.string t16.1))), [[.sl 5 t16.2.1, .s (.int .i64 t16.2.2.1), .s (.int .i64 t16.2.2.2)]]⟩ :=
  fun_sound envOK (cs_sound _ (by exact ⟨⟨f145.sound k, f145.fnok⟩, trivial⟩)) (f164.hok k) Try.func164 rfl _ _ (((f164.ev k xs1 a2 a3).trans (f164.nat k _ xs1 a2 a3)).trans (by rw [h_]; rfl))
theorem f164.fnok : FnOK Try.prog 164 := fn_ok Try.func164 (by kernel_rfl) rfl
def f165.l3.step {R : Type} (k : Nat) (rec_ : Int → (List Int) → Int → Int → (List Int) → Option R) (ret : ((List Int) × Int × Int × (List Int)) → Option R) (a6 : Int) (xs7 : List Int) (a8 : Int) (a9 : Int) (xs10 : List Int) : Option R :=
  if (decide (a6 > (0 : Int))) = true then
    (f145 k xs7 a8 a9 (256 : Int)).bind fun t11 => if (List.length xs10 + List.length ([(IntKind.u8.wrap t11.1)] : List Int)) * 1 ≤ maxN then
        rec_ (IntKind.i64.wrap (a6 - (1 : Int))) t11.2.1 t11.2.2.1 t11.2.2.2 (xs10 ++ ([(IntKind.u8.wrap t11.1)] : List Int))
      else none
  else
    ret (xs7, a8, a9, xs10)
def f165.l3 (k : Nat) : Nat → Int → (List Int) → Int → Int → (List Int) → Option ((List Int) × Int × Int × (List Int))
  | 0, _, _, _, _, _ => none
  | j + 1, a6, xs7, a8, a9, xs10 => f165.l3.step k (fun a6 xs7 a8 a9 xs10 => f165.l3 k j a6 xs7 a8 a9 xs10) some a6 xs7 a8 a9 xs10
def f165.l3.w {R : Type} : ((List Int) × Int × Int × (List Int)) → (Exit → St env → Option R) → Option R := fun t13 K => K (.exit 0) ⟨fullT [0, 5] 0 23 [.v (.c (.bp 0 0)), .v (.c (.row 18))], [(0, .box [.imm 5 t13.1, .s (.int .i64 t13.2.1), .s (.int .i64 t13.2.2.1)]), (18, .row true 5 t13.2.2.2)], 322⟩
def f165.l3.st (a6 : Int) (xs7 : List Int) (a8 : Int) (a9 : Int) (xs10 : List Int) : St env := ⟨fullT [0, 5, 6] 0 23 [.v (.c (.bp 0 0)), .v (.c (.row 18)), .v (.c (.s (.int .i64 a6)))], [(0, .box [.imm 5 xs7, .s (.int .i64 a8), .s (.int .i64 a9)]), (18, .row true 5 xs10)], 130⟩
def f165.l3.hd (k : Nat) (ts_ : List (AV env)) (mm_ : Mem env) (n_ : Nat) : LCl env :=
  gTs LCl.no [0, 5, 6] 23 ts_ fun l_ => gV LCl.no l_ fun a_ l_ => rBp LCl.no 0 0 a_ <| gV LCl.no l_ fun a_ l_ => rRow LCl.no 18 a_ <| gV LCl.no l_ fun a_ l_ => rV LCl.no a_ fun v_ => vI LCl.no .i64 v_ fun a6 => gE LCl.no l_ <| mBox LCl.no 0 mm_ fun c_ m_ => gC LCl.no c_ fun a_ c_ => rImm LCl.no 5 a_ fun xs7 => gC LCl.no c_ fun a_ c_ => rV LCl.no a_ fun v_ => vI LCl.no .i64 v_ fun a8 => gC LCl.no c_ fun a_ c_ => rV LCl.no a_ fun v_ => vI LCl.no .i64 v_ fun a9 => gE LCl.no c_ <| mRow LCl.no 18 true 5 m_ fun xs10 m_ => gE LCl.no m_ <| gN LCl.no 130 n_ { α := (List Int) × Int × Int × (List Int), o := f165.l3 k k a6 xs7 a8 a9 xs10, w := f165.l3.w }
def f165.step {R : Type} (k : Nat) (ret : ((List Int) × (List Int) × Int × Int) → Option R) (xs1 : List Int) (a2 : Int) (a3 : Int) (a4 : Int) : Option R :=
  (f145 k xs1 a2 a3 (IntKind.i64.wrap (a4 + (1 : Int)))).bind fun t5 => (f165.l3 k k t5.1 t5.2.1 t5.2.2.1 t5.2.2.2 ([] : List Int)).bind fun t12 => ret (t12.2.2.2, t12.1, t12.2.1, t12.2.2.1)
def f165 (k : Nat) (xs1 : List Int) (a2 : Int) (a3 : Int) (a4 : Int) : Option ((List Int) × (List Int) × Int × Int) := f165.step k some xs1 a2 a3 a4
def f165.w {R : Type} : ((List Int) × (List Int) × Int × Int) → (Res env → Option R) → Option R := fun t14 K => K ⟨.v (.c (.own true 5 t14.1)), [[.sl 5 t14.2.1, .s (.int .i64 t14.2.2.1), .s (.int .i64 t14.2.2.2)], []]⟩
theorem f165.wn (x : ((List Int) × (List Int) × Int × Int)) : ∃ res, ∀ {R : Type} (K : Res env → Option R), f165.w x K = K res := by
  exact ⟨_, fun _ => rfl⟩
def f165.hd (k : Nat) (ps_ : List (P2 env)) : Cl env :=
  gC Cl.no ps_ fun p_ ps_ => qP Cl.no p_ fun cs_ => gC Cl.no cs_ fun c_ cs_ => qSl Cl.no 5 c_ fun xs1 => gC Cl.no cs_ fun c_ cs_ => qS Cl.no c_ fun v_ => vI Cl.no .i64 v_ fun a2 => gC Cl.no cs_ fun c_ cs_ => qS Cl.no c_ fun v_ => vI Cl.no .i64 v_ fun a3 => gE Cl.no cs_ <| gC Cl.no ps_ fun p_ ps_ => qC Cl.no p_ fun c_ => qS Cl.no c_ fun v_ => vI Cl.no .i64 v_ fun a4 => gE Cl.no ps_ <| { α := (List Int) × (List Int) × Int × Int, o := f165 k xs1 a2 a3 a4, w := f165.w, nat := fun x _ => f165.wn x }
def f165.e (k : Nat) : Entry env := ⟨fun ps => f165.hd k (coer [[.rd 5, .no, .no], [.no]] ps), [], []⟩
def f165.X (k : Nat) : Ctx env := { C := lookE [(145, f145.e k)], L := lookE [(3, fun S => f165.l3.hd k S.ts S.m S.n)], J := lookE [], keep := lookD [(3, [0, 5, 6])], keepX := lookD [(3, [0, 5])], span := lookN [(3, 192)], eff := fun n => memN n [], prep := lookP [], np := 0 }
theorem f165.l3.nat {R : Type} (k : Nat) (rec_ : Int → (List Int) → Int → Int → (List Int) → Option ((List Int) × Int × Int × (List Int))) (g : ((List Int) × Int × Int × (List Int)) → Option R) (a6 : Int) (xs7 : List Int) (a8 : Int) (a9 : Int) (xs10 : List Int) : (f165.l3.step k rec_ some a6 xs7 a8 a9 xs10).bind g = f165.l3.step k (fun a6 xs7 a8 a9 xs10 => (rec_ a6 xs7 a8 a9 xs10).bind g) g a6 xs7 a8 a9 xs10 := by
  simp only [f165.l3.step, bind_ite, bind_sum, Option.bind_assoc, Option.bind_some, Option.bind_none]
theorem f165.l3.good (k : Nat) (a6 : Int) (xs7 : List Int) (a8 : Int) (a9 : Int) (xs10 : List Int) : GoodL (f165.X k) (nthC 0 (loopsOf (bodyOf Try.f165))) (f165.l3.st a6 xs7 a8 a9 xs10) { α := ((List Int) × Int × Int × (List Int)), o := f165.l3 k k a6 xs7 a8 a9 xs10, w := f165.l3.w } :=
  loop_good (ι := Int × (List Int) × Int × Int × (List Int)) (α := ((List Int) × Int × Int × (List Int))) (fun i => f165.l3.st i.1 i.2.1 i.2.2.1 i.2.2.2.1 i.2.2.2.2) (fun j i => f165.l3 k j i.1 i.2.1 i.2.2.1 i.2.2.2.1 i.2.2.2.2) f165.l3.w (fun rec_ ret i => f165.l3.step k (fun a6 xs7 a8 a9 xs10 => rec_ (a6, xs7, a8, a9, xs10)) ret i.1 i.2.1 i.2.2.1 i.2.2.2.1 i.2.2.2.2)
    (fun _ => rfl) (fun _ _ => rfl) (fun rec_ g i => f165.l3.nat k _ g i.1 i.2.1 i.2.2.1 i.2.2.2.1 i.2.2.2.2) (fun {R} i0 i rec_ K => by kernel_rfl) k (a6, xs7, a8, a9, xs10)
theorem f165.l3.all (k : Nat) (S : St env) : GoodL (f165.X k) (nthC 0 (loopsOf (bodyOf Try.f165))) S (f165.l3.hd k S.ts S.m S.n) := by
  obtain ⟨ts_, m_, n_⟩ := S
  show GoodL _ _ _ (f165.l3.hd k ts_ m_ n_)
  unfold f165.l3.hd
  refine gTs_ok (p := GoodL _ _ _) goodL_no fun _ h => ?_
  subst h
  refine gV_ok (p := GoodL _ _ _) goodL_no fun _ _ h => ?_
  subst h
  refine rBp_ok (p := GoodL _ _ _) goodL_no fun h => ?_
  subst h
  refine gV_ok (p := GoodL _ _ _) goodL_no fun _ _ h => ?_
  subst h
  refine rRow_ok (p := GoodL _ _ _) goodL_no fun h => ?_
  subst h
  refine gV_ok (p := GoodL _ _ _) goodL_no fun _ _ h => ?_
  subst h
  refine rV_ok (p := GoodL _ _ _) goodL_no fun _ h => ?_
  subst h
  refine vI_ok (p := GoodL _ _ _) goodL_no fun _ h => ?_
  subst h
  refine gE_ok (p := GoodL _ _ _) goodL_no fun h => ?_
  subst h
  refine mBox_ok (p := GoodL _ _ _) goodL_no fun _ _ h => ?_
  subst h
  refine gC_ok (p := GoodL _ _ _) goodL_no fun _ _ h => ?_
  subst h
  refine rImm_ok (p := GoodL _ _ _) goodL_no fun _ h => ?_
  subst h
  refine gC_ok (p := GoodL _ _ _) goodL_no fun _ _ h => ?_
  subst h
  refine rV_ok (p := GoodL _ _ _) goodL_no fun _ h => ?_
  subst h
  refine vI_ok (p := GoodL _ _ _) goodL_no fun _ h => ?_
  subst h
  refine gC_ok (p := GoodL _ _ _) goodL_no fun _ _ h => ?_
  subst h
  refine rV_ok (p := GoodL _ _ _) goodL_no fun _ h => ?_
  subst h
  refine vI_ok (p := GoodL _ _ _) goodL_no fun _ h => ?_
  subst h
  refine gE_ok (p := GoodL _ _ _) goodL_no fun h => ?_
  subst h
  refine mRow_ok (p := GoodL _ _ _) goodL_no fun _ _ h => ?_
  subst h
  refine gE_ok (p := GoodL _ _ _) goodL_no fun h => ?_
  subst h
  refine gN_ok (p := GoodL _ _ _) goodL_no fun h => ?_
  subst h
  exact f165.l3.good k _ _ _ _ _
theorem f165.nat {R : Type} (k : Nat) (g : ((List Int) × (List Int) × Int × Int) → Option R) (xs1 : List Int) (a2 : Int) (a3 : Int) (a4 : Int) : f165.step k g xs1 a2 a3 a4 = (f165 k xs1 a2 a3 a4).bind g := by
  simp only [f165, f165.step, bind_ite, bind_sum, Option.bind_assoc, Option.bind_some, Option.bind_none]
theorem f165.ev (k : Nat) (xs1 : List Int) (a2 : Int) (a3 : Int) (a4 : Int) : evF (f165.X k) (bodyOf Try.f165) Try.f165.ntmps Try.f165.results.toList [.v (.ptr [.sl 5 xs1, .s (.int .i64 a2), .s (.int .i64 a3)]), .v (.c (.s (.int .i64 a4)))] = f165.step k (fun x => f165.w x some) xs1 a2 a3 a4 := by kernel_rfl
theorem f165.hok (k : Nat) : HOK (f165.X k) (bodyOf Try.f165) where
  l := allP_mem (by exact ⟨ls_of (h0 := fun S => f165.l3.hd k S.ts S.m S.n) (by kernel_rfl) (f165.l3.all k), trivial⟩)
  j := allP_mem (by exact trivial)
theorem f165.sound0 (k : Nat) : SoundC env Try.prog 165 (f165.hd k) := by
  intro ps_
  show GoodC _ _ _ ps_ (f165.hd k ps_)
  unfold f165.hd
  refine gC_ok (p := GoodC env Try.prog 165 _) goodC_no fun _ _ h => ?_
  subst h
  refine qP_ok (p := GoodC env Try.prog 165 _) goodC_no fun _ h => ?_
  subst h
  refine gC_ok (p := GoodC env Try.prog 165 _) goodC_no fun _ _ h => ?_
  subst h
  refine qSl_ok (p := GoodC env Try.prog 165 _) goodC_no fun _ h => ?_
  subst h
  refine gC_ok (p := GoodC env Try.prog 165 _) goodC_no fun _ _ h => ?_
  subst h
  refine qS_ok (p := GoodC env Try.prog 165 _) goodC_no fun _ h => ?_
  subst h
  refine vI_ok (p := GoodC env Try.prog 165 _) goodC_no fun _ h => ?_
  subst h
  refine gC_ok (p := GoodC env Try.prog 165 _) goodC_no fun _ _ h => ?_
  subst h
  refine qS_ok (p := GoodC env Try.prog 165 _) goodC_no fun _ h => ?_
  subst h
  refine vI_ok (p := GoodC env Try.prog 165 _) goodC_no fun _ h => ?_
  subst h
  refine gE_ok (p := GoodC env Try.prog 165 _) goodC_no fun h => ?_
  subst h
  refine gC_ok (p := GoodC env Try.prog 165 _) goodC_no fun _ _ h => ?_
  subst h
  refine qC_ok (p := GoodC env Try.prog 165 _) goodC_no fun _ h => ?_
  subst h
  refine qS_ok (p := GoodC env Try.prog 165 _) goodC_no fun _ h => ?_
  subst h
  refine vI_ok (p := GoodC env Try.prog 165 _) goodC_no fun _ h => ?_
  subst h
  refine gE_ok (p := GoodC env Try.prog 165 _) goodC_no fun h => ?_
  subst h
  exact fun_good (fun_sound envOK (cs_sound _ (by exact ⟨⟨f145.sound k, f145.fnok⟩, trivial⟩)) (f165.hok k) Try.func165 rfl) ((f165.ev k _ _ _ _).trans (f165.nat k _ _ _ _ _))
theorem f165.sound (k : Nat) : SoundC env Try.prog 165 (f165.e k).F := soundC_coer (f165.sound0 k) [[.rd 5, .no, .no], [.no]]
theorem f165.says (k : Nat) (xs1 : List Int) (a2 : Int) (a3 : Int) (a4 : Int) (t15 : (List Int) × (List Int) × Int × Int) (h_ : f165 k xs1 a2 a3 a4 = some t15) : SoundAt env Try.prog 165 [.v (.ptr [.sl 5 xs1, .s (.int .i64 a2), .s (.int .i64 a3)]), .v (.c (.s (.int .i64 a4)))] ⟨.v (.c (.own true 5 t15.1)), [[.sl 5 t15.2.1, .s (.int .i64 t15.2.2.1), .s (.int .i64 t15.2.2.2)], []]⟩ :=
  fun_sound envOK (cs_sound _ (by exact ⟨⟨f145.sound k, f145.fnok⟩, trivial⟩)) (f165.hok k) Try.func165 rfl _ _ (((f165.ev k xs1 a2 a3 a4).trans (f165.nat k _ xs1 a2 a3 a4)).trans (by rw [h_]; rfl))
theorem f165.fnok : FnOK Try.prog 165 := fn_ok Try.func165 (by kernel_rfl) rfl
def f166.step {R : Type} (k : Nat) (ret : (Bool × (List Int) × Int × Int) → Option R) (xs1 : List Int) (a2 : Int) (a3 : Int) (a4 : Int) : Option R :=
  (f145 k xs1 a2 a3 a4).bind fun t5 => ret ((decide (t5.1 = (IntKind.i64.wrap (a4 - (1 : Int))))), t5.2.1, t5.2.2.1, t5.2.2.2)
def f166 (k : Nat) (xs1 : List Int) (a2 : Int) (a3 : Int) (a4 : Int) : Option (Bool × (List Int) × Int × Int) := f166.step k some xs1 a2 a3 a4
def f166.w {R : Type} : (Bool × (List Int) × Int × Int) → (Res env → Option R) → Option R := fun t6 K => K ⟨.v (.c (.s (.bool t6.1))), [[.sl 5 t6.2.1, .s (.int .i64 t6.2.2.1), .s (.int .i64 t6.2.2.2)], []]⟩
theorem f166.wn (x : (Bool × (List Int) × Int × Int)) : ∃ res, ∀ {R : Type} (K : Res env → Option R), f166.w x K = K res := by
  exact ⟨_, fun _ => rfl⟩
def f166.hd (k : Nat) (ps_ : List (P2 env)) : Cl env :=
  gC Cl.no ps_ fun p_ ps_ => qP Cl.no p_ fun cs_ => gC Cl.no cs_ fun c_ cs_ => qSl Cl.no 5 c_ fun xs1 => gC Cl.no cs_ fun c_ cs_ => qS Cl.no c_ fun v_ => vI Cl.no .i64 v_ fun a2 => gC Cl.no cs_ fun c_ cs_ => qS Cl.no c_ fun v_ => vI Cl.no .i64 v_ fun a3 => gE Cl.no cs_ <| gC Cl.no ps_ fun p_ ps_ => qC Cl.no p_ fun c_ => qS Cl.no c_ fun v_ => vI Cl.no .i64 v_ fun a4 => gE Cl.no ps_ <| { α := Bool × (List Int) × Int × Int, o := f166 k xs1 a2 a3 a4, w := f166.w, nat := fun x _ => f166.wn x }
def f166.e (k : Nat) : Entry env := ⟨fun ps => f166.hd k (coer [[.rd 5, .no, .no], [.no]] ps), [], []⟩
def f166.X (k : Nat) : Ctx env := { C := lookE [(145, f145.e k)], L := lookE [], J := lookE [], keep := lookD [], keepX := lookD [], span := lookN [], eff := fun n => memN n [], prep := lookP [], np := 0 }
theorem f166.nat {R : Type} (k : Nat) (g : (Bool × (List Int) × Int × Int) → Option R) (xs1 : List Int) (a2 : Int) (a3 : Int) (a4 : Int) : f166.step k g xs1 a2 a3 a4 = (f166 k xs1 a2 a3 a4).bind g := by
  simp only [f166, f166.step, bind_ite, bind_sum, Option.bind_assoc, Option.bind_some, Option.bind_none]
theorem f166.ev (k : Nat) (xs1 : List Int) (a2 : Int) (a3 : Int) (a4 : Int) : evF (f166.X k) (bodyOf Try.f166) Try.f166.ntmps Try.f166.results.toList [.v (.ptr [.sl 5 xs1, .s (.int .i64 a2), .s (.int .i64 a3)]), .v (.c (.s (.int .i64 a4)))] = f166.step k (fun x => f166.w x some) xs1 a2 a3 a4 := by kernel_rfl
theorem f166.hok (k : Nat) : HOK (f166.X k) (bodyOf Try.f166) where
  l := allP_mem (by exact trivial)
  j := allP_mem (by exact trivial)
theorem f166.sound0 (k : Nat) : SoundC env Try.prog 166 (f166.hd k) := by
  intro ps_
  show GoodC _ _ _ ps_ (f166.hd k ps_)
  unfold f166.hd
  refine gC_ok (p := GoodC env Try.prog 166 _) goodC_no fun _ _ h => ?_
  subst h
  refine qP_ok (p := GoodC env Try.prog 166 _) goodC_no fun _ h => ?_
  subst h
  refine gC_ok (p := GoodC env Try.prog 166 _) goodC_no fun _ _ h => ?_
  subst h
  refine qSl_ok (p := GoodC env Try.prog 166 _) goodC_no fun _ h => ?_
  subst h
  refine gC_ok (p := GoodC env Try.prog 166 _) goodC_no fun _ _ h => ?_
  subst h
  refine qS_ok (p := GoodC env Try.prog 166 _) goodC_no fun _ h => ?_
  subst h
  refine vI_ok (p := GoodC env Try.prog 166 _) goodC_no fun _ h => ?_
  subst h
  refine gC_ok (p := GoodC env Try.prog 166 _) goodC_no fun _ _ h => ?_
  subst h
  refine qS_ok (p := GoodC env Try.prog 166 _) goodC_no fun _ h => ?_
  subst h
  refine vI_ok (p := GoodC env Try.prog 166 _) goodC_no fun _ h => ?_
  subst h
  refine gE_ok (p := GoodC env Try.prog 166 _) goodC_no fun h => ?_
  subst h
  refine gC_ok (p := GoodC env Try.prog 166 _) goodC_no fun _ _ h => ?_
  subst h
  refine qC_ok (p := GoodC env Try.prog 166 _) goodC_no fun _ h => ?_
  subst h
  refine qS_ok (p := GoodC env Try.prog 166 _) goodC_no fun _ h => ?_
  subst h
  refine vI_ok (p := GoodC env Try.prog 166 _) goodC_no fun _ h => ?_
  subst h
  refine gE_ok (p := GoodC env Try.prog 166 _) goodC_no fun h => ?_
  subst h
  exact fun_good (fun_sound envOK (cs_sound _ (by exact ⟨⟨f145.sound k, f145.fnok⟩, trivial⟩)) (f166.hok k) Try.func166 rfl) ((f166.ev k _ _ _ _).trans (f166.nat k _ _ _ _ _))
theorem f166.sound (k : Nat) : SoundC env Try.prog 166 (f166.e k).F := soundC_coer (f166.sound0 k) [[.rd 5, .no, .no], [.no]]
theorem f166.says (k : Nat) (xs1 : List Int) (a2 : Int) (a3 : Int) (a4 : Int) (t7 : Bool × (List Int) × Int × Int) (h_ : f166 k xs1 a2 a3 a4 = some t7) : SoundAt env Try.prog 166 [.v (.ptr [.sl 5 xs1, .s (.int .i64 a2), .s (.int .i64 a3)]), .v (.c (.s (.int .i64 a4)))] ⟨.v (.c (.s (.bool t7.1))), [[.sl 5 t7.2.1, .s (.int .i64 t7.2.2.1), .s (.int .i64 t7.2.2.2)], []]⟩ :=
  fun_sound envOK (cs_sound _ (by exact ⟨⟨f145.sound k, f145.fnok⟩, trivial⟩)) (f166.hok k) Try.func166 rfl _ _ (((f166.ev k xs1 a2 a3 a4).trans (f166.nat k _ xs1 a2 a3 a4)).trans (by rw [h_]; rfl))
theorem f166.fnok : FnOK Try.prog 166 := fn_ok Try.func166 (by kernel_rfl) rfl
def f167.step {R : Type} (k : Nat) (ret : (ByteArray × (List Int) × Int × Int) → Option R) (xs1 : List Int) (a2 : Int) (a3 : Int) : Option R :=
  (f145 k xs1 a2 a3 (3 : Int)).bind fun t4 => (f145 k t4.2.1 t4.2.2.1 t4.2.2.2 (2 : Int)).bind fun t5 => (f145 k t5.2.1 t5.2.2.1 t5.2.2.2 (4 : Int)).bind fun t6 => ret ((strOf ([(10 : Int), (IntKind.u8.wrap t4.1), (IntKind.u8.wrap (IntKind.i64.wrap (t5.1 * (128 : Int)))), (IntKind.u8.wrap t6.1)] : List Int)), t6.2.1, t6.2.2.1, t6.2.2.2)
def f167 (k : Nat) (xs1 : List Int) (a2 : Int) (a3 : Int) : Option (ByteArray × (List Int) × Int × Int) := f167.step k some xs1 a2 a3
def f167.w {R : Type} : (ByteArray × (List Int) × Int × Int) → (Res env → Option R) → Option R := fun t7 K => K ⟨.v (.c (.s (.string t7.1))), [[.sl 5 t7.2.1, .s (.int .i64 t7.2.2.1), .s (.int .i64 t7.2.2.2)]]⟩
theorem f167.wn (x : (ByteArray × (List Int) × Int × Int)) : ∃ res, ∀ {R : Type} (K : Res env → Option R), f167.w x K = K res := by
  exact ⟨_, fun _ => rfl⟩
def f167.hd (k : Nat) (ps_ : List (P2 env)) : Cl env :=
  gC Cl.no ps_ fun p_ ps_ => qP Cl.no p_ fun cs_ => gC Cl.no cs_ fun c_ cs_ => qSl Cl.no 5 c_ fun xs1 => gC Cl.no cs_ fun c_ cs_ => qS Cl.no c_ fun v_ => vI Cl.no .i64 v_ fun a2 => gC Cl.no cs_ fun c_ cs_ => qS Cl.no c_ fun v_ => vI Cl.no .i64 v_ fun a3 => gE Cl.no cs_ <| gE Cl.no ps_ <| { α := ByteArray × (List Int) × Int × Int, o := f167 k xs1 a2 a3, w := f167.w, nat := fun x _ => f167.wn x }
def f167.e (k : Nat) : Entry env := ⟨fun ps => f167.hd k (coer [[.rd 5, .no, .no]] ps), [], []⟩
def f167.X (k : Nat) : Ctx env := { C := lookE [(145, f145.e k)], L := lookE [], J := lookE [], keep := lookD [], keepX := lookD [], span := lookN [], eff := fun n => memN n [], prep := lookP [], np := 0 }
theorem f167.nat {R : Type} (k : Nat) (g : (ByteArray × (List Int) × Int × Int) → Option R) (xs1 : List Int) (a2 : Int) (a3 : Int) : f167.step k g xs1 a2 a3 = (f167 k xs1 a2 a3).bind g := by
  simp only [f167, f167.step, bind_ite, bind_sum, Option.bind_assoc, Option.bind_some, Option.bind_none]
theorem f167.ev (k : Nat) (xs1 : List Int) (a2 : Int) (a3 : Int) : evF (f167.X k) (bodyOf Try.f167) Try.f167.ntmps Try.f167.results.toList [.v (.ptr [.sl 5 xs1, .s (.int .i64 a2), .s (.int .i64 a3)])] = f167.step k (fun x => f167.w x some) xs1 a2 a3 := by kernel_rfl
theorem f167.hok (k : Nat) : HOK (f167.X k) (bodyOf Try.f167) where
  l := allP_mem (by exact trivial)
  j := allP_mem (by exact trivial)
theorem f167.sound0 (k : Nat) : SoundC env Try.prog 167 (f167.hd k) := by
  intro ps_
  show GoodC _ _ _ ps_ (f167.hd k ps_)
  unfold f167.hd
  refine gC_ok (p := GoodC env Try.prog 167 _) goodC_no fun _ _ h => ?_
  subst h
  refine qP_ok (p := GoodC env Try.prog 167 _) goodC_no fun _ h => ?_
  subst h
  refine gC_ok (p := GoodC env Try.prog 167 _) goodC_no fun _ _ h => ?_
  subst h
  refine qSl_ok (p := GoodC env Try.prog 167 _) goodC_no fun _ h => ?_
  subst h
  refine gC_ok (p := GoodC env Try.prog 167 _) goodC_no fun _ _ h => ?_
  subst h
  refine qS_ok (p := GoodC env Try.prog 167 _) goodC_no fun _ h => ?_
  subst h
  refine vI_ok (p := GoodC env Try.prog 167 _) goodC_no fun _ h => ?_
  subst h
  refine gC_ok (p := GoodC env Try.prog 167 _) goodC_no fun _ _ h => ?_
  subst h
  refine qS_ok (p := GoodC env Try.prog 167 _) goodC_no fun _ h => ?_
  subst h
  refine vI_ok (p := GoodC env Try.prog 167 _) goodC_no fun _ h => ?_
  subst h
  refine gE_ok (p := GoodC env Try.prog 167 _) goodC_no fun h => ?_
  subst h
  refine gE_ok (p := GoodC env Try.prog 167 _) goodC_no fun h => ?_
  subst h
  exact fun_good (fun_sound envOK (cs_sound _ (by exact ⟨⟨f145.sound k, f145.fnok⟩, trivial⟩)) (f167.hok k) Try.func167 rfl) ((f167.ev k _ _ _).trans (f167.nat k _ _ _ _))
theorem f167.sound (k : Nat) : SoundC env Try.prog 167 (f167.e k).F := soundC_coer (f167.sound0 k) [[.rd 5, .no, .no]]
theorem f167.says (k : Nat) (xs1 : List Int) (a2 : Int) (a3 : Int) (t8 : ByteArray × (List Int) × Int × Int) (h_ : f167 k xs1 a2 a3 = some t8) : SoundAt env Try.prog 167 [.v (.ptr [.sl 5 xs1, .s (.int .i64 a2), .s (.int .i64 a3)])] ⟨.v (.c (.s (.string t8.1))), [[.sl 5 t8.2.1, .s (.int .i64 t8.2.2.1), .s (.int .i64 t8.2.2.2)]]⟩ :=
  fun_sound envOK (cs_sound _ (by exact ⟨⟨f145.sound k, f145.fnok⟩, trivial⟩)) (f167.hok k) Try.func167 rfl _ _ (((f167.ev k xs1 a2 a3).trans (f167.nat k _ xs1 a2 a3)).trans (by rw [h_]; rfl))
theorem f167.fnok : FnOK Try.prog 167 := fn_ok Try.func167 (by kernel_rfl) rfl
def f123.step {R : Type} (k : Nat) (ret : (Int × ByteArray × ByteArray × Int × Int × Int × Int × Bool × Bool × (List Int) × (List Int) × Int × Int) → Option R) (xs1 : List Int) (a2 : Int) (a3 : Int) : Option R :=
  (f164 k xs1 a2 a3).bind fun t4 => (f164 k t4.2.1 t4.2.2.1 t4.2.2.2).bind fun t5 => (f145 k t5.2.1 t5.2.2.1 t5.2.2.2 (4 : Int)).bind fun t6 => if (0 : Int) ≤ t6.1 then
          if t6.1 < ((List.length ([(64 : Int), (1 : Int), (0 : Int), (255 : Int)] : List Int) : Nat) : Int) then
            (f145 k t6.2.1 t6.2.2.1 t6.2.2.2 (256 : Int)).bind fun t7 => (f165 k t7.2.1 t7.2.2.1 t7.2.2.2 (40 : Int)).bind fun t8 => (f166 k t8.2.1 t8.2.2.1 t8.2.2.2 (3 : Int)).bind fun t9 => if t9.1 = true then
                    (f145 k t9.2.1 t9.2.2.1 t9.2.2.2 (1400 : Int)).bind fun t10 => if (0 : Int) ≤ t10.1 then
                        if List.length t8.1 + List.length (List.replicate (Int.toNat t10.1) (0 : Int)) ≤ maxN then
                          (f166 k t10.2.1 t10.2.2.1 t10.2.2.2 (2 : Int)).bind fun t11 => if t11.1 = true then
                              (f167 k t11.2.1 t11.2.2.1 t11.2.2.2).bind fun t12 => (f167 k t12.2.1 t12.2.2.1 t12.2.2.2).bind fun t13 => (f145 k t13.2.1 t13.2.2.1 t13.2.2.2 (65536 : Int)).bind fun t14 => (f145 k t14.2.1 t14.2.2.1 t14.2.2.2 (4 : Int)).bind fun t15 => if (decide (t15.1 = (0 : Int))) = true then
                                        ret ((4 : Int), t12.1, t13.1, (List.getD ([(64 : Int), (1 : Int), (0 : Int), (255 : Int)] : List Int) (Int.toNat t6.1) (0 : Int)), t7.1, t14.1, (0 : Int), false, true, (t8.1 ++ (List.replicate (Int.toNat t10.1) (0 : Int))), t15.2.1, t15.2.2.1, t15.2.2.2)
                                      else
                                        if (decide (t15.1 = (1 : Int))) = true then
                                          (f145 k t15.2.1 t15.2.2.1 t15.2.2.2 (20 : Int)).bind fun t16 => if (decide ((Int.tmod (((List.length (t8.1 ++ (List.replicate (Int.toNat t10.1) (0 : Int)))) : Nat) : Int) (8 : Int)) = (0 : Int))) = true then
                                              ret ((4 : Int), t12.1, t13.1, (List.getD ([(64 : Int), (1 : Int), (0 : Int), (255 : Int)] : List Int) (Int.toNat t6.1) (0 : Int)), t7.1, t14.1, t16.1, (decide ((((List.length (t8.1 ++ (List.replicate (Int.toNat t10.1) (0 : Int)))) : Nat) : Int) > (0 : Int))), false, (t8.1 ++ (List.replicate (Int.toNat t10.1) (0 : Int))), t16.2.1, t16.2.2.1, t16.2.2.2)
                                            else
                                              ret ((4 : Int), t12.1, t13.1, (List.getD ([(64 : Int), (1 : Int), (0 : Int), (255 : Int)] : List Int) (Int.toNat t6.1) (0 : Int)), t7.1, t14.1, t16.1, false, false, (t8.1 ++ (List.replicate (Int.toNat t10.1) (0 : Int))), t16.2.1, t16.2.2.1, t16.2.2.2)
                                        else
                                          ret ((4 : Int), t12.1, t13.1, (List.getD ([(64 : Int), (1 : Int), (0 : Int), (255 : Int)] : List Int) (Int.toNat t6.1) (0 : Int)), t7.1, t14.1, (0 : Int), false, false, (t8.1 ++ (List.replicate (Int.toNat t10.1) (0 : Int))), t15.2.1, t15.2.2.1, t15.2.2.2)
                            else
                              ret ((6 : Int), t4.1, t5.1, (List.getD ([(64 : Int), (1 : Int), (0 : Int), (255 : Int)] : List Int) (Int.toNat t6.1) (0 : Int)), t7.1, (0 : Int), (0 : Int), false, false, (t8.1 ++ (List.replicate (Int.toNat t10.1) (0 : Int))), t11.2.1, t11.2.2.1, t11.2.2.2)
                        else none
                      else none
                  else
                    (f166 k t9.2.1 t9.2.2.1 t9.2.2.2 (2 : Int)).bind fun t17 => if t17.1 = true then
                        (f167 k t17.2.1 t17.2.2.1 t17.2.2.2).bind fun t18 => (f167 k t18.2.1 t18.2.2.1 t18.2.2.2).bind fun t19 => (f145 k t19.2.1 t19.2.2.1 t19.2.2.2 (65536 : Int)).bind fun t20 => (f145 k t20.2.1 t20.2.2.1 t20.2.2.2 (4 : Int)).bind fun t21 => if (decide (t21.1 = (0 : Int))) = true then
                                  ret ((4 : Int), t18.1, t19.1, (List.getD ([(64 : Int), (1 : Int), (0 : Int), (255 : Int)] : List Int) (Int.toNat t6.1) (0 : Int)), t7.1, t20.1, (0 : Int), false, true, t8.1, t21.2.1, t21.2.2.1, t21.2.2.2)
                                else
                                  if (decide (t21.1 = (1 : Int))) = true then
                                    (f145 k t21.2.1 t21.2.2.1 t21.2.2.2 (20 : Int)).bind fun t22 => if (decide ((Int.tmod (((List.length t8.1) : Nat) : Int) (8 : Int)) = (0 : Int))) = true then
                                        ret ((4 : Int), t18.1, t19.1, (List.getD ([(64 : Int), (1 : Int), (0 : Int), (255 : Int)] : List Int) (Int.toNat t6.1) (0 : Int)), t7.1, t20.1, t22.1, (decide ((((List.length t8.1) : Nat) : Int) > (0 : Int))), false, t8.1, t22.2.1, t22.2.2.1, t22.2.2.2)
                                      else
                                        ret ((4 : Int), t18.1, t19.1, (List.getD ([(64 : Int), (1 : Int), (0 : Int), (255 : Int)] : List Int) (Int.toNat t6.1) (0 : Int)), t7.1, t20.1, t22.1, false, false, t8.1, t22.2.1, t22.2.2.1, t22.2.2.2)
                                  else
                                    ret ((4 : Int), t18.1, t19.1, (List.getD ([(64 : Int), (1 : Int), (0 : Int), (255 : Int)] : List Int) (Int.toNat t6.1) (0 : Int)), t7.1, t20.1, (0 : Int), false, false, t8.1, t21.2.1, t21.2.2.1, t21.2.2.2)
                      else
                        ret ((6 : Int), t4.1, t5.1, (List.getD ([(64 : Int), (1 : Int), (0 : Int), (255 : Int)] : List Int) (Int.toNat t6.1) (0 : Int)), t7.1, (0 : Int), (0 : Int), false, false, t8.1, t17.2.1, t17.2.2.1, t17.2.2.2)
          else none
        else none
def f123 (k : Nat) (xs1 : List Int) (a2 : Int) (a3 : Int) : Option (Int × ByteArray × ByteArray × Int × Int × Int × Int × Bool × Bool × (List Int) × (List Int) × Int × Int) := f123.step k some xs1 a2 a3
def f123.w {R : Type} : (Int × ByteArray × ByteArray × Int × Int × Int × Int × Bool × Bool × (List Int) × (List Int) × Int × Int) → (Res env → Option R) → Option R := fun t23 K => K ⟨.v (.g [.s (.int .i64 t23.1), .s (.string t23.2.1), .s (.string t23.2.2.1), .s (.int .i64 t23.2.2.2.1), .s (.int .i64 t23.2.2.2.2.1), .s (.int .i64 t23.2.2.2.2.2.1), .s (.int .i64 t23.2.2.2.2.2.2.1), .s (.bool t23.2.2.2.2.2.2.2.1), .s (.bool t23.2.2.2.2.2.2.2.2.1), .own true 5 t23.2.2.2.2.2.2.2.2.2.1]), [[.sl 5 t23.2.2.2.2.2.2.2.2.2.2.1, .s (.int .i64 t23.2.2.2.2.2.2.2.2.2.2.2.1), .s (.int .i64 t23.2.2.2.2.2.2.2.2.2.2.2.2)]]⟩
theorem f123.wn (x : (Int × ByteArray × ByteArray × Int × Int × Int × Int × Bool × Bool × (List Int) × (List Int) × Int × Int)) : ∃ res, ∀ {R : Type} (K : Res env → Option R), f123.w x K = K res := by
  exact ⟨_, fun _ => rfl⟩
def f123.hd (k : Nat) (ps_ : List (P2 env)) : Cl env :=
  gC Cl.no ps_ fun p_ ps_ => qP Cl.no p_ fun cs_ => gC Cl.no cs_ fun c_ cs_ => qSl Cl.no 5 c_ fun xs1 => gC Cl.no cs_ fun c_ cs_ => qS Cl.no c_ fun v_ => vI Cl.no .i64 v_ fun a2 => gC Cl.no cs_ fun c_ cs_ => qS Cl.no c_ fun v_ => vI Cl.no .i64 v_ fun a3 => gE Cl.no cs_ <| gE Cl.no ps_ <| { α := Int × ByteArray × ByteArray × Int × Int × Int × Int × Bool × Bool × (List Int) × (List Int) × Int × Int, o := f123 k xs1 a2 a3, w := f123.w, nat := fun x _ => f123.wn x }
def f123.e (k : Nat) : Entry env := ⟨fun ps => f123.hd k (coer [[.rd 5, .no, .no]] ps), [], []⟩
def f123.X (k : Nat) : Ctx env := { C := lookE [(145, f145.e k), (164, f164.e k), (165, f165.e k), (166, f166.e k), (167, f167.e k)], L := lookE [], J := lookE [], keep := lookD [], keepX := lookD [], span := lookN [], eff := fun n => memN n [1, 3], prep := lookP [], np := 0 }
theorem f123.nat {R : Type} (k : Nat) (g : (Int × ByteArray × ByteArray × Int × Int × Int × Int × Bool × Bool × (List Int) × (List Int) × Int × Int) → Option R) (xs1 : List Int) (a2 : Int) (a3 : Int) : f123.step k g xs1 a2 a3 = (f123 k xs1 a2 a3).bind g := by
  simp only [f123, f123.step, bind_ite, bind_sum, Option.bind_assoc, Option.bind_some, Option.bind_none]
theorem f123.ev (k : Nat) (xs1 : List Int) (a2 : Int) (a3 : Int) : evF (f123.X k) (bodyOf Try.f123) Try.f123.ntmps Try.f123.results.toList [.v (.ptr [.sl 5 xs1, .s (.int .i64 a2), .s (.int .i64 a3)])] = f123.step k (fun x => f123.w x some) xs1 a2 a3 := by kernel_rfl
theorem f123.hok (k : Nat) : HOK (f123.X k) (bodyOf Try.f123) where
  l := allP_mem (by exact trivial)
  j := allP_mem (by exact trivial)
theorem f123.sound0 (k : Nat) : SoundC env Try.prog 123 (f123.hd k) := by
  intro ps_
  show GoodC _ _ _ ps_ (f123.hd k ps_)
  unfold f123.hd
  refine gC_ok (p := GoodC env Try.prog 123 _) goodC_no fun _ _ h => ?_
  subst h
  refine qP_ok (p := GoodC env Try.prog 123 _) goodC_no fun _ h => ?_
  subst h
  refine gC_ok (p := GoodC env Try.prog 123 _) goodC_no fun _ _ h => ?_
  subst h
  refine qSl_ok (p := GoodC env Try.prog 123 _) goodC_no fun _ h => ?_
  subst h
  refine gC_ok (p := GoodC env Try.prog 123 _) goodC_no fun _ _ h => ?_
  subst h
  refine qS_ok (p := GoodC env Try.prog 123 _) goodC_no fun _ h => ?_
  subst h
  refine vI_ok (p := GoodC env Try.prog 123 _) goodC_no fun _ h => ?_
  subst h
  refine gC_ok (p := GoodC env Try.prog 123 _) goodC_no fun _ _ h => ?_
  subst h
  refine qS_ok (p := GoodC env Try.prog 123 _) goodC_no fun _ h => ?_
  subst h
  refine vI_ok (p := GoodC env Try.prog 123 _) goodC_no fun _ h => ?_
  subst h
  refine gE_ok (p := GoodC env Try.prog 123 _) goodC_no fun h => ?_
  subst h
  refine gE_ok (p := GoodC env Try.prog 123 _) goodC_no fun h => ?_
  subst h
  exact fun_good (fun_sound envOK (cs_sound _ (by exact ⟨⟨f145.sound k, f145.fnok⟩, ⟨f164.sound k, f164.fnok⟩, ⟨f165.sound k, f165.fnok⟩, ⟨f166.sound k, f166.fnok⟩, ⟨f167.sound k, f167.fnok⟩, trivial⟩)) (f123.hok k) Try.func123 rfl) ((f123.ev k _ _ _).trans (f123.nat k _ _ _ _))
theorem f123.sound (k : Nat) : SoundC env Try.prog 123 (f123.e k).F := soundC_coer (f123.sound0 k) [[.rd 5, .no, .no]]
theorem f123.says (k : Nat) (xs1 : List Int) (a2 : Int) (a3 : Int) (t24 : Int × ByteArray × ByteArray × Int × Int × Int × Int × Bool × Bool × (List Int) × (List Int) × Int × Int) (h_ : f123 k xs1 a2 a3 = some t24) : SoundAt env Try.prog 123 [.v (.ptr [.sl 5 xs1, .s (.int .i64 a2), .s (.int .i64 a3)])] ⟨.v (.g [.s (.int .i64 t24.1), .s (.string t24.2.1), .s (.string t24.2.2.1), .s (.int .i64 t24.2.2.2.1), .s (.int .i64 t24.2.2.2.2.1), .s (.int .i64 t24.2.2.2.2.2.1), .s (.int .i64 t24.2.2.2.2.2.2.1), .s (.bool t24.2.2.2.2.2.2.2.1), .s (.bool t24.2.2.2.2.2.2.2.2.1), .own true 5 t24.2.2.2.2.2.2.2.2.2.1]), [[.sl 5 t24.2.2.2.2.2.2.2.2.2.2.1, .s (.int .i64 t24.2.2.2.2.2.2.2.2.2.2.2.1), .s (.int .i64 t24.2.2.2.2.2.2.2.2.2.2.2.2)]]⟩ :=
  fun_sound envOK (cs_sound _ (by exact ⟨⟨f145.sound k, f145.fnok⟩, ⟨f164.sound k, f164.fnok⟩, ⟨f165.sound k, f165.fnok⟩, ⟨f166.sound k, f166.fnok⟩, ⟨f167.sound k, f167.fnok⟩, trivial⟩)) (f123.hok k) Try.func123 rfl _ _ (((f123.ev k xs1 a2 a3).trans (f123.nat k _ xs1 a2 a3)).trans (by rw [h_]; rfl))
theorem f123.fnok : FnOK Try.prog 123 := fn_ok Try.func123 (by kernel_rfl) rfl
def f144.l2.step {R : Type} (k : Nat) (rec_ : Int → (List Int) → Int → Int → Int → ByteArray → ByteArray → Int → Int → Int → Int → Bool → Bool → Option R) (ret : (((List Int) × Int × Int × Int × ByteArray × ByteArray × Int × Int × Int × Int × Bool × Bool × (List Int)) ⊕ ((List Int) × Int × Int × Int × ByteArray × ByteArray × Int × Int × Int × Int × Bool × Bool)) → Option R) (a4 : Int) (xs5 : List Int) (a6 : Int) (a7 : Int) (a8 : Int) (s9 : ByteArray) (s10 : ByteArray) (a11 : Int) (a12 : Int) (a13 : Int) (a14 : Int) (b15 : Bool) (b16 : Bool) : Option R :=
  if (decide (a4 < (8 : Int))) = true then
    (f123 k xs5 a6 a7).bind fun t17 => if (decide (t17.1 = (4 : Int))) = true then
        ret (.inl (t17.2.2.2.2.2.2.2.2.2.2.1, t17.2.2.2.2.2.2.2.2.2.2.2.1, t17.2.2.2.2.2.2.2.2.2.2.2.2, t17.1, t17.2.1, t17.2.2.1, t17.2.2.2.1, t17.2.2.2.2.1, t17.2.2.2.2.2.1, t17.2.2.2.2.2.2.1, t17.2.2.2.2.2.2.2.1, t17.2.2.2.2.2.2.2.2.1, t17.2.2.2.2.2.2.2.2.2.1))
      else
        rec_ (IntKind.i64.wrap (a4 + (1 : Int))) t17.2.2.2.2.2.2.2.2.2.2.1 t17.2.2.2.2.2.2.2.2.2.2.2.1 t17.2.2.2.2.2.2.2.2.2.2.2.2 a8 s9 s10 a11 a12 a13 a14 b15 b16
  else
    ret (.inr (xs5, a6, a7, a8, s9, s10, a11, a12, a13, a14, b15, b16))
def f144.l2 (k : Nat) : Nat → Int → (List Int) → Int → Int → Int → ByteArray → ByteArray → Int → Int → Int → Int → Bool → Bool → Option (((List Int) × Int × Int × Int × ByteArray × ByteArray × Int × Int × Int × Int × Bool × Bool × (List Int)) ⊕ ((List Int) × Int × Int × Int × ByteArray × ByteArray × Int × Int × Int × Int × Bool × Bool))
  | 0, _, _, _, _, _, _, _, _, _, _, _, _, _ => none
  | j + 1, a4, xs5, a6, a7, a8, s9, s10, a11, a12, a13, a14, b15, b16 => f144.l2.step k (fun a4 xs5 a6 a7 a8 s9 s10 a11 a12 a13 a14 b15 b16 => f144.l2 k j a4 xs5 a6 a7 a8 s9 s10 a11 a12 a13 a14 b15 b16) some a4 xs5 a6 a7 a8 s9 s10 a11 a12 a13 a14 b15 b16
def f144.l2.w {R : Type} : (((List Int) × Int × Int × Int × ByteArray × ByteArray × Int × Int × Int × Int × Bool × Bool × (List Int)) ⊕ ((List Int) × Int × Int × Int × ByteArray × ByteArray × Int × Int × Int × Int × Bool × Bool)) → (Exit → St env → Option R) → Option R := fun x K => Sum.elim (fun t20 => K .ret ⟨fullT [0, 2] 0 16 [.v (.c (.bp 0 0)), .v (.c (.bp 1 0))], [(0, .box [.imm 5 t20.1, .s (.int .i64 t20.2.1), .s (.int .i64 t20.2.2.1)]), (1, .box [.s (.int .i64 t20.2.2.2.1), .s (.string t20.2.2.2.2.1), .s (.string t20.2.2.2.2.2.1), .s (.int .i64 t20.2.2.2.2.2.2.1), .s (.int .i64 t20.2.2.2.2.2.2.2.1), .s (.int .i64 t20.2.2.2.2.2.2.2.2.1), .s (.int .i64 t20.2.2.2.2.2.2.2.2.2.1), .s (.bool t20.2.2.2.2.2.2.2.2.2.2.1), .s (.bool t20.2.2.2.2.2.2.2.2.2.2.2.1), .row 81]), (81, .row true 5 t20.2.2.2.2.2.2.2.2.2.2.2.2)], 257⟩) (fun t21 => K (.exit 0) ⟨fullT [0, 2] 0 16 [.v (.c (.bp 0 0)), .v (.c (.bp 1 0))], [(0, .box [.imm 5 t21.1, .s (.int .i64 t21.2.1), .s (.int .i64 t21.2.2.1)]), (1, .box [.s (.int .i64 t21.2.2.2.1), .s (.string t21.2.2.2.2.1), .s (.string t21.2.2.2.2.2.1), .s (.int .i64 t21.2.2.2.2.2.2.1), .s (.int .i64 t21.2.2.2.2.2.2.2.1), .s (.int .i64 t21.2.2.2.2.2.2.2.2.1), .s (.int .i64 t21.2.2.2.2.2.2.2.2.2.1), .s (.bool t21.2.2.2.2.2.2.2.2.2.2.1), .s (.bool t21.2.2.2.2.2.2.2.2.2.2.2), .s (.slice none 0 0)])], 257⟩) x
def f144.l2.st (a4 : Int) (xs5 : List Int) (a6 : Int) (a7 : Int) (a8 : Int) (s9 : ByteArray) (s10 : ByteArray) (a11 : Int) (a12 : Int) (a13 : Int) (a14 : Int) (b15 : Bool) (b16 : Bool) : St env := ⟨fullT [0, 2, 3] 0 16 [.v (.c (.bp 0 0)), .v (.c (.bp 1 0)), .v (.c (.s (.int .i64 a4)))], [(0, .box [.imm 5 xs5, .s (.int .i64 a6), .s (.int .i64 a7)]), (1, .box [.s (.int .i64 a8), .s (.string s9), .s (.string s10), .s (.int .i64 a11), .s (.int .i64 a12), .s (.int .i64 a13), .s (.int .i64 a14), .s (.bool b15), .s (.bool b16), .s (.slice none 0 0)])], 33⟩
def f144.l2.hd (k : Nat) (ts_ : List (AV env)) (mm_ : Mem env) (n_ : Nat) : LCl env :=
  gTs LCl.no [0, 2, 3] 16 ts_ fun l_ => gV LCl.no l_ fun a_ l_ => rBp LCl.no 0 0 a_ <| gV LCl.no l_ fun a_ l_ => rBp LCl.no 1 0 a_ <| gV LCl.no l_ fun a_ l_ => rV LCl.no a_ fun v_ => vI LCl.no .i64 v_ fun a4 => gE LCl.no l_ <| mBox LCl.no 0 mm_ fun c_ m_ => gC LCl.no c_ fun a_ c_ => rImm LCl.no 5 a_ fun xs5 => gC LCl.no c_ fun a_ c_ => rV LCl.no a_ fun v_ => vI LCl.no .i64 v_ fun a6 => gC LCl.no c_ fun a_ c_ => rV LCl.no a_ fun v_ => vI LCl.no .i64 v_ fun a7 => gE LCl.no c_ <| mBox LCl.no 1 m_ fun c_ m_ => gC LCl.no c_ fun a_ c_ => rV LCl.no a_ fun v_ => vI LCl.no .i64 v_ fun a8 => gC LCl.no c_ fun a_ c_ => rV LCl.no a_ fun v_ => vS LCl.no v_ fun s9 => gC LCl.no c_ fun a_ c_ => rV LCl.no a_ fun v_ => vS LCl.no v_ fun s10 => gC LCl.no c_ fun a_ c_ => rV LCl.no a_ fun v_ => vI LCl.no .i64 v_ fun a11 => gC LCl.no c_ fun a_ c_ => rV LCl.no a_ fun v_ => vI LCl.no .i64 v_ fun a12 => gC LCl.no c_ fun a_ c_ => rV LCl.no a_ fun v_ => vI LCl.no .i64 v_ fun a13 => gC LCl.no c_ fun a_ c_ => rV LCl.no a_ fun v_ => vI LCl.no .i64 v_ fun a14 => gC LCl.no c_ fun a_ c_ => rV LCl.no a_ fun v_ => vB LCl.no v_ fun b15 => gC LCl.no c_ fun a_ c_ => rV LCl.no a_ fun v_ => vB LCl.no v_ fun b16 => gC LCl.no c_ fun a_ c_ => rV LCl.no a_ fun v_ => vNil LCl.no v_ <| gE LCl.no c_ <| gE LCl.no m_ <| gN LCl.no 33 n_ { α := ((List Int) × Int × Int × Int × ByteArray × ByteArray × Int × Int × Int × Int × Bool × Bool × (List Int)) ⊕ ((List Int) × Int × Int × Int × ByteArray × ByteArray × Int × Int × Int × Int × Bool × Bool), o := f144.l2 k k a4 xs5 a6 a7 a8 s9 s10 a11 a12 a13 a14 b15 b16, w := f144.l2.w }
def f144.step {R : Type} (k : Nat) (ret : ((Int × ByteArray × ByteArray × Int × Int × Int × Int × Bool × Bool × (List Int) × (List Int) × Int × Int) ⊕ (Int × ByteArray × ByteArray × Int × Int × Int × Int × Bool × Bool × (List Int) × Int × Int)) → Option R) (xs1 : List Int) (a2 : Int) (a3 : Int) : Option R :=
  (f144.l2 k k (0 : Int) xs1 a2 a3 (0 : Int) ByteArray.empty ByteArray.empty (0 : Int) (0 : Int) (0 : Int) (0 : Int) false false).bind (Sum.elim (fun t18 => ret (.inl (t18.2.2.2.1, t18.2.2.2.2.1, t18.2.2.2.2.2.1, t18.2.2.2.2.2.2.1, t18.2.2.2.2.2.2.2.1, t18.2.2.2.2.2.2.2.2.1, t18.2.2.2.2.2.2.2.2.2.1, t18.2.2.2.2.2.2.2.2.2.2.1, t18.2.2.2.2.2.2.2.2.2.2.2.1, t18.2.2.2.2.2.2.2.2.2.2.2.2, t18.1, t18.2.1, t18.2.2.1))) (fun t19 => ret (.inr ((4 : Int), (⟨#[97, 97, 97, 97]⟩ : ByteArray), (⟨#[98, 98, 98, 98]⟩ : ByteArray), (0 : Int), (0 : Int), (0 : Int), (0 : Int), false, false, t19.1, t19.2.1, t19.2.2.1))))
def f144 (k : Nat) (xs1 : List Int) (a2 : Int) (a3 : Int) : Option ((Int × ByteArray × ByteArray × Int × Int × Int × Int × Bool × Bool × (List Int) × (List Int) × Int × Int) ⊕ (Int × ByteArray × ByteArray × Int × Int × Int × Int × Bool × Bool × (List Int) × Int × Int)) := f144.step k some xs1 a2 a3
def f144.w {R : Type} : ((Int × ByteArray × ByteArray × Int × Int × Int × Int × Bool × Bool × (List Int) × (List Int) × Int × Int) ⊕ (Int × ByteArray × ByteArray × Int × Int × Int × Int × Bool × Bool × (List Int) × Int × Int)) → (Res env → Option R) → Option R := fun x K => Sum.elim (fun t22 => K ⟨.v (.g [.s (.int .i64 t22.1), .s (.string t22.2.1), .s (.string t22.2.2.1), .s (.int .i64 t22.2.2.2.1), .s (.int .i64 t22.2.2.2.2.1), .s (.int .i64 t22.2.2.2.2.2.1), .s (.int .i64 t22.2.2.2.2.2.2.1), .s (.bool t22.2.2.2.2.2.2.2.1), .s (.bool t22.2.2.2.2.2.2.2.2.1), .own true 5 t22.2.2.2.2.2.2.2.2.2.1]), [[.sl 5 t22.2.2.2.2.2.2.2.2.2.2.1, .s (.int .i64 t22.2.2.2.2.2.2.2.2.2.2.2.1), .s (.int .i64 t22.2.2.2.2.2.2.2.2.2.2.2.2)]]⟩) (fun t23 => K ⟨.v (.g [.s (.int .i64 t23.1), .s (.string t23.2.1), .s (.string t23.2.2.1), .s (.int .i64 t23.2.2.2.1), .s (.int .i64 t23.2.2.2.2.1), .s (.int .i64 t23.2.2.2.2.2.1), .s (.int .i64 t23.2.2.2.2.2.2.1), .s (.bool t23.2.2.2.2.2.2.2.1), .s (.bool t23.2.2.2.2.2.2.2.2.1), .s (.slice none 0 0)]), [[.sl 5 t23.2.2.2.2.2.2.2.2.2.1, .s (.int .i64 t23.2.2.2.2.2.2.2.2.2.2.1), .s (.int .i64 t23.2.2.2.2.2.2.2.2.2.2.2)]]⟩) x
theorem f144.wn (x : ((Int × ByteArray × ByteArray × Int × Int × Int × Int × Bool × Bool × (List Int) × (List Int) × Int × Int) ⊕ (Int × ByteArray × ByteArray × Int × Int × Int × Int × Bool × Bool × (List Int) × Int × Int))) : ∃ res, ∀ {R : Type} (K : Res env → Option R), f144.w x K = K res := by
  rcases x with x | x <;> exact ⟨_, fun _ => rfl⟩
def f144.hd (k : Nat) (ps_ : List (P2 env)) : Cl env :=
  gC Cl.no ps_ fun p_ ps_ => qP Cl.no p_ fun cs_ => gC Cl.no cs_ fun c_ cs_ => qSl Cl.no 5 c_ fun xs1 => gC Cl.no cs_ fun c_ cs_ => qS Cl.no c_ fun v_ => vI Cl.no .i64 v_ fun a2 => gC Cl.no cs_ fun c_ cs_ => qS Cl.no c_ fun v_ => vI Cl.no .i64 v_ fun a3 => gE Cl.no cs_ <| gE Cl.no ps_ <| { α := (Int × ByteArray × ByteArray × Int × Int × Int × Int × Bool × Bool × (List Int) × (List Int) × Int × Int) ⊕ (Int × ByteArray × ByteArray × Int × Int × Int × Int × Bool × Bool × (List Int) × Int × Int), o := f144 k xs1 a2 a3, w := f144.w, nat := fun x _ => f144.wn x }
def f144.e (k : Nat) : Entry env := ⟨fun ps => f144.hd k (coer [[.rd 5, .no, .no]] ps), [], []⟩
def f144.X (k : Nat) : Ctx env := { C := lookE [(123, f123.e k)], L := lookE [(2, fun S => f144.l2.hd k S.ts S.m S.n)], J := lookE [], keep := lookD [(2, [0, 2, 3])], keepX := lookD [(2, [0, 2])], span := lookN [(2, 224)], eff := fun n => memN n [], prep := lookP [], np := 0 }
theorem f144.l2.nat {R : Type} (k : Nat) (rec_ : Int → (List Int) → Int → Int → Int → ByteArray → ByteArray → Int → Int → Int → Int → Bool → Bool → Option (((List Int) × Int × Int × Int × ByteArray × ByteArray × Int × Int × Int × Int × Bool × Bool × (List Int)) ⊕ ((List Int) × Int × Int × Int × ByteArray × ByteArray × Int × Int × Int × Int × Bool × Bool))) (g : (((List Int) × Int × Int × Int × ByteArray × ByteArray × Int × Int × Int × Int × Bool × Bool × (List Int)) ⊕ ((List Int) × Int × Int × Int × ByteArray × ByteArray × Int × Int × Int × Int × Bool × Bool)) → Option R) (a4 : Int) (xs5 : List Int) (a6 : Int) (a7 : Int) (a8 : Int) (s9 : ByteArray) (s10 : ByteArray) (a11 : Int) (a12 : Int) (a13 : Int) (a14 : Int) (b15 : Bool) (b16 : Bool) : (f144.l2.step k rec_ some a4 xs5 a6 a7 a8 s9 s10 a11 a12 a13 a14 b15 b16).bind g = f144.l2.step k (fun a4 xs5 a6 a7 a8 s9 s10 a11 a12 a13 a14 b15 b16 => (rec_ a4 xs5 a6 a7 a8 s9 s10 a11 a12 a13 a14 b15 b16).bind g) g a4 xs5 a6 a7 a8 s9 s10 a11 a12 a13 a14 b15 b16 := by
  simp only [f144.l2.step, bind_ite, bind_sum, Option.bind_assoc, Option.bind_some, Option.bind_none]
theorem f144.l2.good (k : Nat) (a4 : Int) (xs5 : List Int) (a6 : Int) (a7 : Int) (a8 : Int) (s9 : ByteArray) (s10 : ByteArray) (a11 : Int) (a12 : Int) (a13 : Int) (a14 : Int) (b15 : Bool) (b16 : Bool) : GoodL (f144.X k) (nthC 0 (loopsOf (bodyOf Try.f144))) (f144.l2.st a4 xs5 a6 a7 a8 s9 s10 a11 a12 a13 a14 b15 b16) { α := (((List Int) × Int × Int × Int × ByteArray × ByteArray × Int × Int × Int × Int × Bool × Bool × (List Int)) ⊕ ((List Int) × Int × Int × Int × ByteArray × ByteArray × Int × Int × Int × Int × Bool × Bool)), o := f144.l2 k k a4 xs5 a6 a7 a8 s9 s10 a11 a12 a13 a14 b15 b16, w := f144.l2.w } :=
  loop_good (ι := Int × (List Int) × Int × Int × Int × ByteArray × ByteArray × Int × Int × Int × Int × Bool × Bool) (α := (((List Int) × Int × Int × Int × ByteArray × ByteArray × Int × Int × Int × Int × Bool × Bool × (List Int)) ⊕ ((List Int) × Int × Int × Int × ByteArray × ByteArray × Int × Int × Int × Int × Bool × Bool))) (fun i => f144.l2.st i.1 i.2.1 i.2.2.1 i.2.2.2.1 i.2.2.2.2.1 i.2.2.2.2.2.1 i.2.2.2.2.2.2.1 i.2.2.2.2.2.2.2.1 i.2.2.2.2.2.2.2.2.1 i.2.2.2.2.2.2.2.2.2.1 i.2.2.2.2.2.2.2.2.2.2.1 i.2.2.2.2.2.2.2.2.2.2.2.1 i.2.2.2.2.2.2.2.2.2.2.2.2) (fun j i => f144.l2 k j i.1 i.2.1 i.2.2.1 i.2.2.2.1 i.2.2.2.2.1 i.2.2.2.2.2.1 i.2.2.2.2.2.2.1 i.2.2.2.2.2.2.2.1 i.2.2.2.2.2.2.2.2.1 i.2.2.2.2.2.2.2.2.2.1 i.2.2.2.2.2.2.2.2.2.2.1 i.2.2.2.2.2.2.2.2.2.2.2.1 i.2.2.2.2.2.2.2.2.2.2.2.2) f144.l2.w (fun rec_ ret i => f144.l2.step k (fun a4 xs5 a6 a7 a8 s9 s10 a11 a12 a13 a14 b15 b16 => rec_ (a4, xs5, a6, a7, a8, s9, s10, a11, a12, a13, a14, b15, b16)) ret i.1 i.2.1 i.2.2.1 i.2.2.2.1 i.2.2.2.2.1 i.2.2.2.2.2.1 i.2.2.2.2.2.2.1 i.2.2.2.2.2.2.2.1 i.2.2.2.2.2.2.2.2.1 i.2.2.2.2.2.2.2.2.2.1 i.2.2.2.2.2.2.2.2.2.2.1 i.2.2.2.2.2.2.2.2.2.2.2.1 i.2.2.2.2.2.2.2.2.2.2.2.2)
    (fun _ => rfl) (fun _ _ => rfl) (fun rec_ g i => f144.l2.nat k _ g i.1 i.2.1 i.2.2.1 i.2.2.2.1 i.2.2.2.2.1 i.2.2.2.2.2.1 i.2.2.2.2.2.2.1 i.2.2.2.2.2.2.2.1 i.2.2.2.2.2.2.2.2.1 i.2.2.2.2.2.2.2.2.2.1 i.2.2.2.2.2.2.2.2.2.2.1 i.2.2.2.2.2.2.2.2.2.2.2.1 i.2.2.2.2.2.2.2.2.2.2.2.2) (fun {R} i0 i rec_ K => by kernel_rfl) k (a4, xs5, a6, a7, a8, s9, s10, a11, a12, a13, a14, b15, b16)
theorem f144.l2.all (k : Nat) (S : St env) : GoodL (f144.X k) (nthC 0 (loopsOf (bodyOf Try.f144))) S (f144.l2.hd k S.ts S.m S.n) := by
  obtain ⟨ts_, m_, n_⟩ := S
  show GoodL _ _ _ (f144.l2.hd k ts_ m_ n_)
  unfold f144.l2.hd
  refine gTs_ok (p := GoodL _ _ _) goodL_no fun _ h => ?_
  subst h
  refine gV_ok (p := GoodL _ _ _) goodL_no fun _ _ h => ?_
  subst h
  refine rBp_ok (p := GoodL _ _ _) goodL_no fun h => ?_
  subst h
  refine gV_ok (p := GoodL _ _ _) goodL_no fun _ _ h => ?_
  subst h
  refine rBp_ok (p := GoodL _ _ _) goodL_no fun h => ?_
  subst h
  refine gV_ok (p := GoodL _ _ _) goodL_no fun _ _ h => ?_
  subst h
  refine rV_ok (p := GoodL _ _ _) goodL_no fun _ h => ?_
  subst h
  refine vI_ok (p := GoodL _ _ _) goodL_no fun _ h => ?_
  subst h
  refine gE_ok (p := GoodL _ _ _) goodL_no fun h => ?_
  subst h
  refine mBox_ok (p := GoodL _ _ _) goodL_no fun _ _ h => ?_
  subst h
  refine gC_ok (p := GoodL _ _ _) goodL_no fun _ _ h => ?_
  subst h
  refine rImm_ok (p := GoodL _ _ _) goodL_no fun _ h => ?_
  subst h
  refine gC_ok (p := GoodL _ _ _) goodL_no fun _ _ h => ?_
  subst h
  refine rV_ok (p := GoodL _ _ _) goodL_no fun _ h => ?_
  subst h
  refine vI_ok (p := GoodL _ _ _) goodL_no fun _ h => ?_
  subst h
  refine gC_ok (p := GoodL _ _ _) goodL_no fun _ _ h => ?_
  subst h
  refine rV_ok (p := GoodL _ _ _) goodL_no fun _ h => ?_
  subst h
  refine vI_ok (p := GoodL _ _ _) goodL_no fun _ h => ?_
  subst h
  refine gE_ok (p := GoodL _ _ _) goodL_no fun h => ?_
  subst h
  refine mBox_ok (p := GoodL _ _ _) goodL_no fun _ _ h => ?_
  subst h
  refine gC_ok (p := GoodL _ _ _) goodL_no fun _ _ h => ?_
  subst h
  refine rV_ok (p := GoodL _ _ _) goodL_no fun _ h => ?_
  subst h
  refine vI_ok (p := GoodL _ _ _) goodL_no fun _ h => ?_
  subst h
  refine gC_ok (p := GoodL _ _ _) goodL_no fun _ _ h => ?_
  subst h
  refine rV_ok (p := GoodL _ _ _) goodL_no fun _ h => ?_
  subst h
  refine vS_ok (p := GoodL _ _ _) goodL_no fun _ h => ?_
  subst h
  refine gC_ok (p := GoodL _ _ _) goodL_no fun _ _ h => ?_
  subst h
  refine rV_ok (p := GoodL _ _ _) goodL_no fun _ h => ?_
  subst h
  refine vS_ok (p := GoodL _ _ _) goodL_no fun _ h => ?_
  subst h
  refine gC_ok (p := GoodL _ _ _) goodL_no fun _ _ h => ?_
  subst h
  refine rV_ok (p := GoodL _ _ _) goodL_no fun _ h => ?_
  subst h
  refine vI_ok (p := GoodL _ _ _) goodL_no fun _ h => ?_
  subst h
  refine gC_ok (p := GoodL _ _ _) goodL_no fun _ _ h => ?_
  subst h
  refine rV_ok (p := GoodL _ _ _) goodL_no fun _ h => ?_
  subst h
  refine vI_ok (p := GoodL _ _ _) goodL_no fun _ h => ?_
  subst h
  refine gC_ok (p := GoodL _ _ _) goodL_no fun _ _ h => ?_
  subst h
  refine rV_ok (p := GoodL _ _ _) goodL_no fun _ h => ?_
  subst h
  refine vI_ok (p := GoodL _ _ _) goodL_no fun _ h => ?_
  subst h
  refine gC_ok (p := GoodL _ _ _) goodL_no fun _ _ h => ?_
  subst h
  refine rV_ok (p := GoodL _ _ _) goodL_no fun _ h => ?_
  subst h
  refine vI_ok (p := GoodL _ _ _) goodL_no fun _ h => ?_
  subst h
  refine gC_ok (p := GoodL _ _ _) goodL_no fun _ _ h => ?_
  subst h
  refine rV_ok (p := GoodL _ _ _) goodL_no fun _ h => ?_
  subst h
  refine vB_ok (p := GoodL _ _ _) goodL_no fun _ h => ?_
  subst h
  refine gC_ok (p := GoodL _ _ _) goodL_no fun _ _ h => ?_
  subst h
  refine rV_ok (p := GoodL _ _ _) goodL_no fun _ h => ?_
  subst h
  refine vB_ok (p := GoodL _ _ _) goodL_no fun _ h => ?_
  subst h
  refine gC_ok (p := GoodL _ _ _) goodL_no fun _ _ h => ?_
  subst h
  refine rV_ok (p := GoodL _ _ _) goodL_no fun _ h => ?_
  subst h
  refine vNil_ok (p := GoodL _ _ _) goodL_no fun h => ?_
  subst h
  refine gE_ok (p := GoodL _ _ _) goodL_no fun h => ?_
  subst h
  refine gE_ok (p := GoodL _ _ _) goodL_no fun h => ?_
  subst h
  refine gN_ok (p := GoodL _ _ _) goodL_no fun h => ?_
  subst h
  exact f144.l2.good k _ _ _ _ _ _ _ _ _ _ _ _ _
theorem f144.nat {R : Type} (k : Nat) (g : ((Int × ByteArray × ByteArray × Int × Int × Int × Int × Bool × Bool × (List Int) × (List Int) × Int × Int) ⊕ (Int × ByteArray × ByteArray × Int × Int × Int × Int × Bool × Bool × (List Int) × Int × Int)) → Option R) (xs1 : List Int) (a2 : Int) (a3 : Int) : f144.step k g xs1 a2 a3 = (f144 k xs1 a2 a3).bind g := by
  simp only [f144, f144.step, bind_ite, bind_sum, Option.bind_assoc, Option.bind_some, Option.bind_none]
theorem f144.ev (k : Nat) (xs1 : List Int) (a2 : Int) (a3 : Int) : evF (f144.X k) (bodyOf Try.f144) Try.f144.ntmps Try.f144.results.toList [.v (.ptr [.sl 5 xs1, .s (.int .i64 a2), .s (.int .i64 a3)])] = f144.step k (fun x => f144.w x some) xs1 a2 a3 := by kernel_rfl
theorem f144.hok (k : Nat) : HOK (f144.X k) (bodyOf Try.f144) where
  l := allP_mem (by exact ⟨ls_of (h0 := fun S => f144.l2.hd k S.ts S.m S.n) (by kernel_rfl) (f144.l2.all k), trivial⟩)
  j := allP_mem (by exact trivial)
theorem f144.sound0 (k : Nat) : SoundC env Try.prog 144 (f144.hd k) := by
  intro ps_
  show GoodC _ _ _ ps_ (f144.hd k ps_)
  unfold f144.hd
  refine gC_ok (p := GoodC env Try.prog 144 _) goodC_no fun _ _ h => ?_
  subst h
  refine qP_ok (p := GoodC env Try.prog 144 _) goodC_no fun _ h => ?_
  subst h
  refine gC_ok (p := GoodC env Try.prog 144 _) goodC_no fun _ _ h => ?_
  subst h
  refine qSl_ok (p := GoodC env Try.prog 144 _) goodC_no fun _ h => ?_
  subst h
  refine gC_ok (p := GoodC env Try.prog 144 _) goodC_no fun _ _ h => ?_
  subst h
  refine qS_ok (p := GoodC env Try.prog 144 _) goodC_no fun _ h => ?_
  subst h
  refine vI_ok (p := GoodC env Try.prog 144 _) goodC_no fun _ h => ?_
  subst h
  refine gC_ok (p := GoodC env Try.prog 144 _) goodC_no fun _ _ h => ?_
  subst h
  refine qS_ok (p := GoodC env Try.prog 144 _) goodC_no fun _ h => ?_
  subst h
  refine vI_ok (p := GoodC env Try.prog 144 _) goodC_no fun _ h => ?_
  subst h
  refine gE_ok (p := GoodC env Try.prog 144 _) goodC_no fun h => ?_
  subst h
  refine gE_ok (p := GoodC env Try.prog 144 _) goodC_no fun h => ?_
  subst h
  exact fun_good (fun_sound envOK (cs_sound _ (by exact ⟨⟨f123.sound k, f123.fnok⟩, trivial⟩)) (f144.hok k) Try.func144 rfl) ((f144.ev k _ _ _).trans (f144.nat k _ _ _ _))
theorem f144.sound (k : Nat) : SoundC env Try.prog 144 (f144.e k).F := soundC_coer (f144.sound0 k) [[.rd 5, .no, .no]]
theorem f144.fnok : FnOK Try.prog 144 := fn_ok Try.func144 (by kernel_rfl) rfl
def f82.step {R : Type} (k : Nat) (ret : ((Int × ByteArray × ByteArray × Int × Int × Int × Int × Bool × Bool × (List Int) × (List Int) × Int × Int) ⊕ (Int × ByteArray × ByteArray × Int × Int × Int × Int × Bool × Bool × (List Int) × Int × Int)) → Option R) (xs1 : List Int) (a2 : Int) (a3 : Int) : Option R :=
  (f144 k xs1 a2 a3).bind (Sum.elim (fun t4 => (f145 k t4.2.2.2.2.2.2.2.2.2.2.1 t4.2.2.2.2.2.2.2.2.2.2.2.1 t4.2.2.2.2.2.2.2.2.2.2.2.2 (4 : Int)).bind fun t5 => ret (.inl (t4.1, (⟨#[10, 0, 0, 1]⟩ : ByteArray), (⟨#[10, 0, 0, 2]⟩ : ByteArray), t4.2.2.2.1, t4.2.2.2.2.1, t5.1, (0 : Int), false, false, t4.2.2.2.2.2.2.2.2.2.1, t5.2.1, t5.2.2.1, t5.2.2.2))) (fun t6 => (f145 k t6.2.2.2.2.2.2.2.2.2.1 t6.2.2.2.2.2.2.2.2.2.2.1 t6.2.2.2.2.2.2.2.2.2.2.2 (4 : Int)).bind fun t7 => ret (.inr (t6.1, (⟨#[10, 0, 0, 1]⟩ : ByteArray), (⟨#[10, 0, 0, 2]⟩ : ByteArray), t6.2.2.2.1, t6.2.2.2.2.1, t7.1, (0 : Int), false, false, t7.2.1, t7.2.2.1, t7.2.2.2))))
def f82 (k : Nat) (xs1 : List Int) (a2 : Int) (a3 : Int) : Option ((Int × ByteArray × ByteArray × Int × Int × Int × Int × Bool × Bool × (List Int) × (List Int) × Int × Int) ⊕ (Int × ByteArray × ByteArray × Int × Int × Int × Int × Bool × Bool × (List Int) × Int × Int)) := f82.step k some xs1 a2 a3
def f82.w {R : Type} : ((Int × ByteArray × ByteArray × Int × Int × Int × Int × Bool × Bool × (List Int) × (List Int) × Int × Int) ⊕ (Int × ByteArray × ByteArray × Int × Int × Int × Int × Bool × Bool × (List Int) × Int × Int)) → (Res env → Option R) → Option R := fun x K => Sum.elim (fun t8 => K ⟨.v (.g [.s (.int .i64 t8.1), .s (.string t8.2.1), .s (.string t8.2.2.1), .s (.int .i64 t8.2.2.2.1), .s (.int .i64 t8.2.2.2.2.1), .s (.int .i64 t8.2.2.2.2.2.1), .s (.int .i64 t8.2.2.2.2.2.2.1), .s (.bool t8.2.2.2.2.2.2.2.1), .s (.bool t8.2.2.2.2.2.2.2.2.1), .own true 5 t8.2.2.2.2.2.2.2.2.2.1]), [[.sl 5 t8.2.2.2.2.2.2.2.2.2.2.1, .s (.int .i64 t8.2.2.2.2.2.2.2.2.2.2.2.1), .s (.int .i64 t8.2.2.2.2.2.2.2.2.2.2.2.2)]]⟩) (fun t9 => K ⟨.v (.g [.s (.int .i64 t9.1), .s (.string t9.2.1), .s (.string t9.2.2.1), .s (.int .i64 t9.2.2.2.1), .s (.int .i64 t9.2.2.2.2.1), .s (.int .i64 t9.2.2.2.2.2.1), .s (.int .i64 t9.2.2.2.2.2.2.1), .s (.bool t9.2.2.2.2.2.2.2.1), .s (.bool t9.2.2.2.2.2.2.2.2.1), .s (.slice none 0 0)]), [[.sl 5 t9.2.2.2.2.2.2.2.2.2.1, .s (.int .i64 t9.2.2.2.2.2.2.2.2.2.2.1), .s (.int .i64 t9.2.2.2.2.2.2.2.2.2.2.2)]]⟩) x
theorem f82.wn (x : ((Int × ByteArray × ByteArray × Int × Int × Int × Int × Bool × Bool × (List Int) × (List Int) × Int × Int) ⊕ (Int × ByteArray × ByteArray × Int × Int × Int × Int × Bool × Bool × (List Int) × Int × Int))) : ∃ res, ∀ {R : Type} (K : Res env → Option R), f82.w x K = K res := by
  rcases x with x | x <;> exact ⟨_, fun _ => rfl⟩
def f82.hd (k : Nat) (ps_ : List (P2 env)) : Cl env :=
  gC Cl.no ps_ fun p_ ps_ => qP Cl.no p_ fun cs_ => gC Cl.no cs_ fun c_ cs_ => qSl Cl.no 5 c_ fun xs1 => gC Cl.no cs_ fun c_ cs_ => qS Cl.no c_ fun v_ => vI Cl.no .i64 v_ fun a2 => gC Cl.no cs_ fun c_ cs_ => qS Cl.no c_ fun v_ => vI Cl.no .i64 v_ fun a3 => gE Cl.no cs_ <| gE Cl.no ps_ <| { α := (Int × ByteArray × ByteArray × Int × Int × Int × Int × Bool × Bool × (List Int) × (List Int) × Int × Int) ⊕ (Int × ByteArray × ByteArray × Int × Int × Int × Int × Bool × Bool × (List Int) × Int × Int), o := f82 k xs1 a2 a3, w := f82.w, nat := fun x _ => f82.wn x }
def f82.e (k : Nat) : Entry env := ⟨fun ps => f82.hd k (coer [[.rd 5, .no, .no]] ps), [], []⟩
def f82.X (k : Nat) : Ctx env := { C := lookE [(144, f144.e k), (145, f145.e k)], L := lookE [], J := lookE [], keep := lookD [], keepX := lookD [], span := lookN [], eff := fun n => memN n [], prep := lookP [], np := 0 }
theorem f82.nat {R : Type} (k : Nat) (g : ((Int × ByteArray × ByteArray × Int × Int × Int × Int × Bool × Bool × (List Int) × (List Int) × Int × Int) ⊕ (Int × ByteArray × ByteArray × Int × Int × Int × Int × Bool × Bool × (List Int) × Int × Int)) → Option R) (xs1 : List Int) (a2 : Int) (a3 : Int) : f82.step k g xs1 a2 a3 = (f82 k xs1 a2 a3).bind g := by
  simp only [f82, f82.step, bind_ite, bind_sum, Option.bind_assoc, Option.bind_some, Option.bind_none]
theorem f82.ev (k : Nat) (xs1 : List Int) (a2 : Int) (a3 : Int) : evF (f82.X k) (bodyOf Try.f82) Try.f82.ntmps Try.f82.results.toList [.v (.ptr [.sl 5 xs1, .s (.int .i64 a2), .s (.int .i64 a3)])] = f82.step k (fun x => f82.w x some) xs1 a2 a3 := by kernel_rfl
theorem f82.hok (k : Nat) : HOK (f82.X k) (bodyOf Try.f82) where
  l := allP_mem (by exact trivial)
  j := allP_mem (by exact trivial)
theorem f82.sound0 (k : Nat) : SoundC env Try.prog 82 (f82.hd k) := by
  intro ps_
  show GoodC _ _ _ ps_ (f82.hd k ps_)
  unfold f82.hd
  refine gC_ok (p := GoodC env Try.prog 82 _) goodC_no fun _ _ h => ?_
  subst h
  refine qP_ok (p := GoodC env Try.prog 82 _) goodC_no fun _ h => ?_
  subst h
  refine gC_ok (p := GoodC env Try.prog 82 _) goodC_no fun _ _ h => ?_
  subst h
  refine qSl_ok (p := GoodC env Try.prog 82 _) goodC_no fun _ h => ?_
  subst h
  refine gC_ok (p := GoodC env Try.prog 82 _) goodC_no fun _ _ h => ?_
  subst h
  refine qS_ok (p := GoodC env Try.prog 82 _) goodC_no fun _ h => ?_
  subst h
  refine vI_ok (p := GoodC env Try.prog 82 _) goodC_no fun _ h => ?_
  subst h
  refine gC_ok (p := GoodC env Try.prog 82 _) goodC_no fun _ _ h => ?_
  subst h
  refine qS_ok (p := GoodC env Try.prog 82 _) goodC_no fun _ h => ?_
  subst h
  refine vI_ok (p := GoodC env Try.prog 82 _) goodC_no fun _ h => ?_
  subst h
  refine gE_ok (p := GoodC env Try.prog 82 _) goodC_no fun h => ?_
  subst h
  refine gE_ok (p := GoodC env Try.prog 82 _) goodC_no fun h => ?_
  subst h
  exact fun_good (fun_sound envOK (cs_sound _ (by exact ⟨⟨f144.sound k, f144.fnok⟩, ⟨f145.sound k, f145.fnok⟩, trivial⟩)) (f82.hok k) Try.func82 rfl) ((f82.ev k _ _ _).trans (f82.nat k _ _ _ _))
theorem f82.sound (k : Nat) : SoundC env Try.prog 82 (f82.e k).F := soundC_coer (f82.sound0 k) [[.rd 5, .no, .no]]
theorem f82.fnok : FnOK Try.prog 82 := fn_ok Try.func82 (by kernel_rfl) rfl
def f146.step {R : Type} (k : Nat) (ret : (Int × ByteArray × ByteArray × Int × Int × Int × Int × Bool × Bool × (List Int)) → Option R) (a1 : Int) (s2 : ByteArray) (s3 : ByteArray) (a4 : Int) (a5 : Int) (a6 : Int) (a7 : Int) (b8 : Bool) (b9 : Bool) (xs10 : List Int) : Option R :=
  if (List.length ([] : List Int) + List.length xs10) * 1 ≤ maxN then
    ret (a1, s2, s3, a4, a5, a6, a7, b8, b9, (([] : List Int) ++ xs10))
  else none
def f146 (k : Nat) (a1 : Int) (s2 : ByteArray) (s3 : ByteArray) (a4 : Int) (a5 : Int) (a6 : Int) (a7 : Int) (b8 : Bool) (b9 : Bool) (xs10 : List Int) : Option (Int × ByteArray × ByteArray × Int × Int × Int × Int × Bool × Bool × (List Int)) := f146.step k some a1 s2 s3 a4 a5 a6 a7 b8 b9 xs10
def f146.w {R : Type} : (Int × ByteArray × ByteArray × Int × Int × Int × Int × Bool × Bool × (List Int)) → (Res env → Option R) → Option R := fun t11 K => K ⟨.v (.g [.s (.int .i64 t11.1), .s (.string t11.2.1), .s (.string t11.2.2.1), .s (.int .i64 t11.2.2.2.1), .s (.int .i64 t11.2.2.2.2.1), .s (.int .i64 t11.2.2.2.2.2.1), .s (.int .i64 t11.2.2.2.2.2.2.1), .s (.bool t11.2.2.2.2.2.2.2.1), .s (.bool t11.2.2.2.2.2.2.2.2.1), .own true 5 t11.2.2.2.2.2.2.2.2.2]), [[]]⟩
theorem f146.wn (x : (Int × ByteArray × ByteArray × Int × Int × Int × Int × Bool × Bool × (List Int))) : ∃ res, ∀ {R : Type} (K : Res env → Option R), f146.w x K = K res := by
  exact ⟨_, fun _ => rfl⟩
def f146.hd (k : Nat) (ps_ : List (P2 env)) : Cl env :=
  gC Cl.no ps_ fun p_ ps_ => qG Cl.no p_ fun cs_ => gC Cl.no cs_ fun c_ cs_ => qS Cl.no c_ fun v_ => vI Cl.no .i64 v_ fun a1 => gC Cl.no cs_ fun c_ cs_ => qS Cl.no c_ fun v_ => vS Cl.no v_ fun s2 => gC Cl.no cs_ fun c_ cs_ => qS Cl.no c_ fun v_ => vS Cl.no v_ fun s3 => gC Cl.no cs_ fun c_ cs_ => qS Cl.no c_ fun v_ => vI Cl.no .i64 v_ fun a4 => gC Cl.no cs_ fun c_ cs_ => qS Cl.no c_ fun v_ => vI Cl.no .i64 v_ fun a5 => gC Cl.no cs_ fun c_ cs_ => qS Cl.no c_ fun v_ => vI Cl.no .i64 v_ fun a6 => gC Cl.no cs_ fun c_ cs_ => qS Cl.no c_ fun v_ => vI Cl.no .i64 v_ fun a7 => gC Cl.no cs_ fun c_ cs_ => qS Cl.no c_ fun v_ => vB Cl.no v_ fun b8 => gC Cl.no cs_ fun c_ cs_ => qS Cl.no c_ fun v_ => vB Cl.no v_ fun b9 => gC Cl.no cs_ fun c_ cs_ => qSl Cl.no 5 c_ fun xs10 => gE Cl.no cs_ <| gE Cl.no ps_ <| { α := Int × ByteArray × ByteArray × Int × Int × Int × Int × Bool × Bool × (List Int), o := f146 k a1 s2 s3 a4 a5 a6 a7 b8 b9 xs10, w := f146.w, nat := fun x _ => f146.wn x }
def f146.e (k : Nat) : Entry env := ⟨fun ps => f146.hd k (coer [[.no, .no, .no, .no, .no, .no, .no, .no, .no, .rd 5]] ps), [], []⟩
def f146.X (k : Nat) : Ctx env := { C := lookE [], L := lookE [], J := lookE [], keep := lookD [], keepX := lookD [], span := lookN [], eff := fun n => memN n [], prep := lookP [], np := 0 }
theorem f146.nat {R : Type} (k : Nat) (g : (Int × ByteArray × ByteArray × Int × Int × Int × Int × Bool × Bool × (List Int)) → Option R) (a1 : Int) (s2 : ByteArray) (s3 : ByteArray) (a4 : Int) (a5 : Int) (a6 : Int) (a7 : Int) (b8 : Bool) (b9 : Bool) (xs10 : List Int) : f146.step k g a1 s2 s3 a4 a5 a6 a7 b8 b9 xs10 = (f146 k a1 s2 s3 a4 a5 a6 a7 b8 b9 xs10).bind g := by
  simp only [f146, f146.step, bind_ite, bind_sum, Option.bind_assoc, Option.bind_some, Option.bind_none]
theorem f146.ev (k : Nat) (a1 : Int) (s2 : ByteArray) (s3 : ByteArray) (a4 : Int) (a5 : Int) (a6 : Int) (a7 : Int) (b8 : Bool) (b9 : Bool) (xs10 : List Int) : evF (f146.X k) (bodyOf Try.f146) Try.f146.ntmps Try.f146.results.toList [.g [.s (.int .i64 a1), .s (.string s2), .s (.string s3), .s (.int .i64 a4), .s (.int .i64 a5), .s (.int .i64 a6), .s (.int .i64 a7), .s (.bool b8), .s (.bool b9), .sl 5 xs10]] = f146.step k (fun x => f146.w x some) a1 s2 s3 a4 a5 a6 a7 b8 b9 xs10 := by kernel_rfl
theorem f146.hok (k : Nat) : HOK (f146.X k) (bodyOf Try.f146) where
  l := allP_mem (by exact trivial)
  j := allP_mem (by exact trivial)
theorem f146.sound0 (k : Nat) : SoundC env Try.prog 146 (f146.hd k) := by
  intro ps_
  show GoodC _ _ _ ps_ (f146.hd k ps_)
  unfold f146.hd
  refine gC_ok (p := GoodC env Try.prog 146 _) goodC_no fun _ _ h => ?_
  subst h
  refine qG_ok (p := GoodC env Try.prog 146 _) goodC_no fun _ h => ?_
  subst h
  refine gC_ok (p := GoodC env Try.prog 146 _) goodC_no fun _ _ h => ?_
  subst h
  refine qS_ok (p := GoodC env Try.prog 146 _) goodC_no fun _ h => ?_
  subst h
  refine vI_ok (p := GoodC env Try.prog 146 _) goodC_no fun _ h => ?_
  subst h
  refine gC_ok (p := GoodC env Try.prog 146 _) goodC_no fun _ _ h => ?_
  subst h
  refine qS_ok (p := GoodC env Try.prog 146 _) goodC_no fun _ h => ?_
  subst h
  refine vS_ok (p := GoodC env Try.prog 146 _) goodC_no fun _ h => ?_
  subst h
  refine gC_ok (p := GoodC env Try.prog 146 _) goodC_no fun _ _ h => ?_
  subst h
  refine qS_ok (p := GoodC env Try.prog 146 _) goodC_no fun _ h => ?_
  subst h
  refine vS_ok (p := GoodC env Try.prog 146 _) goodC_no fun _ h => ?_
  subst h
  refine gC_ok (p := GoodC env Try.prog 146 _) goodC_no fun _ _ h => ?_
  subst h
  refine qS_ok (p := GoodC env Try.prog 146 _) goodC_no fun _ h => ?_
  subst h
  refine vI_ok (p := GoodC env Try.prog 146 _) goodC_no fun _ h => ?_
  subst h
  refine gC_ok (p := GoodC env Try.prog 146 _) goodC_no fun _ _ h => ?_
  subst h
  refine qS_ok (p := GoodC env Try.prog 146 _) goodC_no fun _ h => ?_
  subst h
  refine vI_ok (p := GoodC env Try.prog 146 _) goodC_no fun _ h => ?_
  subst h
  refine gC_ok (p := GoodC env Try.prog 146 _) goodC_no fun _ _ h => ?_
  subst h
  refine qS_ok (p := GoodC env Try.prog 146 _) goodC_no fun _ h => ?_
  subst h
  refine vI_ok (p := GoodC env Try.prog 146 _) goodC_no fun _ h => ?_
  subst h
  refine gC_ok (p := GoodC env Try.prog 146 _) goodC_no fun _ _ h => ?_
  subst h
  refine qS_ok (p := GoodC env Try.prog 146 _) goodC_no fun _ h => ?_
  subst h
  refine vI_ok (p := GoodC env Try.prog 146 _) goodC_no fun _ h => ?_
  subst h
  refine gC_ok (p := GoodC env Try.prog 146 _) goodC_no fun _ _ h => ?_
  subst h
  refine qS_ok (p := GoodC env Try.prog 146 _) goodC_no fun _ h => ?_
  subst h
  refine vB_ok (p := GoodC env Try.prog 146 _) goodC_no fun _ h => ?_
  subst h
  refine gC_ok (p := GoodC env Try.prog 146 _) goodC_no fun _ _ h => ?_
  subst h
  refine qS_ok (p := GoodC env Try.prog 146 _) goodC_no fun _ h => ?_
  subst h
  refine vB_ok (p := GoodC env Try.prog 146 _) goodC_no fun _ h => ?_
  subst h
  refine gC_ok (p := GoodC env Try.prog 146 _) goodC_no fun _ _ h => ?_
  subst h
  refine qSl_ok (p := GoodC env Try.prog 146 _) goodC_no fun _ h => ?_
  subst h
  refine gE_ok (p := GoodC env Try.prog 146 _) goodC_no fun h => ?_
  subst h
  refine gE_ok (p := GoodC env Try.prog 146 _) goodC_no fun h => ?_
  subst h
  exact fun_good (fun_sound envOK (cs_sound _ (by exact trivial)) (f146.hok k) Try.func146 rfl) ((f146.ev k _ _ _ _ _ _ _ _ _ _).trans (f146.nat k _ _ _ _ _ _ _ _ _ _ _))
theorem f146.sound (k : Nat) : SoundC env Try.prog 146 (f146.e k).F := soundC_coer (f146.sound0 k) [[.no, .no, .no, .no, .no, .no, .no, .no, .no, .rd 5]]
theorem f146.says (k : Nat) (a1 : Int) (s2 : ByteArray) (s3 : ByteArray) (a4 : Int) (a5 : Int) (a6 : Int) (a7 : Int) (b8 : Bool) (b9 : Bool) (xs10 : List Int) (t12 : Int × ByteArray × ByteArray × Int × Int × Int × Int × Bool × Bool × (List Int)) (h_ : f146 k a1 s2 s3 a4 a5 a6 a7 b8 b9 xs10 = some t12) : SoundAt env Try.prog 146 [.g [.s (.int .i64 a1), .s (.string s2), .s (.string s3), .s (.int .i64 a4), .s (.int .i64 a5), .s (.int .i64 a6), .s (.int .i64 a7), .s (.bool b8), .s (.bool b9), .sl 5 xs10]] ⟨.v (.g [.s (.int .i64 t12.1), .s (.string t12.2.1), .s (.string t12.2.2.1), .s (.int .i64 t12.2.2.2.1), .s (.int .i64 t12.2.2.2.2.1), .s (.int .i64 t12.2.2.2.2.2.1), .s (.int .i64 t12.2.2.2.2.2.2.1), .s (.bool t12.2.2.2.2.2.2.2.1), .s (.bool t12.2.2.2.2.2.2.2.2.1), .own true 5 t12.2.2.2.2.2.2.2.2.2]), [[]]⟩ :=
  fun_sound envOK (cs_sound _ (by exact trivial)) (f146.hok k) Try.func146 rfl _ _ (((f146.ev k a1 s2 s3 a4 a5 a6 a7 b8 b9 xs10).trans (f146.nat k _ a1 s2 s3 a4 a5 a6 a7 b8 b9 xs10)).trans (by rw [h_]; rfl))
theorem f146.fnok : FnOK Try.prog 146 := fn_ok Try.func146 (by kernel_rfl) rfl
def f87.l6.step {R : Type} (k : Nat) (rec_ : Int → Int → Int → Int → ByteArray → ByteArray → Int → Int → Int → Int → Bool → Bool → (List Int) → (List S24) → Option R) (ret : ((List S24)) → Option R) (a13 : Int) (a14 : Int) (a15 : Int) (a16 : Int) (s17 : ByteArray) (s18 : ByteArray) (a19 : Int) (a20 : Int) (a21 : Int) (a22 : Int) (b23 : Bool) (b24 : Bool) (xs25 : List Int) (xs26 : List S24) : Option R :=
  if (decide (a15 < (((List.length xs25) : Nat) : Int))) = true then
    if (decide ((IntKind.i64.wrap ((((List.length xs25) : Nat) : Int) - a15)) ≤ (IntKind.i64.wrap (a13 - (20 : Int))))) = true then
      if (0 : Int) ≤ a15 then
        if a15 ≤ (((List.length xs25) : Nat) : Int) then
          if (((List.length xs25) : Nat) : Int) ≤ ((List.length xs25 : Nat) : Int) then
            if (List.length ([] : List Int) + List.length (List.drop (Int.toNat a15) (List.take (Int.toNat (((List.length xs25) : Nat) : Int)) xs25))) * 1 ≤ maxN then
              if b23 = false then
                if (List.length xs26 + List.length ([(⟨a16, s17, s18, a19, a20, a21, (IntKind.i64.wrap (a22 + (IntKind.i64.wrap (Int.tdiv a15 (8 : Int))))), (decide ((((List.length xs25) : Nat) : Int) < (((List.length xs25) : Nat) : Int))), b24, (([] : List Int) ++ (List.drop (Int.toNat a15) (List.take (Int.toNat (((List.length xs25) : Nat) : Int)) xs25)))⟩ : S24)] : List S24)) * 104 ≤ maxN then
                  rec_ a13 (IntKind.i64.wrap ((((List.length xs25) : Nat) : Int) - a15)) (IntKind.i64.wrap (a15 + (IntKind.i64.wrap ((((List.length xs25) : Nat) : Int) - a15)))) a16 s17 s18 a19 a20 a21 a22 b23 b24 xs25 (xs26 ++ ([(⟨a16, s17, s18, a19, a20, a21, (IntKind.i64.wrap (a22 + (IntKind.i64.wrap (Int.tdiv a15 (8 : Int))))), (decide ((((List.length xs25) : Nat) : Int) < (((List.length xs25) : Nat) : Int))), b24, (([] : List Int) ++ (List.drop (Int.toNat a15) (List.take (Int.toNat (((List.length xs25) : Nat) : Int)) xs25)))⟩ : S24)] : List S24))
                else none
              else
                if (List.length xs26 + List.length ([(⟨a16, s17, s18, a19, a20, a21, (IntKind.i64.wrap (a22 + (IntKind.i64.wrap (Int.tdiv a15 (8 : Int))))), true, b24, (([] : List Int) ++ (List.drop (Int.toNat a15) (List.take (Int.toNat (((List.length xs25) : Nat) : Int)) xs25)))⟩ : S24)] : List S24)) * 104 ≤ maxN then
                  rec_ a13 (IntKind.i64.wrap ((((List.length xs25) : Nat) : Int) - a15)) (IntKind.i64.wrap (a15 + (IntKind.i64.wrap ((((List.length xs25) : Nat) : Int) - a15)))) a16 s17 s18 a19 a20 a21 a22 b23 b24 xs25 (xs26 ++ ([(⟨a16, s17, s18, a19, a20, a21, (IntKind.i64.wrap (a22 + (IntKind.i64.wrap (Int.tdiv a15 (8 : Int))))), true, b24, (([] : List Int) ++ (List.drop (Int.toNat a15) (List.take (Int.toNat (((List.length xs25) : Nat) : Int)) xs25)))⟩ : S24)] : List S24))
                else none
            else none
          else none
        else none
      else none
    else
      if (0 : Int) ≤ a15 then
        if a15 ≤ (if (((List.length xs25) : Nat) : Int) < (IntKind.i64.wrap (a15 + a14)) then (((List.length xs25) : Nat) : Int) else (IntKind.i64.wrap (a15 + a14))) then
          if (if (((List.length xs25) : Nat) : Int) < (IntKind.i64.wrap (a15 + a14)) then (((List.length xs25) : Nat) : Int) else (IntKind.i64.wrap (a15 + a14))) ≤ ((List.length xs25 : Nat) : Int) then
            if (List.length ([] : List Int) + List.length (List.drop (Int.toNat a15) (List.take (Int.toNat (if (((List.length xs25) : Nat) : Int) < (IntKind.i64.wrap (a15 + a14)) then (((List.length xs25) : Nat) : Int) else (IntKind.i64.wrap (a15 + a14)))) xs25))) * 1 ≤ maxN then
              if b23 = false then
                if (List.length xs26 + List.length ([(⟨a16, s17, s18, a19, a20, a21, (IntKind.i64.wrap (a22 + (IntKind.i64.wrap (Int.tdiv a15 (8 : Int))))), (decide ((if (((List.length xs25) : Nat) : Int) < (IntKind.i64.wrap (a15 + a14)) then (((List.length xs25) : Nat) : Int) else (IntKind.i64.wrap (a15 + a14))) < (((List.length xs25) : Nat) : Int))), b24, (([] : List Int) ++ (List.drop (Int.toNat a15) (List.take (Int.toNat (if (((List.length xs25) : Nat) : Int) < (IntKind.i64.wrap (a15 + a14)) then (((List.length xs25) : Nat) : Int) else (IntKind.i64.wrap (a15 + a14)))) xs25)))⟩ : S24)] : List S24)) * 104 ≤ maxN then
                  rec_ a13 a14 (IntKind.i64.wrap (a15 + a14)) a16 s17 s18 a19 a20 a21 a22 b23 b24 xs25 (xs26 ++ ([(⟨a16, s17, s18, a19, a20, a21, (IntKind.i64.wrap (a22 + (IntKind.i64.wrap (Int.tdiv a15 (8 : Int))))), (decide ((if (((List.length xs25) : Nat) : Int) < (IntKind.i64.wrap (a15 + a14)) then (((List.length xs25) : Nat) : Int) else (IntKind.i64.wrap (a15 + a14))) < (((List.length xs25) : Nat) : Int))), b24, (([] : List Int) ++ (List.drop (Int.toNat a15) (List.take (Int.toNat (if (((List.length xs25) : Nat) : Int) < (IntKind.i64.wrap (a15 + a14)) then (((List.length xs25) : Nat) : Int) else (IntKind.i64.wrap (a15 + a14)))) xs25)))⟩ : S24)] : List S24))
                else none
              else
                if (List.length xs26 + List.length ([(⟨a16, s17, s18, a19, a20, a21, (IntKind.i64.wrap (a22 + (IntKind.i64.wrap (Int.tdiv a15 (8 : Int))))), true, b24, (([] : List Int) ++ (List.drop (Int.toNat a15) (List.take (Int.toNat (if (((List.length xs25) : Nat) : Int) < (IntKind.i64.wrap (a15 + a14)) then (((List.length xs25) : Nat) : Int) else (IntKind.i64.wrap (a15 + a14)))) xs25)))⟩ : S24)] : List S24)) * 104 ≤ maxN then
                  rec_ a13 a14 (IntKind.i64.wrap (a15 + a14)) a16 s17 s18 a19 a20 a21 a22 b23 b24 xs25 (xs26 ++ ([(⟨a16, s17, s18, a19, a20, a21, (IntKind.i64.wrap (a22 + (IntKind.i64.wrap (Int.tdiv a15 (8 : Int))))), true, b24, (([] : List Int) ++ (List.drop (Int.toNat a15) (List.take (Int.toNat (if (((List.length xs25) : Nat) : Int) < (IntKind.i64.wrap (a15 + a14)) then (((List.length xs25) : Nat) : Int) else (IntKind.i64.wrap (a15 + a14)))) xs25)))⟩ : S24)] : List S24))
                else none
            else none
          else none
        else none
      else none
  else
    ret xs26
def f87.l6 (k : Nat) : Nat → Int → Int → Int → Int → ByteArray → ByteArray → Int → Int → Int → Int → Bool → Bool → (List Int) → (List S24) → Option ((List S24))
  | 0, _, _, _, _, _, _, _, _, _, _, _, _, _, _ => none
  | j + 1, a13, a14, a15, a16, s17, s18, a19, a20, a21, a22, b23, b24, xs25, xs26 => f87.l6.step k (fun a13 a14 a15 a16 s17 s18 a19 a20 a21 a22 b23 b24 xs25 xs26 => f87.l6 k j a13 a14 a15 a16 s17 s18 a19 a20 a21 a22 b23 b24 xs25 xs26) some a13 a14 a15 a16 s17 s18 a19 a20 a21 a22 b23 b24 xs25 xs26
def f87.l6.w {R : Type} : ((List S24)) → (Exit → St env → Option R) → Option R := fun t28 K => K (.exit 0) ⟨fullT [6] 0 85 [.v (.c (.row 210))], [(210, .row true 24 t28)], 1378⟩
def f87.l6.st (a13 : Int) (a14 : Int) (a15 : Int) (a16 : Int) (s17 : ByteArray) (s18 : ByteArray) (a19 : Int) (a20 : Int) (a21 : Int) (a22 : Int) (b23 : Bool) (b24 : Bool) (xs25 : List Int) (xs26 : List S24) : St env := ⟨fullT [1, 2, 5, 6, 7] 0 85 [.v (.c (.s (.int .i64 a13))), .v (.c (.bp 2 0)), .v (.c (.s (.int .i64 a14))), .v (.c (.row 210)), .v (.c (.s (.int .i64 a15)))], [(2, .box [.s (.int .i64 a16), .s (.string s17), .s (.string s18), .s (.int .i64 a19), .s (.int .i64 a20), .s (.int .i64 a21), .s (.int .i64 a22), .s (.bool b23), .s (.bool b24), .imm 5 xs25]), (210, .row true 24 xs26)], 258⟩
def f87.l6.hd (k : Nat) (ts_ : List (AV env)) (mm_ : Mem env) (n_ : Nat) : LCl env :=
  gTs LCl.no [1, 2, 5, 6, 7] 85 ts_ fun l_ => gV LCl.no l_ fun a_ l_ => rV LCl.no a_ fun v_ => vI LCl.no .i64 v_ fun a13 => gV LCl.no l_ fun a_ l_ => rBp LCl.no 2 0 a_ <| gV LCl.no l_ fun a_ l_ => rV LCl.no a_ fun v_ => vI LCl.no .i64 v_ fun a14 => gV LCl.no l_ fun a_ l_ => rRow LCl.no 210 a_ <| gV LCl.no l_ fun a_ l_ => rV LCl.no a_ fun v_ => vI LCl.no .i64 v_ fun a15 => gE LCl.no l_ <| mBox LCl.no 2 mm_ fun c_ m_ => gC LCl.no c_ fun a_ c_ => rV LCl.no a_ fun v_ => vI LCl.no .i64 v_ fun a16 => gC LCl.no c_ fun a_ c_ => rV LCl.no a_ fun v_ => vS LCl.no v_ fun s17 => gC LCl.no c_ fun a_ c_ => rV LCl.no a_ fun v_ => vS LCl.no v_ fun s18 => gC LCl.no c_ fun a_ c_ => rV LCl.no a_ fun v_ => vI LCl.no .i64 v_ fun a19 => gC LCl.no c_ fun a_ c_ => rV LCl.no a_ fun v_ => vI LCl.no .i64 v_ fun a20 => gC LCl.no c_ fun a_ c_ => rV LCl.no a_ fun v_ => vI LCl.no .i64 v_ fun a21 => gC LCl.no c_ fun a_ c_ => rV LCl.no a_ fun v_ => vI LCl.no .i64 v_ fun a22 => gC LCl.no c_ fun a_ c_ => rV LCl.no a_ fun v_ => vB LCl.no v_ fun b23 => gC LCl.no c_ fun a_ c_ => rV LCl.no a_ fun v_ => vB LCl.no v_ fun b24 => gC LCl.no c_ fun a_ c_ => rImm LCl.no 5 a_ fun xs25 => gE LCl.no c_ <| mRow LCl.no 210 true 24 m_ fun xs26 m_ => gE LCl.no m_ <| gN LCl.no 258 n_ { α := (List S24), o := f87.l6 k k a13 a14 a15 a16 s17 s18 a19 a20 a21 a22 b23 b24 xs25 xs26, w := f87.l6.w }
def f87.step {R : Type} (k : Nat) (ret : ((List S24)) → Option R) (a1 : Int) (s2 : ByteArray) (s3 : ByteArray) (a4 : Int) (a5 : Int) (a6 : Int) (a7 : Int) (b8 : Bool) (b9 : Bool) (xs10 : List Int) (a11 : Int) : Option R :=
  if (decide ((IntKind.i64.wrap ((20 : Int) + (((List.length xs10) : Nat) : Int))) ≤ a11)) = true then
    (f146 k a1 s2 s3 a4 a5 a6 a7 b8 b9 xs10).bind fun t12 => ret ([(⟨t12.1, t12.2.1, t12.2.2.1, t12.2.2.2.1, t12.2.2.2.2.1, t12.2.2.2.2.2.1, t12.2.2.2.2.2.2.1, t12.2.2.2.2.2.2.2.1, t12.2.2.2.2.2.2.2.2.1, t12.2.2.2.2.2.2.2.2.2⟩ : S24)] : List S24)
  else
    (f87.l6 k k a11 (IntKind.i64.wrap ((IntKind.i64.wrap (Int.tdiv (IntKind.i64.wrap (a11 - (20 : Int))) (8 : Int))) * (8 : Int))) (0 : Int) a1 s2 s3 a4 a5 a6 a7 b8 b9 xs10 ([] : List S24)).bind fun t27 => ret t27
def f87 (k : Nat) (a1 : Int) (s2 : ByteArray) (s3 : ByteArray) (a4 : Int) (a5 : Int) (a6 : Int) (a7 : Int) (b8 : Bool) (b9 : Bool) (xs10 : List Int) (a11 : Int) : Option ((List S24)) := f87.step k some a1 s2 s3 a4 a5 a6 a7 b8 b9 xs10 a11
def f87.w {R : Type} : ((List S24)) → (Res env → Option R) → Option R := fun t29 K => K ⟨.v (.c (.own true 24 t29)), [[], []]⟩
theorem f87.wn (x : ((List S24))) : ∃ res, ∀ {R : Type} (K : Res env → Option R), f87.w x K = K res := by
  exact ⟨_, fun _ => rfl⟩
def f87.hd (k : Nat) (ps_ : List (P2 env)) : Cl env :=
  gC Cl.no ps_ fun p_ ps_ => qG Cl.no p_ fun cs_ => gC Cl.no cs_ fun c_ cs_ => qS Cl.no c_ fun v_ => vI Cl.no .i64 v_ fun a1 => gC Cl.no cs_ fun c_ cs_ => qS Cl.no c_ fun v_ => vS Cl.no v_ fun s2 => gC Cl.no cs_ fun c_ cs_ => qS Cl.no c_ fun v_ => vS Cl.no v_ fun s3 => gC Cl.no cs_ fun c_ cs_ => qS Cl.no c_ fun v_ => vI Cl.no .i64 v_ fun a4 => gC Cl.no cs_ fun c_ cs_ => qS Cl.no c_ fun v_ => vI Cl.no .i64 v_ fun a5 => gC Cl.no cs_ fun c_ cs_ => qS Cl.no c_ fun v_ => vI Cl.no .i64 v_ fun a6 => gC Cl.no cs_ fun c_ cs_ => qS Cl.no c_ fun v_ => vI Cl.no .i64 v_ fun a7 => gC Cl.no cs_ fun c_ cs_ => qS Cl.no c_ fun v_ => vB Cl.no v_ fun b8 => gC Cl.no cs_ fun c_ cs_ => qS Cl.no c_ fun v_ => vB Cl.no v_ fun b9 => gC Cl.no cs_ fun c_ cs_ => qSl Cl.no 5 c_ fun xs10 => gE Cl.no cs_ <| gC Cl.no ps_ fun p_ ps_ => qC Cl.no p_ fun c_ => qS Cl.no c_ fun v_ => vI Cl.no .i64 v_ fun a11 => gE Cl.no ps_ <| { α := (List S24), o := f87 k a1 s2 s3 a4 a5 a6 a7 b8 b9 xs10 a11, w := f87.w, nat := fun x _ => f87.wn x }
def f87.e (k : Nat) : Entry env := ⟨fun ps => f87.hd k (coer [[.no, .no, .no, .no, .no, .no, .no, .no, .no, .rd 5], [.no]] ps), [], []⟩
def f87.X (k : Nat) : Ctx env := { C := lookE [(146, f146.e k)], L := lookE [(6, fun S => f87.l6.hd k S.ts S.m S.n)], J := lookE [], keep := lookD [(6, [1, 2, 5, 6, 7])], keepX := lookD [(6, [6])], span := lookN [(6, 1120)], eff := fun n => memN n [], prep := lookP [], np := 0 }
theorem f87.l6.nat {R : Type} (k : Nat) (rec_ : Int → Int → Int → Int → ByteArray → ByteArray → Int → Int → Int → Int → Bool → Bool → (List Int) → (List S24) → Option ((List S24))) (g : ((List S24)) → Option R) (a13 : Int) (a14 : Int) (a15 : Int) (a16 : Int) (s17 : ByteArray) (s18 : ByteArray) (a19 : Int) (a20 : Int) (a21 : Int) (a22 : Int) (b23 : Bool) (b24 : Bool) (xs25 : List Int) (xs26 : List S24) : (f87.l6.step k rec_ some a13 a14 a15 a16 s17 s18 a19 a20 a21 a22 b23 b24 xs25 xs26).bind g = f87.l6.step k (fun a13 a14 a15 a16 s17 s18 a19 a20 a21 a22 b23 b24 xs25 xs26 => (rec_ a13 a14 a15 a16 s17 s18 a19 a20 a21 a22 b23 b24 xs25 xs26).bind g) g a13 a14 a15 a16 s17 s18 a19 a20 a21 a22 b23 b24 xs25 xs26 := by
  simp only [f87.l6.step, bind_ite, bind_sum, Option.bind_assoc, Option.bind_some, Option.bind_none]
theorem f87.l6.good (k : Nat) (a13 : Int) (a14 : Int) (a15 : Int) (a16 : Int) (s17 : ByteArray) (s18 : ByteArray) (a19 : Int) (a20 : Int) (a21 : Int) (a22 : Int) (b23 : Bool) (b24 : Bool) (xs25 : List Int) (xs26 : List S24) : GoodL (f87.X k) (nthC 0 (loopsOf (bodyOf Try.f87))) (f87.l6.st a13 a14 a15 a16 s17 s18 a19 a20 a21 a22 b23 b24 xs25 xs26) { α := ((List S24)), o := f87.l6 k k a13 a14 a15 a16 s17 s18 a19 a20 a21 a22 b23 b24 xs25 xs26, w := f87.l6.w } :=
  loop_good (ι := Int × Int × Int × Int × ByteArray × ByteArray × Int × Int × Int × Int × Bool × Bool × (List Int) × (List S24)) (α := ((List S24))) (fun i => f87.l6.st i.1 i.2.1 i.2.2.1 i.2.2.2.1 i.2.2.2.2.1 i.2.2.2.2.2.1 i.2.2.2.2.2.2.1 i.2.2.2.2.2.2.2.1 i.2.2.2.2.2.2.2.2.1 i.2.2.2.2.2.2.2.2.2.1 i.2.2.2.2.2.2.2.2.2.2.1 i.2.2.2.2.2.2.2.2.2.2.2.1 i.2.2.2.2.2.2.2.2.2.2.2.2.1 i.2.2.2.2.2.2.2.2.2.2.2.2.2) (fun j i => f87.l6 k j i.1 i.2.1 i.2.2.1 i.2.2.2.1 i.2.2.2.2.1 i.2.2.2.2.2.1 i.2.2.2.2.2.2.1 i.2.2.2.2.2.2.2.1 i.2.2.2.2.2.2.2.2.1 i.2.2.2.2.2.2.2.2.2.1 i.2.2.2.2.2.2.2.2.2.2.1 i.2.2.2.2.2.2.2.2.2.2.2.1 i.2.2.2.2.2.2.2.2.2.2.2.2.1 i.2.2.2.2.2.2.2.2.2.2.2.2.2) f87.l6.w (fun rec_ ret i => f87.l6.step k (fun a13 a14 a15 a16 s17 s18 a19 a20 a21 a22 b23 b24 xs25 xs26 => rec_ (a13, a14, a15, a16, s17, s18, a19, a20, a21, a22, b23, b24, xs25, xs26)) ret i.1 i.2.1 i.2.2.1 i.2.2.2.1 i.2.2.2.2.1 i.2.2.2.2.2.1 i.2.2.2.2.2.2.1 i.2.2.2.2.2.2.2.1 i.2.2.2.2.2.2.2.2.1 i.2.2.2.2.2.2.2.2.2.1 i.2.2.2.2.2.2.2.2.2.2.1 i.2.2.2.2.2.2.2.2.2.2.2.1 i.2.2.2.2.2.2.2.2.2.2.2.2.1 i.2.2.2.2.2.2.2.2.2.2.2.2.2)
    (fun _ => rfl) (fun _ _ => rfl) (fun rec_ g i => f87.l6.nat k _ g i.1 i.2.1 i.2.2.1 i.2.2.2.1 i.2.2.2.2.1 i.2.2.2.2.2.1 i.2.2.2.2.2.2.1 i.2.2.2.2.2.2.2.1 i.2.2.2.2.2.2.2.2.1 i.2.2.2.2.2.2.2.2.2.1 i.2.2.2.2.2.2.2.2.2.2.1 i.2.2.2.2.2.2.2.2.2.2.2.1 i.2.2.2.2.2.2.2.2.2.2.2.2.1 i.2.2.2.2.2.2.2.2.2.2.2.2.2) (fun {R} i0 i rec_ K => by kernel_rfl) k (a13, a14, a15, a16, s17, s18, a19, a20, a21, a22, b23, b24, xs25, xs26)
theorem f87.l6.all (k : Nat) (S : St env) : GoodL (f87.X k) (nthC 0 (loopsOf (bodyOf Try.f87))) S (f87.l6.hd k S.ts S.m S.n) := by
  obtain ⟨ts_, m_, n_⟩ := S
  show GoodL _ _ _ (f87.l6.hd k ts_ m_ n_)
  unfold f87.l6.hd
  refine gTs_ok (p := GoodL _ _ _) goodL_no fun _ h => ?_
  subst h
  refine gV_ok (p := GoodL _ _ _) goodL_no fun _ _ h => ?_
  subst h
  refine rV_ok (p := GoodL _ _ _) goodL_no fun _ h => ?_
  subst h
  refine vI_ok (p := GoodL _ _ _) goodL_no fun _ h => ?_
  subst h
  refine gV_ok (p := GoodL _ _ _) goodL_no fun _ _ h => ?_
  subst h
  refine rBp_ok (p := GoodL _ _ _) goodL_no fun h => ?_
  subst h
  refine gV_ok (p := GoodL _ _ _) goodL_no fun _ _ h => ?_
  subst h
  refine rV_ok (p := GoodL _ _ _) goodL_no fun _ h => ?_
  subst h
  refine vI_ok (p := GoodL _ _ _) goodL_no fun _ h => ?_
  subst h
  refine gV_ok (p := GoodL _ _ _) goodL_no fun _ _ h => ?_
  subst h
  refine rRow_ok (p := GoodL _ _ _) goodL_no fun h => ?_
  subst h
  refine gV_ok (p := GoodL _ _ _) goodL_no fun _ _ h => ?_
  subst h
  refine rV_ok (p := GoodL _ _ _) goodL_no fun _ h => ?_
  subst h
  refine vI_ok (p := GoodL _ _ _) goodL_no fun _ h => ?_
  subst h
  refine gE_ok (p := GoodL _ _ _) goodL_no fun h => ?_
  subst h
  refine mBox_ok (p := GoodL _ _ _) goodL_no fun _ _ h => ?_
  subst h
  refine gC_ok (p := GoodL _ _ _) goodL_no fun _ _ h => ?_
  subst h
  refine rV_ok (p := GoodL _ _ _) goodL_no fun _ h => ?_
  subst h
  refine vI_ok (p := GoodL _ _ _) goodL_no fun _ h => ?_
  subst h
  refine gC_ok (p := GoodL _ _ _) goodL_no fun _ _ h => ?_
  subst h
  refine rV_ok (p := GoodL _ _ _) goodL_no fun _ h => ?_
  subst h
  refine vS_ok (p := GoodL _ _ _) goodL_no fun _ h => ?_
  subst h
  refine gC_ok (p := GoodL _ _ _) goodL_no fun _ _ h => ?_
  subst h
  refine rV_ok (p := GoodL _ _ _) goodL_no fun _ h => ?_
  subst h
  refine vS_ok (p := GoodL _ _ _) goodL_no fun _ h => ?_
  subst h
  refine gC_ok (p := GoodL _ _ _) goodL_no fun _ _ h => ?_
  subst h
  refine rV_ok (p := GoodL _ _ _) goodL_no fun _ h => ?_
  subst h
  refine vI_ok (p := GoodL _ _ _) goodL_no fun _ h => ?_
  subst h
  refine gC_ok (p := GoodL _ _ _) goodL_no fun _ _ h => ?_
  subst h
  refine rV_ok (p := GoodL _ _ _) goodL_no fun _ h => ?_
  subst h
  refine vI_ok (p := GoodL _ _ _) goodL_no fun _ h => ?_
  subst h
  refine gC_ok (p := GoodL _ _ _) goodL_no fun _ _ h => ?_
  subst h
  refine rV_ok (p := GoodL _ _ _) goodL_no fun _ h => ?_
  subst h
  refine vI_ok (p := GoodL _ _ _) goodL_no fun _ h => ?_
  subst h
  refine gC_ok (p := GoodL _ _ _) goodL_no fun _ _ h => ?_
  subst h
  refine rV_ok (p := GoodL _ _ _) goodL_no fun _ h => ?_
  subst h
  refine vI_ok (p := GoodL _ _ _) goodL_no fun _ h => ?_
  subst h
  refine gC_ok (p := GoodL _ _ _) goodL_no fun _ _ h => ?_
  subst h
  refine rV_ok (p := GoodL _ _ _) goodL_no fun _ h => ?_
  subst h
  refine vB_ok (p := GoodL _ _ _) goodL_no fun _ h => ?_
  subst h
  refine gC_ok (p := GoodL _ _ _) goodL_no fun _ _ h => ?_
  subst h
  refine rV_ok (p := GoodL _ _ _) goodL_no fun _ h => ?_
  subst h
  refine vB_ok (p := GoodL _ _ _) goodL_no fun _ h => ?_
  subst h
  refine gC_ok (p := GoodL _ _ _) goodL_no fun _ _ h => ?_
  subst h
  refine rImm_ok (p := GoodL _ _ _) goodL_no fun _ h => ?_
  subst h
  refine gE_ok (p := GoodL _ _ _) goodL_no fun h => ?_
  subst h
  refine mRow_ok (p := GoodL _ _ _) goodL_no fun _ _ h => ?_
  subst h
  refine gE_ok (p := GoodL _ _ _) goodL_no fun h => ?_
  subst h
  refine gN_ok (p := GoodL _ _ _) goodL_no fun h => ?_
  subst h
  exact f87.l6.good k _ _ _ _ _ _ _ _ _ _ _ _ _ _
theorem f87.nat {R : Type} (k : Nat) (g : ((List S24)) → Option R) (a1 : Int) (s2 : ByteArray) (s3 : ByteArray) (a4 : Int) (a5 : Int) (a6 : Int) (a7 : Int) (b8 : Bool) (b9 : Bool) (xs10 : List Int) (a11 : Int) : f87.step k g a1 s2 s3 a4 a5 a6 a7 b8 b9 xs10 a11 = (f87 k a1 s2 s3 a4 a5 a6 a7 b8 b9 xs10 a11).bind g := by
  simp only [f87, f87.step, bind_ite, bind_sum, Option.bind_assoc, Option.bind_some, Option.bind_none]
theorem f87.ev (k : Nat) (a1 : Int) (s2 : ByteArray) (s3 : ByteArray) (a4 : Int) (a5 : Int) (a6 : Int) (a7 : Int) (b8 : Bool) (b9 : Bool) (xs10 : List Int) (a11 : Int) : evF (f87.X k) (bodyOf Try.f87) Try.f87.ntmps Try.f87.results.toList [.g [.s (.int .i64 a1), .s (.string s2), .s (.string s3), .s (.int .i64 a4), .s (.int .i64 a5), .s (.int .i64 a6), .s (.int .i64 a7), .s (.bool b8), .s (.bool b9), .sl 5 xs10], .v (.c (.s (.int .i64 a11)))] = f87.step k (fun x => f87.w x some) a1 s2 s3 a4 a5 a6 a7 b8 b9 xs10 a11 := by kernel_rfl
theorem f87.hok (k : Nat) : HOK (f87.X k) (bodyOf Try.f87) where
  l := allP_mem (by exact ⟨ls_of (h0 := fun S => f87.l6.hd k S.ts S.m S.n) (by kernel_rfl) (f87.l6.all k), trivial⟩)
  j := allP_mem (by exact trivial)
theorem f87.sound0 (k : Nat) : SoundC env Try.prog 87 (f87.hd k) := by
  intro ps_
  show GoodC _ _ _ ps_ (f87.hd k ps_)
  unfold f87.hd
  refine gC_ok (p := GoodC env Try.prog 87 _) goodC_no fun _ _ h => ?_
  subst h
  refine qG_ok (p := GoodC env Try.prog 87 _) goodC_no fun _ h => ?_
  subst h
  refine gC_ok (p := GoodC env Try.prog 87 _) goodC_no fun _ _ h => ?_
  subst h
  refine qS_ok (p := GoodC env Try.prog 87 _) goodC_no fun _ h => ?_
  subst h
  refine vI_ok (p := GoodC env Try.prog 87 _) goodC_no fun _ h => ?_
  subst h
  refine gC_ok (p := GoodC env Try.prog 87 _) goodC_no fun _ _ h => ?_
  subst h
  refine qS_ok (p := GoodC env Try.prog 87 _) goodC_no fun _ h => ?_
  subst h
  refine vS_ok (p := GoodC env Try.prog 87 _) goodC_no fun _ h => ?_
  subst h
  refine gC_ok (p := GoodC env Try.prog 87 _) goodC_no fun _ _ h => ?_
  subst h
  refine qS_ok (p := GoodC env Try.prog 87 _) goodC_no fun _ h => ?_
  subst h
  refine vS_ok (p := GoodC env Try.prog 87 _) goodC_no fun _ h => ?_
  subst h
  refine gC_ok (p := GoodC env Try.prog 87 _) goodC_no fun _ _ h => ?_
  subst h
  refine qS_ok (p := GoodC env Try.prog 87 _) goodC_no fun _ h => ?_
  subst h
  refine vI_ok (p := GoodC env Try.prog 87 _) goodC_no fun _ h => ?_
  subst h
  refine gC_ok (p := GoodC env Try.prog 87 _) goodC_no fun _ _ h => ?_
  subst h
  refine qS_ok (p := GoodC env Try.prog 87 _) goodC_no fun _ h => ?_
  subst h
  refine vI_ok (p := GoodC env Try.prog 87 _) goodC_no fun _ h => ?_
  subst h
  refine gC_ok (p := GoodC env Try.prog 87 _) goodC_no fun _ _ h => ?_
  subst h
  refine qS_ok (p := GoodC env Try.prog 87 _) goodC_no fun _ h => ?_
  subst h
  refine vI_ok (p := GoodC env Try.prog 87 _) goodC_no fun _ h => ?_
  subst h
  refine gC_ok (p := GoodC env Try.prog 87 _) goodC_no fun _ _ h => ?_
  subst h
  refine qS_ok (p := GoodC env Try.prog 87 _) goodC_no fun _ h => ?_
  subst h
  refine vI_ok (p := GoodC env Try.prog 87 _) goodC_no fun _ h => ?_
  subst h
  refine gC_ok (p := GoodC env Try.prog 87 _) goodC_no fun _ _ h => ?_
  subst h
  refine qS_ok (p := GoodC env Try.prog 87 _) goodC_no fun _ h => ?_
  subst h
  refine vB_ok (p := GoodC env Try.prog 87 _) goodC_no fun _ h => ?_
  subst h
  refine gC_ok (p := GoodC env Try.prog 87 _) goodC_no fun _ _ h => ?_
  subst h
  refine qS_ok (p := GoodC env Try.prog 87 _) goodC_no fun _ h => ?_
  subst h
  refine vB_ok (p := GoodC env Try.prog 87 _) goodC_no fun _ h => ?_
  subst h
  refine gC_ok (p := GoodC env Try.prog 87 _) goodC_no fun _ _ h => ?_
  subst h
  refine qSl_ok (p := GoodC env Try.prog 87 _) goodC_no fun _ h => ?_
  subst h
  refine gE_ok (p := GoodC env Try.prog 87 _) goodC_no fun h => ?_
  subst h
  refine gC_ok (p := GoodC env Try.prog 87 _) goodC_no fun _ _ h => ?_
  subst h
  refine qC_ok (p := GoodC env Try.prog 87 _) goodC_no fun _ h => ?_
  subst h
  refine qS_ok (p := GoodC env Try.prog 87 _) goodC_no fun _ h => ?_
  subst h
  refine vI_ok (p := GoodC env Try.prog 87 _) goodC_no fun _ h => ?_
  subst h
  refine gE_ok (p := GoodC env Try.prog 87 _) goodC_no fun h => ?_
  subst h
  exact fun_good (fun_sound envOK (cs_sound _ (by exact ⟨⟨f146.sound k, f146.fnok⟩, trivial⟩)) (f87.hok k) Try.func87 rfl) ((f87.ev k _ _ _ _ _ _ _ _ _ _ _).trans (f87.nat k _ _ _ _ _ _ _ _ _ _ _ _))
theorem f87.sound (k : Nat) : SoundC env Try.prog 87 (f87.e k).F := soundC_coer (f87.sound0 k) [[.no, .no, .no, .no, .no, .no, .no, .no, .no, .rd 5], [.no]]
theorem f87.says (k : Nat) (a1 : Int) (s2 : ByteArray) (s3 : ByteArray) (a4 : Int) (a5 : Int) (a6 : Int) (a7 : Int) (b8 : Bool) (b9 : Bool) (xs10 : List Int) (a11 : Int) (t30 : (List S24)) (h_ : f87 k a1 s2 s3 a4 a5 a6 a7 b8 b9 xs10 a11 = some t30) : SoundAt env Try.prog 87 [.g [.s (.int .i64 a1), .s (.string s2), .s (.string s3), .s (.int .i64 a4), .s (.int .i64 a5), .s (.int .i64 a6), .s (.int .i64 a7), .s (.bool b8), .s (.bool b9), .sl 5 xs10], .v (.c (.s (.int .i64 a11)))] ⟨.v (.c (.own true 24 t30)), [[], []]⟩ :=
  fun_sound envOK (cs_sound _ (by exact ⟨⟨f146.sound k, f146.fnok⟩, trivial⟩)) (f87.hok k) Try.func87 rfl _ _ (((f87.ev k a1 s2 s3 a4 a5 a6 a7 b8 b9 xs10 a11).trans (f87.nat k _ a1 s2 s3 a4 a5 a6 a7 b8 b9 xs10 a11)).trans (by rw [h_]; rfl))
theorem f87.fnok : FnOK Try.prog 87 := fn_ok Try.func87 (by kernel_rfl) rfl
def f173.l7.step {R : Type} (k : Nat) (rec_ : Int → Int → (List Int) → Int → Int → (List S24) → (List S24) → Option R) (ret : (Int × (List Int) × Int × Int × (List S24)) → Option R) (a13 : Int) (a14 : Int) (xs15 : List Int) (a16 : Int) (a17 : Int) (xs18 : List S24) (xs19 : List S24) : Option R :=
  if (decide (a14 < (((List.length xs19) : Nat) : Int))) = true then
    if (decide (a14 < (14 : Int))) = true then
      (f145 k xs15 a16 a17 (IntKind.i64.wrap ((((List.length xs18) : Nat) : Int) + (1 : Int)))).bind fun t20 => if (0 : Int) ≤ t20.1 then
          if t20.1 ≤ ((List.length xs18 : Nat) : Int) then
            if (List.length ([] : List S24) + ((Int.toNat t20.1) - 0)) * 104 ≤ maxN then
              if (0 : Int) ≤ a14 then
                if a14 < ((List.length xs19 : Nat) : Int) then
                  if (List.length (([] : List S24) ++ (List.take ((Int.toNat t20.1) - 0) (List.drop 0 xs18))) + List.length ([(⟨(List.getD xs19 (Int.toNat a14) (⟨(0 : Int), ByteArray.empty, ByteArray.empty, (0 : Int), (0 : Int), (0 : Int), (0 : Int), false, false, []⟩ : S24)).f0, (List.getD xs19 (Int.toNat a14) (⟨(0 : Int), ByteArray.empty, ByteArray.empty, (0 : Int), (0 : Int), (0 : Int), (0 : Int), false, false, []⟩ : S24)).f1, (List.getD xs19 (Int.toNat a14) (⟨(0 : Int), ByteArray.empty, ByteArray.empty, (0 : Int), (0 : Int), (0 : Int), (0 : Int), false, false, []⟩ : S24)).f2, (List.getD xs19 (Int.toNat a14) (⟨(0 : Int), ByteArray.empty, ByteArray.empty, (0 : Int), (0 : Int), (0 : Int), (0 : Int), false, false, []⟩ : S24)).f3, (List.getD xs19 (Int.toNat a14) (⟨(0 : Int), ByteArray.empty, ByteArray.empty, (0 : Int), (0 : Int), (0 : Int), (0 : Int), false, false, []⟩ : S24)).f4, (List.getD xs19 (Int.toNat a14) (⟨(0 : Int), ByteArray.empty, ByteArray.empty, (0 : Int), (0 : Int), (0 : Int), (0 : Int), false, false, []⟩ : S24)).f5, (List.getD xs19 (Int.toNat a14) (⟨(0 : Int), ByteArray.empty, ByteArray.empty, (0 : Int), (0 : Int), (0 : Int), (0 : Int), false, false, []⟩ : S24)).f6, (List.getD xs19 (Int.toNat a14) (⟨(0 : Int), ByteArray.empty, ByteArray.empty, (0 : Int), (0 : Int), (0 : Int), (0 : Int), false, false, []⟩ : S24)).f7, (List.getD xs19 (Int.toNat a14) (⟨(0 : Int), ByteArray.empty, ByteArray.empty, (0 : Int), (0 : Int), (0 : Int), (0 : Int), false, false, []⟩ : S24)).f8, (List.getD xs19 (Int.toNat a14) (⟨(0 : Int), ByteArray.empty, ByteArray.empty, (0 : Int), (0 : Int), (0 : Int), (0 : Int), false, false, []⟩ : S24)).f9⟩ : S24)] : List S24)) * 104 ≤ maxN then
                    if (0 : Int) ≤ t20.1 then
                      if t20.1 ≤ ((List.length xs18 : Nat) : Int) then
                        if ((List.length xs18 : Nat) : Int) ≤ ((List.length xs18 : Nat) : Int) then
                          if (List.length ((([] : List S24) ++ (List.take ((Int.toNat t20.1) - 0) (List.drop 0 xs18))) ++ ([(⟨(List.getD xs19 (Int.toNat a14) (⟨(0 : Int), ByteArray.empty, ByteArray.empty, (0 : Int), (0 : Int), (0 : Int), (0 : Int), false, false, []⟩ : S24)).f0, (List.getD xs19 (Int.toNat a14) (⟨(0 : Int), ByteArray.empty, ByteArray.empty, (0 : Int), (0 : Int), (0 : Int), (0 : Int), false, false, []⟩ : S24)).f1, (List.getD xs19 (Int.toNat a14) (⟨(0 : Int), ByteArray.empty, ByteArray.empty, (0 : Int), (0 : Int), (0 : Int), (0 : Int), false, false, []⟩ : S24)).f2, (List.getD xs19 (Int.toNat a14) (⟨(0 : Int), ByteArray.empty, ByteArray.empty, (0 : Int), (0 : Int), (0 : Int), (0 : Int), false, false, []⟩ : S24)).f3, (List.getD xs19 (Int.toNat a14) (⟨(0 : Int), ByteArray.empty, ByteArray.empty, (0 : Int), (0 : Int), (0 : Int), (0 : Int), false, false, []⟩ : S24)).f4, (List.getD xs19 (Int.toNat a14) (⟨(0 : Int), ByteArray.empty, ByteArray.empty, (0 : Int), (0 : Int), (0 : Int), (0 : Int), false, false, []⟩ : S24)).f5, (List.getD xs19 (Int.toNat a14) (⟨(0 : Int), ByteArray.empty, ByteArray.empty, (0 : Int), (0 : Int), (0 : Int), (0 : Int), false, false, []⟩ : S24)).f6, (List.getD xs19 (Int.toNat a14) (⟨(0 : Int), ByteArray.empty, ByteArray.empty, (0 : Int), (0 : Int), (0 : Int), (0 : Int), false, false, []⟩ : S24)).f7, (List.getD xs19 (Int.toNat a14) (⟨(0 : Int), ByteArray.empty, ByteArray.empty, (0 : Int), (0 : Int), (0 : Int), (0 : Int), false, false, []⟩ : S24)).f8, (List.getD xs19 (Int.toNat a14) (⟨(0 : Int), ByteArray.empty, ByteArray.empty, (0 : Int), (0 : Int), (0 : Int), (0 : Int), false, false, []⟩ : S24)).f9⟩ : S24)] : List S24)) + ((Int.toNat ((List.length xs18 : Nat) : Int)) - (Int.toNat t20.1))) * 104 ≤ maxN then
                            rec_ a13 (IntKind.i64.wrap (a14 + (1 : Int))) t20.2.1 t20.2.2.1 t20.2.2.2 (((([] : List S24) ++ (List.take ((Int.toNat t20.1) - 0) (List.drop 0 xs18))) ++ ([(⟨(List.getD xs19 (Int.toNat a14) (⟨(0 : Int), ByteArray.empty, ByteArray.empty, (0 : Int), (0 : Int), (0 : Int), (0 : Int), false, false, []⟩ : S24)).f0, (List.getD xs19 (Int.toNat a14) (⟨(0 : Int), ByteArray.empty, ByteArray.empty, (0 : Int), (0 : Int), (0 : Int), (0 : Int), false, false, []⟩ : S24)).f1, (List.getD xs19 (Int.toNat a14) (⟨(0 : Int), ByteArray.empty, ByteArray.empty, (0 : Int), (0 : Int), (0 : Int), (0 : Int), false, false, []⟩ : S24)).f2, (List.getD xs19 (Int.toNat a14) (⟨(0 : Int), ByteArray.empty, ByteArray.empty, (0 : Int), (0 : Int), (0 : Int), (0 : Int), false, false, []⟩ : S24)).f3, (List.getD xs19 (Int.toNat a14) (⟨(0 : Int), ByteArray.empty, ByteArray.empty, (0 : Int), (0 : Int), (0 : Int), (0 : Int), false, false, []⟩ : S24)).f4, (List.getD xs19 (Int.toNat a14) (⟨(0 : Int), ByteArray.empty, ByteArray.empty, (0 : Int), (0 : Int), (0 : Int), (0 : Int), false, false, []⟩ : S24)).f5, (List.getD xs19 (Int.toNat a14) (⟨(0 : Int), ByteArray.empty, ByteArray.empty, (0 : Int), (0 : Int), (0 : Int), (0 : Int), false, false, []⟩ : S24)).f6, (List.getD xs19 (Int.toNat a14) (⟨(0 : Int), ByteArray.empty, ByteArray.empty, (0 : Int), (0 : Int), (0 : Int), (0 : Int), false, false, []⟩ : S24)).f7, (List.getD xs19 (Int.toNat a14) (⟨(0 : Int), ByteArray.empty, ByteArray.empty, (0 : Int), (0 : Int), (0 : Int), (0 : Int), false, false, []⟩ : S24)).f8, (List.getD xs19 (Int.toNat a14) (⟨(0 : Int), ByteArray.empty, ByteArray.empty, (0 : Int), (0 : Int), (0 : Int), (0 : Int), false, false, []⟩ : S24)).f9⟩ : S24)] : List S24)) ++ (List.take ((Int.toNat ((List.length xs18 : Nat) : Int)) - (Int.toNat t20.1)) (List.drop (Int.toNat t20.1) xs18))) xs19
                          else none
                        else none
                      else none
                    else none
                  else none
                else none
              else none
            else none
          else none
        else none
    else
      ret (a13, xs15, a16, a17, xs18)
  else
    ret (a13, xs15, a16, a17, xs18)
def f173.l7 (k : Nat) : Nat → Int → Int → (List Int) → Int → Int → (List S24) → (List S24) → Option (Int × (List Int) × Int × Int × (List S24))
  | 0, _, _, _, _, _, _, _ => none
  | j + 1, a13, a14, xs15, a16, a17, xs18, xs19 => f173.l7.step k (fun a13 a14 xs15 a16 a17 xs18 xs19 => f173.l7 k j a13 a14 xs15 a16 a17 xs18 xs19) some a13 a14 xs15 a16 a17 xs18 xs19
def f173.l7.w {R : Type} : (Int × (List Int) × Int × Int × (List S24)) → (Exit → St env → Option R) → Option R := fun t27 K => K (.exit 2) ⟨fullT [0, 3, 4] 0 53 [.v (.c (.bp 0 0)), .v (.c (.row 17)), .v (.c (.s (.int .i64 t27.1)))], [(0, .box [.imm 5 t27.2.1, .s (.int .i64 t27.2.2.1), .s (.int .i64 t27.2.2.2.1)]), (17, .row false 24 t27.2.2.2.2)], 801⟩
def f173.l7.st (a13 : Int) (a14 : Int) (xs15 : List Int) (a16 : Int) (a17 : Int) (xs18 : List S24) (xs19 : List S24) : St env := ⟨fullT [0, 3, 4, 5, 6] 0 53 [.v (.c (.bp 0 0)), .v (.c (.row 17)), .v (.c (.s (.int .i64 a13))), .v (.c (.row 225)), .v (.c (.s (.int .i64 a14)))], [(0, .box [.imm 5 xs15, .s (.int .i64 a16), .s (.int .i64 a17)]), (17, .row false 24 xs18), (225, .row false 24 xs19)], 273⟩
def f173.l3.step {R : Type} (k : Nat) (rec_ : Int → (List Int) → Int → Int → (List S24) → Option R) (ret : ((List Int) × Int × Int × (List S24)) → Option R) (a5 : Int) (xs6 : List Int) (a7 : Int) (a8 : Int) (xs9 : List S24) : Option R :=
  if (decide (a5 > (0 : Int))) = true then
    (f82 k xs6 a7 a8).bind (Sum.elim (fun t10 => (f145 k t10.2.2.2.2.2.2.2.2.2.2.1 t10.2.2.2.2.2.2.2.2.2.2.2.1 t10.2.2.2.2.2.2.2.2.2.2.2.2 (200 : Int)).bind fun t11 => (f87 k t10.1 t10.2.1 t10.2.2.1 t10.2.2.2.1 t10.2.2.2.2.1 t10.2.2.2.2.2.1 t10.2.2.2.2.2.2.1 t10.2.2.2.2.2.2.2.1 t10.2.2.2.2.2.2.2.2.1 t10.2.2.2.2.2.2.2.2.2.1 (IntKind.i64.wrap ((28 : Int) + t11.1))).bind fun t12 => (f173.l7 k k a5 (0 : Int) t11.2.1 t11.2.2.1 t11.2.2.2 xs9 t12).bind fun t21 => rec_ (IntKind.i64.wrap (t21.1 - (1 : Int))) t21.2.1 t21.2.2.1 t21.2.2.2.1 t21.2.2.2.2) (fun t22 => (f145 k t22.2.2.2.2.2.2.2.2.2.1 t22.2.2.2.2.2.2.2.2.2.2.1 t22.2.2.2.2.2.2.2.2.2.2.2 (200 : Int)).bind fun t23 => (f87 k t22.1 t22.2.1 t22.2.2.1 t22.2.2.2.1 t22.2.2.2.2.1 t22.2.2.2.2.2.1 t22.2.2.2.2.2.2.1 t22.2.2.2.2.2.2.2.1 t22.2.2.2.2.2.2.2.2.1 ([] : List Int) (IntKind.i64.wrap ((28 : Int) + t23.1))).bind fun t24 => (f173.l7 k k a5 (0 : Int) t23.2.1 t23.2.2.1 t23.2.2.2 xs9 t24).bind fun t25 => rec_ (IntKind.i64.wrap (t25.1 - (1 : Int))) t25.2.1 t25.2.2.1 t25.2.2.2.1 t25.2.2.2.2))
  else
    ret (xs6, a7, a8, xs9)
def f173.l3 (k : Nat) : Nat → Int → (List Int) → Int → Int → (List S24) → Option ((List Int) × Int × Int × (List S24))
  | 0, _, _, _, _, _ => none
  | j + 1, a5, xs6, a7, a8, xs9 => f173.l3.step k (fun a5 xs6 a7 a8 xs9 => f173.l3 k j a5 xs6 a7 a8 xs9) some a5 xs6 a7 a8 xs9
def f173.l3.w {R : Type} : ((List Int) × Int × Int × (List S24)) → (Exit → St env → Option R) → Option R := fun t28 K => K (.exit 0) ⟨fullT [0, 3] 0 53 [.v (.c (.bp 0 0)), .v (.c (.row 17))], [(0, .box [.imm 5 t28.1, .s (.int .i64 t28.2.1), .s (.int .i64 t28.2.2.1)]), (17, .row false 24 t28.2.2.2)], 849⟩
def f173.l3.st (a5 : Int) (xs6 : List Int) (a7 : Int) (a8 : Int) (xs9 : List S24) : St env := ⟨fullT [0, 3, 4] 0 53 [.v (.c (.bp 0 0)), .v (.c (.row 17)), .v (.c (.s (.int .i64 a5)))], [(0, .box [.imm 5 xs6, .s (.int .i64 a7), .s (.int .i64 a8)]), (17, .row false 24 xs9)], 113⟩
def f173.l7.hd (k : Nat) (ts_ : List (AV env)) (mm_ : Mem env) (n_ : Nat) : LCl env :=
  gTs LCl.no [0, 3, 4, 5, 6] 53 ts_ fun l_ => gV LCl.no l_ fun a_ l_ => rBp LCl.no 0 0 a_ <| gV LCl.no l_ fun a_ l_ => rRow LCl.no 17 a_ <| gV LCl.no l_ fun a_ l_ => rV LCl.no a_ fun v_ => vI LCl.no .i64 v_ fun a13 => gV LCl.no l_ fun a_ l_ => rRow LCl.no 225 a_ <| gV LCl.no l_ fun a_ l_ => rV LCl.no a_ fun v_ => vI LCl.no .i64 v_ fun a14 => gE LCl.no l_ <| mBox LCl.no 0 mm_ fun c_ m_ => gC LCl.no c_ fun a_ c_ => rImm LCl.no 5 a_ fun xs15 => gC LCl.no c_ fun a_ c_ => rV LCl.no a_ fun v_ => vI LCl.no .i64 v_ fun a16 => gC LCl.no c_ fun a_ c_ => rV LCl.no a_ fun v_ => vI LCl.no .i64 v_ fun a17 => gE LCl.no c_ <| mRow LCl.no 17 false 24 m_ fun xs18 m_ => mRow LCl.no 225 false 24 m_ fun xs19 m_ => gE LCl.no m_ <| gN LCl.no 273 n_ { α := Int × (List Int) × Int × Int × (List S24), o := f173.l7 k k a13 a14 xs15 a16 a17 xs18 xs19, w := f173.l7.w }
def f173.l3.hd (k : Nat) (ts_ : List (AV env)) (mm_ : Mem env) (n_ : Nat) : LCl env :=
  gTs LCl.no [0, 3, 4] 53 ts_ fun l_ => gV LCl.no l_ fun a_ l_ => rBp LCl.no 0 0 a_ <| gV LCl.no l_ fun a_ l_ => rRow LCl.no 17 a_ <| gV LCl.no l_ fun a_ l_ => rV LCl.no a_ fun v_ => vI LCl.no .i64 v_ fun a5 => gE LCl.no l_ <| mBox LCl.no 0 mm_ fun c_ m_ => gC LCl.no c_ fun a_ c_ => rImm LCl.no 5 a_ fun xs6 => gC LCl.no c_ fun a_ c_ => rV LCl.no a_ fun v_ => vI LCl.no .i64 v_ fun a7 => gC LCl.no c_ fun a_ c_ => rV LCl.no a_ fun v_ => vI LCl.no .i64 v_ fun a8 => gE LCl.no c_ <| mRow LCl.no 17 false 24 m_ fun xs9 m_ => gE LCl.no m_ <| gN LCl.no 113 n_ { α := (List Int) × Int × Int × (List S24), o := f173.l3 k k a5 xs6 a7 a8 xs9, w := f173.l3.w }
def f173.step {R : Type} (k : Nat) (ret : ((List S24) × (List Int) × Int × Int) → Option R) (xs1 : List Int) (a2 : Int) (a3 : Int) : Option R :=
  (f145 k xs1 a2 a3 (3 : Int)).bind fun t4 => (f173.l3 k k (IntKind.i64.wrap ((1 : Int) + t4.1)) t4.2.1 t4.2.2.1 t4.2.2.2 ([] : List S24)).bind fun t26 => ret (t26.2.2.2, t26.1, t26.2.1, t26.2.2.1)
def f173 (k : Nat) (xs1 : List Int) (a2 : Int) (a3 : Int) : Option ((List S24) × (List Int) × Int × Int) := f173.step k some xs1 a2 a3
def f173.w {R : Type} : ((List S24) × (List Int) × Int × Int) → (Res env → Option R) → Option R := fun t29 K => K ⟨.v (.c (.own false 24 t29.1)), [[.sl 5 t29.2.1, .s (.int .i64 t29.2.2.1), .s (.int .i64 t29.2.2.2)]]⟩
theorem f173.wn (x : ((List S24) × (List Int) × Int × Int)) : ∃ res, ∀ {R : Type} (K : Res env → Option R), f173.w x K = K res := by
  exact ⟨_, fun _ => rfl⟩
def f173.hd (k : Nat) (ps_ : List (P2 env)) : Cl env :=
  gC Cl.no ps_ fun p_ ps_ => qP Cl.no p_ fun cs_ => gC Cl.no cs_ fun c_ cs_ => qSl Cl.no 5 c_ fun xs1 => gC Cl.no cs_ fun c_ cs_ => qS Cl.no c_ fun v_ => vI Cl.no .i64 v_ fun a2 => gC Cl.no cs_ fun c_ cs_ => qS Cl.no c_ fun v_ => vI Cl.no .i64 v_ fun a3 => gE Cl.no cs_ <| gE Cl.no ps_ <| { α := (List S24) × (List Int) × Int × Int, o := f173 k xs1 a2 a3, w := f173.w, nat := fun x _ => f173.wn x }
def f173.e (k : Nat) : Entry env := ⟨fun ps => f173.hd k (coer [[.rd 5, .no, .no]] ps), [], []⟩
def f173.X (k : Nat) : Ctx env := { C := lookE [(82, f82.e k), (87, f87.e k), (145, f145.e k)], L := lookE [(7, fun S => f173.l7.hd k S.ts S.m S.n), (3, fun S => f173.l3.hd k S.ts S.m S.n)], J := lookE [], keep := lookD [(7, [0, 3, 4, 5, 6]), (3, [0, 3, 4])], keepX := lookD [(7, [0, 3, 4]), (3, [0, 3])], span := lookN [(7, 528), (3, 736)], eff := fun n => memN n [10], prep := lookP [(3, [.weak 17]), (7, [.weak 17, .weak 225])], np := 0 }
theorem f173.l7.nat {R : Type} (k : Nat) (rec_ : Int → Int → (List Int) → Int → Int → (List S24) → (List S24) → Option (Int × (List Int) × Int × Int × (List S24))) (g : (Int × (List Int) × Int × Int × (List S24)) → Option R) (a13 : Int) (a14 : Int) (xs15 : List Int) (a16 : Int) (a17 : Int) (xs18 : List S24) (xs19 : List S24) : (f173.l7.step k rec_ some a13 a14 xs15 a16 a17 xs18 xs19).bind g = f173.l7.step k (fun a13 a14 xs15 a16 a17 xs18 xs19 => (rec_ a13 a14 xs15 a16 a17 xs18 xs19).bind g) g a13 a14 xs15 a16 a17 xs18 xs19 := by
  simp only [f173.l7.step, bind_ite, bind_sum, Option.bind_assoc, Option.bind_some, Option.bind_none]
theorem f173.l7.good (k : Nat) (a13 : Int) (a14 : Int) (xs15 : List Int) (a16 : Int) (a17 : Int) (xs18 : List S24) (xs19 : List S24) : GoodL (f173.X k) (nthC 1 (loopsOf (bodyOf Try.f173))) (f173.l7.st a13 a14 xs15 a16 a17 xs18 xs19) { α := (Int × (List Int) × Int × Int × (List S24)), o := f173.l7 k k a13 a14 xs15 a16 a17 xs18 xs19, w := f173.l7.w } :=
  loop_good (ι := Int × Int × (List Int) × Int × Int × (List S24) × (List S24)) (α := (Int × (List Int) × Int × Int × (List S24))) (fun i => f173.l7.st i.1 i.2.1 i.2.2.1 i.2.2.2.1 i.2.2.2.2.1 i.2.2.2.2.2.1 i.2.2.2.2.2.2) (fun j i => f173.l7 k j i.1 i.2.1 i.2.2.1 i.2.2.2.1 i.2.2.2.2.1 i.2.2.2.2.2.1 i.2.2.2.2.2.2) f173.l7.w (fun rec_ ret i => f173.l7.step k (fun a13 a14 xs15 a16 a17 xs18 xs19 => rec_ (a13, a14, xs15, a16, a17, xs18, xs19)) ret i.1 i.2.1 i.2.2.1 i.2.2.2.1 i.2.2.2.2.1 i.2.2.2.2.2.1 i.2.2.2.2.2.2)
    (fun _ => rfl) (fun _ _ => rfl) (fun rec_ g i => f173.l7.nat k _ g i.1 i.2.1 i.2.2.1 i.2.2.2.1 i.2.2.2.2.1 i.2.2.2.2.2.1 i.2.2.2.2.2.2) (fun {R} i0 i rec_ K => by kernel_rfl) k (a13, a14, xs15, a16, a17, xs18, xs19)
theorem f173.l7.all (k : Nat) (S : St env) : GoodL (f173.X k) (nthC 1 (loopsOf (bodyOf Try.f173))) S (f173.l7.hd k S.ts S.m S.n) := by
  obtain ⟨ts_, m_, n_⟩ := S
  show GoodL _ _ _ (f173.l7.hd k ts_ m_ n_)
  unfold f173.l7.hd
  refine gTs_ok (p := GoodL _ _ _) goodL_no fun _ h => ?_
  subst h
  refine gV_ok (p := GoodL _ _ _) goodL_no fun _ _ h => ?_
  subst h
  refine rBp_ok (p := GoodL _ _ _) goodL_no fun h => ?_
  subst h
  refine gV_ok (p := GoodL _ _ _) goodL_no fun _ _ h => ?_
  subst h
  refine rRow_ok (p := GoodL _ _ _) goodL_no fun h => ?_
  subst h
  refine gV_ok (p := GoodL _ _ _) goodL_no fun _ _ h => ?_
  subst h
  refine rV_ok (p := GoodL _ _ _) goodL_no fun _ h => ?_
  subst h
  refine vI_ok (p := GoodL _ _ _) goodL_no fun _ h => ?_
  subst h
  refine gV_ok (p := GoodL _ _ _) goodL_no fun _ _ h => ?_
  subst h
  refine rRow_ok (p := GoodL _ _ _) goodL_no fun h => ?_
  subst h
  refine gV_ok (p := GoodL _ _ _) goodL_no fun _ _ h => ?_
  subst h
  refine rV_ok (p := GoodL _ _ _) goodL_no fun _ h => ?_
  subst h
  refine vI_ok (p := GoodL _ _ _) goodL_no fun _ h => ?_
  subst h
  refine gE_ok (p := GoodL _ _ _) goodL_no fun h => ?_
  subst h
  refine mBox_ok (p := GoodL _ _ _) goodL_no fun _ _ h => ?_
  subst h
  refine gC_ok (p := GoodL _ _ _) goodL_no fun _ _ h => ?_
  subst h
  refine rImm_ok (p := GoodL _ _ _) goodL_no fun _ h => ?_
  subst h
  refine gC_ok (p := GoodL _ _ _) goodL_no fun _ _ h => ?_
  subst h
  refine rV_ok (p := GoodL _ _ _) goodL_no fun _ h => ?_
  subst h
  refine vI_ok (p := GoodL _ _ _) goodL_no fun _ h => ?_
  subst h
  refine gC_ok (p := GoodL _ _ _) goodL_no fun _ _ h => ?_
  subst h
  refine rV_ok (p := GoodL _ _ _) goodL_no fun _ h => ?_
  subst h
  refine vI_ok (p := GoodL _ _ _) goodL_no fun _ h => ?_
  subst h
  refine gE_ok (p := GoodL _ _ _) goodL_no fun h => ?_
  subst h
  refine mRow_ok (p := GoodL _ _ _) goodL_no fun _ _ h => ?_
  subst h
  refine mRow_ok (p := GoodL _ _ _) goodL_no fun _ _ h => ?_
  subst h
  refine gE_ok (p := GoodL _ _ _) goodL_no fun h => ?_
  subst h
  refine gN_ok (p := GoodL _ _ _) goodL_no fun h => ?_
  subst h
  exact f173.l7.good k _ _ _ _ _ _ _
theorem f173.l3.nat {R : Type} (k : Nat) (rec_ : Int → (List Int) → Int → Int → (List S24) → Option ((List Int) × Int × Int × (List S24))) (g : ((List Int) × Int × Int × (List S24)) → Option R) (a5 : Int) (xs6 : List Int) (a7 : Int) (a8 : Int) (xs9 : List S24) : (f173.l3.step k rec_ some a5 xs6 a7 a8 xs9).bind g = f173.l3.step k (fun a5 xs6 a7 a8 xs9 => (rec_ a5 xs6 a7 a8 xs9).bind g) g a5 xs6 a7 a8 xs9 := by
  simp only [f173.l3.step, bind_ite, bind_sum, Option.bind_assoc, Option.bind_some, Option.bind_none]
theorem f173.l3.good (k : Nat) (a5 : Int) (xs6 : List Int) (a7 : Int) (a8 : Int) (xs9 : List S24) : GoodL (f173.X k) (nthC 0 (loopsOf (bodyOf Try.f173))) (f173.l3.st a5 xs6 a7 a8 xs9) { α := ((List Int) × Int × Int × (List S24)), o := f173.l3 k k a5 xs6 a7 a8 xs9, w := f173.l3.w } :=
  loop_good (ι := Int × (List Int) × Int × Int × (List S24)) (α := ((List Int) × Int × Int × (List S24))) (fun i => f173.l3.st i.1 i.2.1 i.2.2.1 i.2.2.2.1 i.2.2.2.2) (fun j i => f173.l3 k j i.1 i.2.1 i.2.2.1 i.2.2.2.1 i.2.2.2.2) f173.l3.w (fun rec_ ret i => f173.l3.step k (fun a5 xs6 a7 a8 xs9 => rec_ (a5, xs6, a7, a8, xs9)) ret i.1 i.2.1 i.2.2.1 i.2.2.2.1 i.2.2.2.2)
    (fun _ => rfl) (fun _ _ => rfl) (fun rec_ g i => f173.l3.nat k _ g i.1 i.2.1 i.2.2.1 i.2.2.2.1 i.2.2.2.2) (fun {R} i0 i rec_ K => by kernel_rfl) k (a5, xs6, a7, a8, xs9)
theorem f173.l3.all (k : Nat) (S : St env) : GoodL (f173.X k) (nthC 0 (loopsOf (bodyOf Try.f173))) S (f173.l3.hd k S.ts S.m S.n) := by
  obtain ⟨ts_, m_, n_⟩ := S
  show GoodL _ _ _ (f173.l3.hd k ts_ m_ n_)
  unfold f173.l3.hd
  refine gTs_ok (p := GoodL _ _ _) goodL_no fun _ h => ?_
  subst h
  refine gV_ok (p := GoodL _ _ _) goodL_no fun _ _ h => ?_
  subst h
  refine rBp_ok (p := GoodL _ _ _) goodL_no fun h => ?_
  subst h
  refine gV_ok (p := GoodL _ _ _) goodL_no fun _ _ h => ?_
  subst h
  refine rRow_ok (p := GoodL _ _ _) goodL_no fun h => ?_
  subst h
  refine gV_ok (p := GoodL _ _ _) goodL_no fun _ _ h => ?_
  subst h
  refine rV_ok (p := GoodL _ _ _) goodL_no fun _ h => ?_
  subst h
  refine vI_ok (p := GoodL _ _ _) goodL_no fun _ h => ?_
  subst h
  refine gE_ok (p := GoodL _ _ _) goodL_no fun h => ?_
  subst h
  refine mBox_ok (p := GoodL _ _ _) goodL_no fun _ _ h => ?_
  subst h
  refine gC_ok (p := GoodL _ _ _) goodL_no fun _ _ h => ?_
  subst h
  refine rImm_ok (p := GoodL _ _ _) goodL_no fun _ h => ?_
  subst h
  refine gC_ok (p := GoodL _ _ _) goodL_no fun _ _ h => ?_
  subst h
  refine rV_ok (p := GoodL _ _ _) goodL_no fun _ h => ?_
  subst h
  refine vI_ok (p := GoodL _ _ _) goodL_no fun _ h => ?_
  subst h
  refine gC_ok (p := GoodL _ _ _) goodL_no fun _ _ h => ?_
  subst h
  refine rV_ok (p := GoodL _ _ _) goodL_no fun _ h => ?_
  subst h
  refine vI_ok (p := GoodL _ _ _) goodL_no fun _ h => ?_
  subst h
  refine gE_ok (p := GoodL _ _ _) goodL_no fun h => ?_
  subst h
  refine mRow_ok (p := GoodL _ _ _) goodL_no fun _ _ h => ?_
  subst h
  refine gE_ok (p := GoodL _ _ _) goodL_no fun h => ?_
  subst h
  refine gN_ok (p := GoodL _ _ _) goodL_no fun h => ?_
  subst h
  exact f173.l3.good k _ _ _ _ _
theorem f173.nat {R : Type} (k : Nat) (g : ((List S24) × (List Int) × Int × Int) → Option R) (xs1 : List Int) (a2 : Int) (a3 : Int) : f173.step k g xs1 a2 a3 = (f173 k xs1 a2 a3).bind g := by
  simp only [f173, f173.step, bind_ite, bind_sum, Option.bind_assoc, Option.bind_some, Option.bind_none]
theorem f173.ev (k : Nat) (xs1 : List Int) (a2 : Int) (a3 : Int) : evF (f173.X k) (bodyOf Try.f173) Try.f173.ntmps Try.f173.results.toList [.v (.ptr [.sl 5 xs1, .s (.int .i64 a2), .s (.int .i64 a3)])] = f173.step k (fun x => f173.w x some) xs1 a2 a3 := by kernel_rfl
theorem f173.hok (k : Nat) : HOK (f173.X k) (bodyOf Try.f173) where
  l := allP_mem (by exact ⟨ls_of (h0 := fun S => f173.l3.hd k S.ts S.m S.n) (by kernel_rfl) (f173.l3.all k), ls_of (h0 := fun S => f173.l7.hd k S.ts S.m S.n) (by kernel_rfl) (f173.l7.all k), trivial⟩)
  j := allP_mem (by exact trivial)
theorem f173.sound0 (k : Nat) : SoundC env Try.prog 173 (f173.hd k) := by
  intro ps_
  show GoodC _ _ _ ps_ (f173.hd k ps_)
  unfold f173.hd
  refine gC_ok (p := GoodC env Try.prog 173 _) goodC_no fun _ _ h => ?_
  subst h
  refine qP_ok (p := GoodC env Try.prog 173 _) goodC_no fun _ h => ?_
  subst h
  refine gC_ok (p := GoodC env Try.prog 173 _) goodC_no fun _ _ h => ?_
  subst h
  refine qSl_ok (p := GoodC env Try.prog 173 _) goodC_no fun _ h => ?_
  subst h
  refine gC_ok (p := GoodC env Try.prog 173 _) goodC_no fun _ _ h => ?_
  subst h
  refine qS_ok (p := GoodC env Try.prog 173 _) goodC_no fun _ h => ?_
  subst h
  refine vI_ok (p := GoodC env Try.prog 173 _) goodC_no fun _ h => ?_
  subst h
  refine gC_ok (p := GoodC env Try.prog 173 _) goodC_no fun _ _ h => ?_
  subst h
  refine qS_ok (p := GoodC env Try.prog 173 _) goodC_no fun _ h => ?_
  subst h
  refine vI_ok (p := GoodC env Try.prog 173 _) goodC_no fun _ h => ?_
  subst h
  refine gE_ok (p := GoodC env Try.prog 173 _) goodC_no fun h => ?_
  subst h
  refine gE_ok (p := GoodC env Try.prog 173 _) goodC_no fun h => ?_
  subst h
  exact fun_good (fun_sound envOK (cs_sound _ (by exact ⟨⟨f82.sound k, f82.fnok⟩, ⟨f87.sound k, f87.fnok⟩, ⟨f145.sound k, f145.fnok⟩, trivial⟩)) (f173.hok k) Try.func173 rfl) ((f173.ev k _ _ _).trans (f173.nat k _ _ _ _))
theorem f173.sound (k : Nat) : SoundC env Try.prog 173 (f173.e k).F := soundC_coer (f173.sound0 k) [[.rd 5, .no, .no]]
theorem f173.says (k : Nat) (xs1 : List Int) (a2 : Int) (a3 : Int) (t30 : (List S24) × (List Int) × Int × Int) (h_ : f173 k xs1 a2 a3 = some t30) : SoundAt env Try.prog 173 [.v (.ptr [.sl 5 xs1, .s (.int .i64 a2), .s (.int .i64 a3)])] ⟨.v (.c (.own false 24 t30.1)), [[.sl 5 t30.2.1, .s (.int .i64 t30.2.2.1), .s (.int .i64 t30.2.2.2)]]⟩ :=
  fun_sound envOK (cs_sound _ (by exact ⟨⟨f82.sound k, f82.fnok⟩, ⟨f87.sound k, f87.fnok⟩, ⟨f145.sound k, f145.fnok⟩, trivial⟩)) (f173.hok k) Try.func173 rfl _ _ (((f173.ev k xs1 a2 a3).trans (f173.nat k _ xs1 a2 a3)).trans (by rw [h_]; rfl))
theorem f173.fnok : FnOK Try.prog 173 := fn_ok Try.func173 (by kernel_rfl) rfl
def f177.l2.step {R : Type} (k : Nat) (rec_ : (List S104) → Int → ByteArray → ByteArray → Int → Int → Int → (List S211) → Option R) (ret : (Int ⊕ (Unit)) → Option R) (xs8 : List S104) (a9 : Int) (s10 : ByteArray) (s11 : ByteArray) (a12 : Int) (a13 : Int) (a14 : Int) (xs15 : List S211) : Option R :=
  if (decide (a9 < (((List.length xs8) : Nat) : Int))) = true then
    if (0 : Int) ≤ a9 then
      if a9 < ((List.length xs8 : Nat) : Int) then
        if (decide (ByteArray.toList (List.getD xs8 (Int.toNat a9) (⟨ByteArray.empty, ByteArray.empty, (0 : Int), (0 : Int), (0 : Int), []⟩ : S104)).f0 = ByteArray.toList s10)) = true then
          if (0 : Int) ≤ a9 then
            if a9 < ((List.length xs8 : Nat) : Int) then
              if (decide (ByteArray.toList (List.getD xs8 (Int.toNat a9) (⟨ByteArray.empty, ByteArray.empty, (0 : Int), (0 : Int), (0 : Int), []⟩ : S104)).f1 = ByteArray.toList s11)) = true then
                if (0 : Int) ≤ a9 then
                  if a9 < ((List.length xs8 : Nat) : Int) then
                    if (decide ((List.getD xs8 (Int.toNat a9) (⟨ByteArray.empty, ByteArray.empty, (0 : Int), (0 : Int), (0 : Int), []⟩ : S104)).f2 = a12)) = true then
                      if (0 : Int) ≤ a9 then
                        if a9 < ((List.length xs8 : Nat) : Int) then
                          if (decide ((List.getD xs8 (Int.toNat a9) (⟨ByteArray.empty, ByteArray.empty, (0 : Int), (0 : Int), (0 : Int), []⟩ : S104)).f3 = a13)) = true then
                            ret (.inl a9)
                          else
                            rec_ xs8 (IntKind.i64.wrap (a9 + (1 : Int))) s10 s11 a12 a13 a14 xs15
                        else none
                      else none
                    else
                      rec_ xs8 (IntKind.i64.wrap (a9 + (1 : Int))) s10 s11 a12 a13 a14 xs15
                  else none
                else none
              else
                rec_ xs8 (IntKind.i64.wrap (a9 + (1 : Int))) s10 s11 a12 a13 a14 xs15
            else none
          else none
        else
          rec_ xs8 (IntKind.i64.wrap (a9 + (1 : Int))) s10 s11 a12 a13 a14 xs15
      else none
    else none
  else
    ret (.inr ())
def f177.l2 (k : Nat) : Nat → (List S104) → Int → ByteArray → ByteArray → Int → Int → Int → (List S211) → Option (Int ⊕ (Unit))
  | 0, _, _, _, _, _, _, _, _ => none
  | j + 1, xs8, a9, s10, s11, a12, a13, a14, xs15 => f177.l2.step k (fun xs8 a9 s10 s11 a12 a13 a14 xs15 => f177.l2 k j xs8 a9 s10 s11 a12 a13 a14 xs15) some xs8 a9 s10 s11 a12 a13 a14 xs15
def f177.l2.w {R : Type} : (Int ⊕ (Unit)) → (Exit → St env → Option R) → Option R := fun x K => Sum.elim (fun t18 => K .ret ⟨fullT [4] 0 51 [.v (.c (.s (.int .i64 t18)))], [], 802⟩) (fun t19 => K (.exit 0) ⟨fullT [] 0 51 [], [], 802⟩) x
def f177.l2.st (xs8 : List S104) (a9 : Int) (s10 : ByteArray) (s11 : ByteArray) (a12 : Int) (a13 : Int) (a14 : Int) (xs15 : List S211) : St env := ⟨fullT [0, 3, 5] 0 51 [.v (.c (.imm 104 xs8)), .v (.c (.bp 2 0)), .v (.c (.s (.int .i64 a9)))], [(2, .box [.s (.string s10), .s (.string s11), .s (.int .i64 a12), .s (.int .i64 a13), .s (.int .i64 a14), .imm 211 xs15])], 50⟩
def f177.l2.hd (k : Nat) (ts_ : List (AV env)) (mm_ : Mem env) (n_ : Nat) : LCl env :=
  gTs LCl.no [0, 3, 5] 51 ts_ fun l_ => gV LCl.no l_ fun a_ l_ => rImm LCl.no 104 a_ fun xs8 => gV LCl.no l_ fun a_ l_ => rBp LCl.no 2 0 a_ <| gV LCl.no l_ fun a_ l_ => rV LCl.no a_ fun v_ => vI LCl.no .i64 v_ fun a9 => gE LCl.no l_ <| mBox LCl.no 2 mm_ fun c_ m_ => gC LCl.no c_ fun a_ c_ => rV LCl.no a_ fun v_ => vS LCl.no v_ fun s10 => gC LCl.no c_ fun a_ c_ => rV LCl.no a_ fun v_ => vS LCl.no v_ fun s11 => gC LCl.no c_ fun a_ c_ => rV LCl.no a_ fun v_ => vI LCl.no .i64 v_ fun a12 => gC LCl.no c_ fun a_ c_ => rV LCl.no a_ fun v_ => vI LCl.no .i64 v_ fun a13 => gC LCl.no c_ fun a_ c_ => rV LCl.no a_ fun v_ => vI LCl.no .i64 v_ fun a14 => gC LCl.no c_ fun a_ c_ => rImm LCl.no 211 a_ fun xs15 => gE LCl.no c_ <| gE LCl.no m_ <| gN LCl.no 50 n_ { α := Int ⊕ (Unit), o := f177.l2 k k xs8 a9 s10 s11 a12 a13 a14 xs15, w := f177.l2.w }
def f177.step {R : Type} (k : Nat) (ret : Int → Option R) (xs1 : List S104) (s2 : ByteArray) (s3 : ByteArray) (a4 : Int) (a5 : Int) (a6 : Int) (xs7 : List S211) : Option R :=
  (f177.l2 k k xs1 (0 : Int) s2 s3 a4 a5 a6 xs7).bind (Sum.elim (fun t16 => ret t16) (fun t17 => ret (-1 : Int)))
def f177 (k : Nat) (xs1 : List S104) (s2 : ByteArray) (s3 : ByteArray) (a4 : Int) (a5 : Int) (a6 : Int) (xs7 : List S211) : Option Int := f177.step k some xs1 s2 s3 a4 a5 a6 xs7
def f177.w {R : Type} : Int → (Res env → Option R) → Option R := fun t20 K => K ⟨.v (.c (.s (.int .i64 t20))), [[], []]⟩
theorem f177.wn (x : Int) : ∃ res, ∀ {R : Type} (K : Res env → Option R), f177.w x K = K res := by
  exact ⟨_, fun _ => rfl⟩
def f177.hd (k : Nat) (ps_ : List (P2 env)) : Cl env :=
  gC Cl.no ps_ fun p_ ps_ => qC Cl.no p_ fun c_ => qSl Cl.no 104 c_ fun xs1 => gC Cl.no ps_ fun p_ ps_ => qG Cl.no p_ fun cs_ => gC Cl.no cs_ fun c_ cs_ => qS Cl.no c_ fun v_ => vS Cl.no v_ fun s2 => gC Cl.no cs_ fun c_ cs_ => qS Cl.no c_ fun v_ => vS Cl.no v_ fun s3 => gC Cl.no cs_ fun c_ cs_ => qS Cl.no c_ fun v_ => vI Cl.no .i64 v_ fun a4 => gC Cl.no cs_ fun c_ cs_ => qS Cl.no c_ fun v_ => vI Cl.no .i64 v_ fun a5 => gC Cl.no cs_ fun c_ cs_ => qS Cl.no c_ fun v_ => vI Cl.no .i64 v_ fun a6 => gC Cl.no cs_ fun c_ cs_ => qSl Cl.no 211 c_ fun xs7 => gE Cl.no cs_ <| gE Cl.no ps_ <| { α := Int, o := f177 k xs1 s2 s3 a4 a5 a6 xs7, w := f177.w, nat := fun x _ => f177.wn x }
def f177.e (k : Nat) : Entry env := ⟨fun ps => f177.hd k (coer [[.rd 104], [.no, .no, .no, .no, .no, .rd 211]] ps), [], []⟩
def f177.X (k : Nat) : Ctx env := { C := lookE [], L := lookE [(2, fun S => f177.l2.hd k S.ts S.m S.n)], J := lookE [], keep := lookD [(2, [0, 3, 5])], keepX := lookD [(2, [4])], span := lookN [(2, 752)], eff := fun n => memN n [], prep := lookP [], np := 0 }
theorem f177.l2.nat {R : Type} (k : Nat) (rec_ : (List S104) → Int → ByteArray → ByteArray → Int → Int → Int → (List S211) → Option (Int ⊕ (Unit))) (g : (Int ⊕ (Unit)) → Option R) (xs8 : List S104) (a9 : Int) (s10 : ByteArray) (s11 : ByteArray) (a12 : Int) (a13 : Int) (a14 : Int) (xs15 : List S211) : (f177.l2.step k rec_ some xs8 a9 s10 s11 a12 a13 a14 xs15).bind g = f177.l2.step k (fun xs8 a9 s10 s11 a12 a13 a14 xs15 => (rec_ xs8 a9 s10 s11 a12 a13 a14 xs15).bind g) g xs8 a9 s10 s11 a12 a13 a14 xs15 := by
  simp only [f177.l2.step, bind_ite, bind_sum, Option.bind_assoc, Option.bind_some, Option.bind_none]
theorem f177.l2.good (k : Nat) (xs8 : List S104) (a9 : Int) (s10 : ByteArray) (s11 : ByteArray) (a12 : Int) (a13 : Int) (a14 : Int) (xs15 : List S211) : GoodL (f177.X k) (nthC 0 (loopsOf (bodyOf Try.f177))) (f177.l2.st xs8 a9 s10 s11 a12 a13 a14 xs15) { α := (Int ⊕ (Unit)), o := f177.l2 k k xs8 a9 s10 s11 a12 a13 a14 xs15, w := f177.l2.w } :=
  loop_good (ι := (List S104) × Int × ByteArray × ByteArray × Int × Int × Int × (List S211)) (α := (Int ⊕ (Unit))) (fun i => f177.l2.st i.1 i.2.1 i.2.2.1 i.2.2.2.1 i.2.2.2.2.1 i.2.2.2.2.2.1 i.2.2.2.2.2.2.1 i.2.2.2.2.2.2.2) (fun j i => f177.l2 k j i.1 i.2.1 i.2.2.1 i.2.2.2.1 i.2.2.2.2.1 i.2.2.2.2.2.1 i.2.2.2.2.2.2.1 i.2.2.2.2.2.2.2) f177.l2.w (fun rec_ ret i => f177.l2.step k (fun xs8 a9 s10 s11 a12 a13 a14 xs15 => rec_ (xs8, a9, s10, s11, a12, a13, a14, xs15)) ret i.1 i.2.1 i.2.2.1 i.2.2.2.1 i.2.2.2.2.1 i.2.2.2.2.2.1 i.2.2.2.2.2.2.1 i.2.2.2.2.2.2.2)
    (fun _ => rfl) (fun _ _ => rfl) (fun rec_ g i => f177.l2.nat k _ g i.1 i.2.1 i.2.2.1 i.2.2.2.1 i.2.2.2.2.1 i.2.2.2.2.2.1 i.2.2.2.2.2.2.1 i.2.2.2.2.2.2.2) (fun {R} i0 i rec_ K => by kernel_rfl) k (xs8, a9, s10, s11, a12, a13, a14, xs15)
theorem f177.l2.all (k : Nat) (S : St env) : GoodL (f177.X k) (nthC 0 (loopsOf (bodyOf Try.f177))) S (f177.l2.hd k S.ts S.m S.n) := by
  obtain ⟨ts_, m_, n_⟩ := S
  show GoodL _ _ _ (f177.l2.hd k ts_ m_ n_)
  unfold f177.l2.hd
  refine gTs_ok (p := GoodL _ _ _) goodL_no fun _ h => ?_
  subst h
  refine gV_ok (p := GoodL _ _ _) goodL_no fun _ _ h => ?_
  subst h
  refine rImm_ok (p := GoodL _ _ _) goodL_no fun _ h => ?_
  subst h
  refine gV_ok (p := GoodL _ _ _) goodL_no fun _ _ h => ?_
  subst h
  refine rBp_ok (p := GoodL _ _ _) goodL_no fun h => ?_
  subst h
  refine gV_ok (p := GoodL _ _ _) goodL_no fun _ _ h => ?_
  subst h
  refine rV_ok (p := GoodL _ _ _) goodL_no fun _ h => ?_
  subst h
  refine vI_ok (p := GoodL _ _ _) goodL_no fun _ h => ?_
  subst h
  refine gE_ok (p := GoodL _ _ _) goodL_no fun h => ?_
  subst h
  refine mBox_ok (p := GoodL _ _ _) goodL_no fun _ _ h => ?_
  subst h
  refine gC_ok (p := GoodL _ _ _) goodL_no fun _ _ h => ?_
  subst h
  refine rV_ok (p := GoodL _ _ _) goodL_no fun _ h => ?_
  subst h
  refine vS_ok (p := GoodL _ _ _) goodL_no fun _ h => ?_
  subst h
  refine gC_ok (p := GoodL _ _ _) goodL_no fun _ _ h => ?_
  subst h
  refine rV_ok (p := GoodL _ _ _) goodL_no fun _ h => ?_
  subst h
  refine vS_ok (p := GoodL _ _ _) goodL_no fun _ h => ?_
  subst h
  refine gC_ok (p := GoodL _ _ _) goodL_no fun _ _ h => ?_
  subst h
  refine rV_ok (p := GoodL _ _ _) goodL_no fun _ h => ?_
  subst h
  refine vI_ok (p := GoodL _ _ _) goodL_no fun _ h => ?_
  subst h
  refine gC_ok (p := GoodL _ _ _) goodL_no fun _ _ h => ?_
  subst h
  refine rV_ok (p := GoodL _ _ _) goodL_no fun _ h => ?_
  subst h
  refine vI_ok (p := GoodL _ _ _) goodL_no fun _ h => ?_
  subst h
  refine gC_ok (p := GoodL _ _ _) goodL_no fun _ _ h => ?_
  subst h
  refine rV_ok (p := GoodL _ _ _) goodL_no fun _ h => ?_
  subst h
  refine vI_ok (p := GoodL _ _ _) goodL_no fun _ h => ?_
  subst h
  refine gC_ok (p := GoodL _ _ _) goodL_no fun _ _ h => ?_
  subst h
  refine rImm_ok (p := GoodL _ _ _) goodL_no fun _ h => ?_
  subst h
  refine gE_ok (p := GoodL _ _ _) goodL_no fun h => ?_
  subst h
  refine gE_ok (p := GoodL _ _ _) goodL_no fun h => ?_
  subst h
  refine gN_ok (p := GoodL _ _ _) goodL_no fun h => ?_
  subst h
  exact f177.l2.good k _ _ _ _ _ _ _ _
theorem f177.nat {R : Type} (k : Nat) (g : Int → Option R) (xs1 : List S104) (s2 : ByteArray) (s3 : ByteArray) (a4 : Int) (a5 : Int) (a6 : Int) (xs7 : List S211) : f177.step k g xs1 s2 s3 a4 a5 a6 xs7 = (f177 k xs1 s2 s3 a4 a5 a6 xs7).bind g := by
  simp only [f177, f177.step, bind_ite, bind_sum, Option.bind_assoc, Option.bind_some, Option.bind_none]
theorem f177.ev (k : Nat) (xs1 : List S104) (s2 : ByteArray) (s3 : ByteArray) (a4 : Int) (a5 : Int) (a6 : Int) (xs7 : List S211) : evF (f177.X k) (bodyOf Try.f177) Try.f177.ntmps Try.f177.results.toList [.v (.c (.sl 104 xs1)), .g [.s (.string s2), .s (.string s3), .s (.int .i64 a4), .s (.int .i64 a5), .s (.int .i64 a6), .sl 211 xs7]] = f177.step k (fun x => f177.w x some) xs1 s2 s3 a4 a5 a6 xs7 := by kernel_rfl
theorem f177.hok (k : Nat) : HOK (f177.X k) (bodyOf Try.f177) where
  l := allP_mem (by exact ⟨ls_of (h0 := fun S => f177.l2.hd k S.ts S.m S.n) (by kernel_rfl) (f177.l2.all k), trivial⟩)
  j := allP_mem (by exact trivial)
theorem f177.sound0 (k : Nat) : SoundC env Try.prog 177 (f177.hd k) := by
  intro ps_
  show GoodC _ _ _ ps_ (f177.hd k ps_)
  unfold f177.hd
  refine gC_ok (p := GoodC env Try.prog 177 _) goodC_no fun _ _ h => ?_
  subst h
  refine qC_ok (p := GoodC env Try.prog 177 _) goodC_no fun _ h => ?_
  subst h
  refine qSl_ok (p := GoodC env Try.prog 177 _) goodC_no fun _ h => ?_
  subst h
  refine gC_ok (p := GoodC env Try.prog 177 _) goodC_no fun _ _ h => ?_
  subst h
  refine qG_ok (p := GoodC env Try.prog 177 _) goodC_no fun _ h => ?_
  subst h
  refine gC_ok (p := GoodC env Try.prog 177 _) goodC_no fun _ _ h => ?_
  subst h
  refine qS_ok (p := GoodC env Try.prog 177 _) goodC_no fun _ h => ?_
  subst h
  refine vS_ok (p := GoodC env Try.prog 177 _) goodC_no fun _ h => ?_
  subst h
  refine gC_ok (p := GoodC env Try.prog 177 _) goodC_no fun _ _ h => ?_
  subst h
  refine qS_ok (p := GoodC env Try.prog 177 _) goodC_no fun _ h => ?_
  subst h
  refine vS_ok (p := GoodC env Try.prog 177 _) goodC_no fun _ h => ?_
  subst h
  refine gC_ok (p := GoodC env Try.prog 177 _) goodC_no fun _ _ h => ?_
  subst h
  refine qS_ok (p := GoodC env Try.prog 177 _) goodC_no fun _ h => ?_
  subst h
  refine vI_ok (p := GoodC env Try.prog 177 _) goodC_no fun _ h => ?_
  subst h
  refine gC_ok (p := GoodC env Try.prog 177 _) goodC_no fun _ _ h => ?_
  subst h
  refine qS_ok (p := GoodC env Try.prog 177 _) goodC_no fun _ h => ?_
  subst h
  refine vI_ok (p := GoodC env Try.prog 177 _) goodC_no fun _ h => ?_
  subst h
  refine gC_ok (p := GoodC env Try.prog 177 _) goodC_no fun _ _ h => ?_
  subst h
  refine qS_ok (p := GoodC env Try.prog 177 _) goodC_no fun _ h => ?_
  subst h
  refine vI_ok (p := GoodC env Try.prog 177 _) goodC_no fun _ h => ?_
  subst h
  refine gC_ok (p := GoodC env Try.prog 177 _) goodC_no fun _ _ h => ?_
  subst h
  refine qSl_ok (p := GoodC env Try.prog 177 _) goodC_no fun _ h => ?_
  subst h
  refine gE_ok (p := GoodC env Try.prog 177 _) goodC_no fun h => ?_
  subst h
  refine gE_ok (p := GoodC env Try.prog 177 _) goodC_no fun h => ?_
  subst h
  exact fun_good (fun_sound envOK (cs_sound _ (by exact trivial)) (f177.hok k) Try.func177 rfl) ((f177.ev k _ _ _ _ _ _ _).trans (f177.nat k _ _ _ _ _ _ _ _))
theorem f177.sound (k : Nat) : SoundC env Try.prog 177 (f177.e k).F := soundC_coer (f177.sound0 k) [[.rd 104], [.no, .no, .no, .no, .no, .rd 211]]
theorem f177.says (k : Nat) (xs1 : List S104) (s2 : ByteArray) (s3 : ByteArray) (a4 : Int) (a5 : Int) (a6 : Int) (xs7 : List S211) (t21 : Int) (h_ : f177 k xs1 s2 s3 a4 a5 a6 xs7 = some t21) : SoundAt env Try.prog 177 [.v (.c (.sl 104 xs1)), .g [.s (.string s2), .s (.string s3), .s (.int .i64 a4), .s (.int .i64 a5), .s (.int .i64 a6), .sl 211 xs7]] ⟨.v (.c (.s (.int .i64 t21))), [[], []]⟩ :=
  fun_sound envOK (cs_sound _ (by exact trivial)) (f177.hok k) Try.func177 rfl _ _ (((f177.ev k xs1 s2 s3 a4 a5 a6 xs7).trans (f177.nat k _ xs1 s2 s3 a4 a5 a6 xs7)).trans (by rw [h_]; rfl))
theorem f177.fnok : FnOK Try.prog 177 := fn_ok Try.func177 (by kernel_rfl) rfl
def f192.l2.step {R : Type} (k : Nat) (rec_ : (List S211) → Int → Int → Bool → (List Int) → Option R) (ret : (Bool ⊕ (Unit)) → Option R) (xs5 : List S211) (a6 : Int) (a7 : Int) (b8 : Bool) (xs9 : List Int) : Option R :=
  if (decide (a6 < (((List.length xs5) : Nat) : Int))) = true then
    if (0 : Int) ≤ a6 then
      if a6 < ((List.length xs5 : Nat) : Int) then
        if (decide ((List.getD xs5 (Int.toNat a6) (⟨(0 : Int), false, []⟩ : S211)).f0 = a7)) = true then
          if (0 : Int) ≤ a6 then
            if a6 < ((List.length xs5 : Nat) : Int) then
              if ((List.getD xs5 (Int.toNat a6) (⟨(0 : Int), false, []⟩ : S211)).f1 == b8) = true then
                if (0 : Int) ≤ a6 then
                  if a6 < ((List.length xs5 : Nat) : Int) then
                    if (decide (ByteArray.toList (strOf (List.getD xs5 (Int.toNat a6) (⟨(0 : Int), false, []⟩ : S211)).f2) = ByteArray.toList (strOf xs9))) = true then
                      ret (.inl true)
                    else
                      rec_ xs5 (IntKind.i64.wrap (a6 + (1 : Int))) a7 b8 xs9
                  else none
                else none
              else
                rec_ xs5 (IntKind.i64.wrap (a6 + (1 : Int))) a7 b8 xs9
            else none
          else none
        else
          rec_ xs5 (IntKind.i64.wrap (a6 + (1 : Int))) a7 b8 xs9
      else none
    else none
  else
    ret (.inr ())
def f192.l2 (k : Nat) : Nat → (List S211) → Int → Int → Bool → (List Int) → Option (Bool ⊕ (Unit))
  | 0, _, _, _, _, _ => none
  | j + 1, xs5, a6, a7, b8, xs9 => f192.l2.step k (fun xs5 a6 a7 b8 xs9 => f192.l2 k j xs5 a6 a7 b8 xs9) some xs5 a6 a7 b8 xs9
def f192.l2.w {R : Type} : (Bool ⊕ (Unit)) → (Exit → St env → Option R) → Option R := fun x K => Sum.elim (fun t12 => K .ret ⟨fullT [4] 0 42 [.v (.c (.s (.bool t12)))], [], 658⟩) (fun t13 => K (.exit 0) ⟨fullT [] 0 42 [], [], 658⟩) x
def f192.l2.st (xs5 : List S211) (a6 : Int) (a7 : Int) (b8 : Bool) (xs9 : List Int) : St env := ⟨fullT [0, 3, 5] 0 42 [.v (.c (.imm 211 xs5)), .v (.c (.bp 2 0)), .v (.c (.s (.int .i64 a6)))], [(2, .box [.s (.int .i64 a7), .s (.bool b8), .imm 5 xs9])], 50⟩
def f192.l2.hd (k : Nat) (ts_ : List (AV env)) (mm_ : Mem env) (n_ : Nat) : LCl env :=
  gTs LCl.no [0, 3, 5] 42 ts_ fun l_ => gV LCl.no l_ fun a_ l_ => rImm LCl.no 211 a_ fun xs5 => gV LCl.no l_ fun a_ l_ => rBp LCl.no 2 0 a_ <| gV LCl.no l_ fun a_ l_ => rV LCl.no a_ fun v_ => vI LCl.no .i64 v_ fun a6 => gE LCl.no l_ <| mBox LCl.no 2 mm_ fun c_ m_ => gC LCl.no c_ fun a_ c_ => rV LCl.no a_ fun v_ => vI LCl.no .i64 v_ fun a7 => gC LCl.no c_ fun a_ c_ => rV LCl.no a_ fun v_ => vB LCl.no v_ fun b8 => gC LCl.no c_ fun a_ c_ => rImm LCl.no 5 a_ fun xs9 => gE LCl.no c_ <| gE LCl.no m_ <| gN LCl.no 50 n_ { α := Bool ⊕ (Unit), o := f192.l2 k k xs5 a6 a7 b8 xs9, w := f192.l2.w }
def f192.step {R : Type} (k : Nat) (ret : Bool → Option R) (xs1 : List S211) (a2 : Int) (b3 : Bool) (xs4 : List Int) : Option R :=
  (f192.l2 k k xs1 (0 : Int) a2 b3 xs4).bind (Sum.elim (fun t10 => ret t10) (fun t11 => ret false))
def f192 (k : Nat) (xs1 : List S211) (a2 : Int) (b3 : Bool) (xs4 : List Int) : Option Bool := f192.step k some xs1 a2 b3 xs4
def f192.w {R : Type} : Bool → (Res env → Option R) → Option R := fun t14 K => K ⟨.v (.c (.s (.bool t14))), [[], []]⟩
theorem f192.wn (x : Bool) : ∃ res, ∀ {R : Type} (K : Res env → Option R), f192.w x K = K res := by
  exact ⟨_, fun _ => rfl⟩
def f192.hd (k : Nat) (ps_ : List (P2 env)) : Cl env :=
  gC Cl.no ps_ fun p_ ps_ => qC Cl.no p_ fun c_ => qSl Cl.no 211 c_ fun xs1 => gC Cl.no ps_ fun p_ ps_ => qG Cl.no p_ fun cs_ => gC Cl.no cs_ fun c_ cs_ => qS Cl.no c_ fun v_ => vI Cl.no .i64 v_ fun a2 => gC Cl.no cs_ fun c_ cs_ => qS Cl.no c_ fun v_ => vB Cl.no v_ fun b3 => gC Cl.no cs_ fun c_ cs_ => qSl Cl.no 5 c_ fun xs4 => gE Cl.no cs_ <| gE Cl.no ps_ <| { α := Bool, o := f192 k xs1 a2 b3 xs4, w := f192.w, nat := fun x _ => f192.wn x }
def f192.e (k : Nat) : Entry env := ⟨fun ps => f192.hd k (coer [[.rd 211], [.no, .no, .rd 5]] ps), [], []⟩
def f192.X (k : Nat) : Ctx env := { C := lookE [], L := lookE [(2, fun S => f192.l2.hd k S.ts S.m S.n)], J := lookE [], keep := lookD [(2, [0, 3, 5])], keepX := lookD [(2, [4])], span := lookN [(2, 608)], eff := fun n => memN n [], prep := lookP [], np := 0 }
theorem f192.l2.nat {R : Type} (k : Nat) (rec_ : (List S211) → Int → Int → Bool → (List Int) → Option (Bool ⊕ (Unit))) (g : (Bool ⊕ (Unit)) → Option R) (xs5 : List S211) (a6 : Int) (a7 : Int) (b8 : Bool) (xs9 : List Int) : (f192.l2.step k rec_ some xs5 a6 a7 b8 xs9).bind g = f192.l2.step k (fun xs5 a6 a7 b8 xs9 => (rec_ xs5 a6 a7 b8 xs9).bind g) g xs5 a6 a7 b8 xs9 := by
  simp only [f192.l2.step, bind_ite, bind_sum, Option.bind_assoc, Option.bind_some, Option.bind_none]
theorem f192.l2.good (k : Nat) (xs5 : List S211) (a6 : Int) (a7 : Int) (b8 : Bool) (xs9 : List Int) : GoodL (f192.X k) (nthC 0 (loopsOf (bodyOf Try.f192))) (f192.l2.st xs5 a6 a7 b8 xs9) { α := (Bool ⊕ (Unit)), o := f192.l2 k k xs5 a6 a7 b8 xs9, w := f192.l2.w } :=
  loop_good (ι := (List S211) × Int × Int × Bool × (List Int)) (α := (Bool ⊕ (Unit))) (fun i => f192.l2.st i.1 i.2.1 i.2.2.1 i.2.2.2.1 i.2.2.2.2) (fun j i => f192.l2 k j i.1 i.2.1 i.2.2.1 i.2.2.2.1 i.2.2.2.2) f192.l2.w (fun rec_ ret i => f192.l2.step k (fun xs5 a6 a7 b8 xs9 => rec_ (xs5, a6, a7, b8, xs9)) ret i.1 i.2.1 i.2.2.1 i.2.2.2.1 i.2.2.2.2)
    (fun _ => rfl) (fun _ _ => rfl) (fun rec_ g i => f192.l2.nat k _ g i.1 i.2.1 i.2.2.1 i.2.2.2.1 i.2.2.2.2) (fun {R} i0 i rec_ K => by kernel_rfl) k (xs5, a6, a7, b8, xs9)
theorem f192.l2.all (k : Nat) (S : St env) : GoodL (f192.X k) (nthC 0 (loopsOf (bodyOf Try.f192))) S (f192.l2.hd k S.ts S.m S.n) := by
  obtain ⟨ts_, m_, n_⟩ := S
  show GoodL _ _ _ (f192.l2.hd k ts_ m_ n_)
  unfold f192.l2.hd
  refine gTs_ok (p := GoodL _ _ _) goodL_no fun _ h => ?_
  subst h
  refine gV_ok (p := GoodL _ _ _) goodL_no fun _ _ h => ?_
  subst h
  refine rImm_ok (p := GoodL _ _ _) goodL_no fun _ h => ?_
  subst h
  refine gV_ok (p := GoodL _ _ _) goodL_no fun _ _ h => ?_
  subst h
  refine rBp_ok (p := GoodL _ _ _) goodL_no fun h => ?_
  subst h
  refine gV_ok (p := GoodL _ _ _) goodL_no fun _ _ h => ?_
  subst h
  refine rV_ok (p := GoodL _ _ _) goodL_no fun _ h => ?_
  subst h
  refine vI_ok (p := GoodL _ _ _) goodL_no fun _ h => ?_
  subst h
  refine gE_ok (p := GoodL _ _ _) goodL_no fun h => ?_
  subst h
  refine mBox_ok (p := GoodL _ _ _) goodL_no fun _ _ h => ?_
  subst h
  refine gC_ok (p := GoodL _ _ _) goodL_no fun _ _ h => ?_
  subst h
  refine rV_ok (p := GoodL _ _ _) goodL_no fun _ h => ?_
  subst h
  refine vI_ok (p := GoodL _ _ _) goodL_no fun _ h => ?_
  subst h
  refine gC_ok (p := GoodL _ _ _) goodL_no fun _ _ h => ?_
  subst h
  refine rV_ok (p := GoodL _ _ _) goodL_no fun _ h => ?_
  subst h
  refine vB_ok (p := GoodL _ _ _) goodL_no fun _ h => ?_
  subst h
  refine gC_ok (p := GoodL _ _ _) goodL_no fun _ _ h => ?_
  subst h
  refine rImm_ok (p := GoodL _ _ _) goodL_no fun _ h => ?_
  subst h
  refine gE_ok (p := GoodL _ _ _) goodL_no fun h => ?_
  subst h
  refine gE_ok (p := GoodL _ _ _) goodL_no fun h => ?_
  subst h
  refine gN_ok (p := GoodL _ _ _) goodL_no fun h => ?_
  subst h
  exact f192.l2.good k _ _ _ _ _
theorem f192.nat {R : Type} (k : Nat) (g : Bool → Option R) (xs1 : List S211) (a2 : Int) (b3 : Bool) (xs4 : List Int) : f192.step k g xs1 a2 b3 xs4 = (f192 k xs1 a2 b3 xs4).bind g := by
  simp only [f192, f192.step, bind_ite, bind_sum, Option.bind_assoc, Option.bind_some, Option.bind_none]
theorem f192.ev (k : Nat) (xs1 : List S211) (a2 : Int) (b3 : Bool) (xs4 : List Int) : evF (f192.X k) (bodyOf Try.f192) Try.f192.ntmps Try.f192.results.toList [.v (.c (.sl 211 xs1)), .g [.s (.int .i64 a2), .s (.bool b3), .sl 5 xs4]] = f192.step k (fun x => f192.w x some) xs1 a2 b3 xs4 := by kernel_rfl
theorem f192.hok (k : Nat) : HOK (f192.X k) (bodyOf Try.f192) where
  l := allP_mem (by exact ⟨ls_of (h0 := fun S => f192.l2.hd k S.ts S.m S.n) (by kernel_rfl) (f192.l2.all k), trivial⟩)
  j := allP_mem (by exact trivial)
theorem f192.sound0 (k : Nat) : SoundC env Try.prog 192 (f192.hd k) := by
  intro ps_
  show GoodC _ _ _ ps_ (f192.hd k ps_)
  unfold f192.hd
  refine gC_ok (p := GoodC env Try.prog 192 _) goodC_no fun _ _ h => ?_
  subst h
  refine qC_ok (p := GoodC env Try.prog 192 _) goodC_no fun _ h => ?_
  subst h
  refine qSl_ok (p := GoodC env Try.prog 192 _) goodC_no fun _ h => ?_
  subst h
  refine gC_ok (p := GoodC env Try.prog 192 _) goodC_no fun _ _ h => ?_
  subst h
  refine qG_ok (p := GoodC env Try.prog 192 _) goodC_no fun _ h => ?_
  subst h
  refine gC_ok (p := GoodC env Try.prog 192 _) goodC_no fun _ _ h => ?_
  subst h
  refine qS_ok (p := GoodC env Try.prog 192 _) goodC_no fun _ h => ?_
  subst h
  refine vI_ok (p := GoodC env Try.prog 192 _) goodC_no fun _ h => ?_
  subst h
  refine gC_ok (p := GoodC env Try.prog 192 _) goodC_no fun _ _ h => ?_
  subst h
  refine qS_ok (p := GoodC env Try.prog 192 _) goodC_no fun _ h => ?_
  subst h
  refine vB_ok (p := GoodC env Try.prog 192 _) goodC_no fun _ h => ?_
  subst h
  refine gC_ok (p := GoodC env Try.prog 192 _) goodC_no fun _ _ h => ?_
  subst h
  refine qSl_ok (p := GoodC env Try.prog 192 _) goodC_no fun _ h => ?_
  subst h
  refine gE_ok (p := GoodC env Try.prog 192 _) goodC_no fun h => ?_
  subst h
  refine gE_ok (p := GoodC env Try.prog 192 _) goodC_no fun h => ?_
  subst h
  exact fun_good (fun_sound envOK (cs_sound _ (by exact trivial)) (f192.hok k) Try.func192 rfl) ((f192.ev k _ _ _ _).trans (f192.nat k _ _ _ _ _))
theorem f192.sound (k : Nat) : SoundC env Try.prog 192 (f192.e k).F := soundC_coer (f192.sound0 k) [[.rd 211], [.no, .no, .rd 5]]
theorem f192.says (k : Nat) (xs1 : List S211) (a2 : Int) (b3 : Bool) (xs4 : List Int) (t15 : Bool) (h_ : f192 k xs1 a2 b3 xs4 = some t15) : SoundAt env Try.prog 192 [.v (.c (.sl 211 xs1)), .g [.s (.int .i64 a2), .s (.bool b3), .sl 5 xs4]] ⟨.v (.c (.s (.bool t15))), [[], []]⟩ :=
  fun_sound envOK (cs_sound _ (by exact trivial)) (f192.hok k) Try.func192 rfl _ _ (((f192.ev k xs1 a2 b3 xs4).trans (f192.nat k _ xs1 a2 b3 xs4)).trans (by rw [h_]; rfl))
theorem f192.fnok : FnOK Try.prog 192 := fn_ok Try.func192 (by kernel_rfl) rfl
def f193.l3.step {R : Type} (k : Nat) (rec_ : (List S211) → Int → Int → Int → Bool → (List Int) → Option R) (ret : ((List S211) × Int × Int × Int × Bool × (List Int)) → Option R) (xs5 : List S211) (a6 : Int) (a7 : Int) (a8 : Int) (b9 : Bool) (xs10 : List Int) : Option R :=
  if (decide (a7 < (((List.length xs5) : Nat) : Int))) = true then
    if (0 : Int) ≤ a7 then
      if a7 < ((List.length xs5 : Nat) : Int) then
        if (decide ((List.getD xs5 (Int.toNat a7) (⟨(0 : Int), false, []⟩ : S211)).f0 < a8)) = true then
          rec_ xs5 a6 (IntKind.i64.wrap (a7 + (1 : Int))) a8 b9 xs10
        else
          ret (xs5, a6, a7, a8, b9, xs10)
      else none
    else none
  else
    ret (xs5, a6, a7, a8, b9, xs10)
def f193.l3 (k : Nat) : Nat → (List S211) → Int → Int → Int → Bool → (List Int) → Option ((List S211) × Int × Int × Int × Bool × (List Int))
  | 0, _, _, _, _, _, _ => none
  | j + 1, xs5, a6, a7, a8, b9, xs10 => f193.l3.step k (fun xs5 a6 a7 a8 b9 xs10 => f193.l3 k j xs5 a6 a7 a8 b9 xs10) some xs5 a6 a7 a8 b9 xs10
def f193.l3.w {R : Type} : ((List S211) × Int × Int × Int × Bool × (List Int)) → (Exit → St env → Option R) → Option R := fun t12 K => K (.exit 0) ⟨fullT [0, 3, 6, 7] 0 101 [.v (.c (.imm 211 t12.1)), .v (.c (.bp 2 0)), .v (.c (.s (.int .i64 t12.2.1))), .v (.c (.s (.int .i64 t12.2.2.1)))], [(2, .box [.s (.int .i64 t12.2.2.2.1), .s (.bool t12.2.2.2.2.1), .imm 5 t12.2.2.2.2.2])], 450⟩
def f193.l3.st (xs5 : List S211) (a6 : Int) (a7 : Int) (a8 : Int) (b9 : Bool) (xs10 : List Int) : St env := ⟨fullT [0, 3, 6, 7] 0 101 [.v (.c (.imm 211 xs5)), .v (.c (.bp 2 0)), .v (.c (.s (.int .i64 a6))), .v (.c (.s (.int .i64 a7)))], [(2, .box [.s (.int .i64 a8), .s (.bool b9), .imm 5 xs10])], 178⟩
def f193.l3.hd (k : Nat) (ts_ : List (AV env)) (mm_ : Mem env) (n_ : Nat) : LCl env :=
  gTs LCl.no [0, 3, 6, 7] 101 ts_ fun l_ => gV LCl.no l_ fun a_ l_ => rImm LCl.no 211 a_ fun xs5 => gV LCl.no l_ fun a_ l_ => rBp LCl.no 2 0 a_ <| gV LCl.no l_ fun a_ l_ => rV LCl.no a_ fun v_ => vI LCl.no .i64 v_ fun a6 => gV LCl.no l_ fun a_ l_ => rV LCl.no a_ fun v_ => vI LCl.no .i64 v_ fun a7 => gE LCl.no l_ <| mBox LCl.no 2 mm_ fun c_ m_ => gC LCl.no c_ fun a_ c_ => rV LCl.no a_ fun v_ => vI LCl.no .i64 v_ fun a8 => gC LCl.no c_ fun a_ c_ => rV LCl.no a_ fun v_ => vB LCl.no v_ fun b9 => gC LCl.no c_ fun a_ c_ => rImm LCl.no 5 a_ fun xs10 => gE LCl.no c_ <| gE LCl.no m_ <| gN LCl.no 178 n_ { α := (List S211) × Int × Int × Int × Bool × (List Int), o := f193.l3 k k xs5 a6 a7 a8 b9 xs10, w := f193.l3.w }
def f193.step {R : Type} (k : Nat) (ret : (((List S211) × Bool) ⊕ ((List S211) × Bool)) → Option R) (xs1 : List S211) (a2 : Int) (b3 : Bool) (xs4 : List Int) : Option R :=
  (f193.l3 k k xs1 (IntKind.i64.wrap (a2 + (((List.length xs4) : Nat) : Int))) (0 : Int) a2 b3 xs4).bind fun t11 => if (decide (t11.2.2.1 > (0 : Int))) = true then
      if (0 : Int) ≤ (IntKind.i64.wrap (t11.2.2.1 - (1 : Int))) then
        if (IntKind.i64.wrap (t11.2.2.1 - (1 : Int))) < ((List.length t11.1 : Nat) : Int) then
          if (0 : Int) ≤ (IntKind.i64.wrap (t11.2.2.1 - (1 : Int))) then
            if (IntKind.i64.wrap (t11.2.2.1 - (1 : Int))) < ((List.length t11.1 : Nat) : Int) then
              if (decide ((IntKind.i64.wrap ((List.getD t11.1 (Int.toNat (IntKind.i64.wrap (t11.2.2.1 - (1 : Int)))) (⟨(0 : Int), false, []⟩ : S211)).f0 + (((List.length (List.getD t11.1 (Int.toNat (IntKind.i64.wrap (t11.2.2.1 - (1 : Int)))) (⟨(0 : Int), false, []⟩ : S211)).f2) : Nat) : Int))) > t11.2.2.2.1)) = false then
                if (0 : Int) ≤ (IntKind.i64.wrap (t11.2.2.1 - (1 : Int))) then
                  if (IntKind.i64.wrap (t11.2.2.1 - (1 : Int))) < ((List.length t11.1 : Nat) : Int) then
                    if (List.getD t11.1 (Int.toNat (IntKind.i64.wrap (t11.2.2.1 - (1 : Int)))) (⟨(0 : Int), false, []⟩ : S211)).f1 = false then
                      if (decide (t11.2.2.1 < (((List.length t11.1) : Nat) : Int))) = true then
                        if (0 : Int) ≤ t11.2.2.1 then
                          if t11.2.2.1 < ((List.length t11.1 : Nat) : Int) then
                            if (decide ((List.getD t11.1 (Int.toNat t11.2.2.1) (⟨(0 : Int), false, []⟩ : S211)).f0 < t11.2.1)) = false then
                              if (0 : Int) ≤ t11.2.2.1 then
                                if t11.2.2.1 < ((List.length t11.1 : Nat) : Int) then
                                  if (decide ((List.getD t11.1 (Int.toNat t11.2.2.1) (⟨(0 : Int), false, []⟩ : S211)).f0 = t11.2.2.2.1)) = false then
                                    if t11.2.2.2.2.1 = true then
                                      ret (.inl (t11.1, false))
                                    else
                                      if (0 : Int) ≤ t11.2.2.1 then
                                        if t11.2.2.1 ≤ ((List.length t11.1 : Nat) : Int) then
                                          if (List.length ([] : List S211) + List.length (List.drop 0 (List.take (Int.toNat t11.2.2.1) t11.1))) * 40 ≤ maxN then
                                            if (List.length (([] : List S211) ++ (List.drop 0 (List.take (Int.toNat t11.2.2.1) t11.1))) + List.length ([(⟨t11.2.2.2.1, t11.2.2.2.2.1, t11.2.2.2.2.2⟩ : S211)] : List S211)) * 40 ≤ maxN then
                                              if (0 : Int) ≤ t11.2.2.1 then
                                                if t11.2.2.1 ≤ ((List.length t11.1 : Nat) : Int) then
                                                  if ((List.length t11.1 : Nat) : Int) ≤ ((List.length t11.1 : Nat) : Int) then
                                                    if (List.length ((([] : List S211) ++ (List.drop 0 (List.take (Int.toNat t11.2.2.1) t11.1))) ++ ([(⟨t11.2.2.2.1, t11.2.2.2.2.1, t11.2.2.2.2.2⟩ : S211)] : List S211)) + List.length (List.drop (Int.toNat t11.2.2.1) (List.take (Int.toNat ((List.length t11.1 : Nat) : Int)) t11.1))) * 40 ≤ maxN then
                                                      ret (.inr ((((([] : List S211) ++ (List.drop 0 (List.take (Int.toNat t11.2.2.1) t11.1))) ++ ([(⟨t11.2.2.2.1, t11.2.2.2.2.1, t11.2.2.2.2.2⟩ : S211)] : List S211)) ++ (List.drop (Int.toNat t11.2.2.1) (List.take (Int.toNat ((List.length t11.1 : Nat) : Int)) t11.1))), true))
                                                    else none
                                                  else none
                                                else none
                                              else none
                                            else none
                                          else none
                                        else none
                                      else none
                                  else
                                    ret (.inl (t11.1, false))
                                else none
                              else none
                            else
                              ret (.inl (t11.1, false))
                          else none
                        else none
                      else
                        if (0 : Int) ≤ t11.2.2.1 then
                          if t11.2.2.1 ≤ ((List.length t11.1 : Nat) : Int) then
                            if (List.length ([] : List S211) + List.length (List.drop 0 (List.take (Int.toNat t11.2.2.1) t11.1))) * 40 ≤ maxN then
                              if (List.length (([] : List S211) ++ (List.drop 0 (List.take (Int.toNat t11.2.2.1) t11.1))) + List.length ([(⟨t11.2.2.2.1, t11.2.2.2.2.1, t11.2.2.2.2.2⟩ : S211)] : List S211)) * 40 ≤ maxN then
                                if (0 : Int) ≤ t11.2.2.1 then
                                  if t11.2.2.1 ≤ ((List.length t11.1 : Nat) : Int) then
                                    if ((List.length t11.1 : Nat) : Int) ≤ ((List.length t11.1 : Nat) : Int) then
                                      if (List.length ((([] : List S211) ++ (List.drop 0 (List.take (Int.toNat t11.2.2.1) t11.1))) ++ ([(⟨t11.2.2.2.1, t11.2.2.2.2.1, t11.2.2.2.2.2⟩ : S211)] : List S211)) + List.length (List.drop (Int.toNat t11.2.2.1) (List.take (Int.toNat ((List.length t11.1 : Nat) : Int)) t11.1))) * 40 ≤ maxN then
                                        ret (.inr ((((([] : List S211) ++ (List.drop 0 (List.take (Int.toNat t11.2.2.1) t11.1))) ++ ([(⟨t11.2.2.2.1, t11.2.2.2.2.1, t11.2.2.2.2.2⟩ : S211)] : List S211)) ++ (List.drop (Int.toNat t11.2.2.1) (List.take (Int.toNat ((List.length t11.1 : Nat) : Int)) t11.1))), true))
                                      else none
                                    else none
                                  else none
                                else none
                              else none
                            else none
                          else none
                        else none
                    else
                      ret (.inl (t11.1, false))
                  else none
                else none
              else
                ret (.inl (t11.1, false))
            else none
          else none
        else none
      else none
    else
      if (decide (t11.2.2.1 < (((List.length t11.1) : Nat) : Int))) = true then
        if (0 : Int) ≤ t11.2.2.1 then
          if t11.2.2.1 < ((List.length t11.1 : Nat) : Int) then
            if (decide ((List.getD t11.1 (Int.toNat t11.2.2.1) (⟨(0 : Int), false, []⟩ : S211)).f0 < t11.2.1)) = false then
              if (0 : Int) ≤ t11.2.2.1 then
                if t11.2.2.1 < ((List.length t11.1 : Nat) : Int) then
                  if (decide ((List.getD t11.1 (Int.toNat t11.2.2.1) (⟨(0 : Int), false, []⟩ : S211)).f0 = t11.2.2.2.1)) = false then
                    if t11.2.2.2.2.1 = true then
                      ret (.inl (t11.1, false))
                    else
                      if (0 : Int) ≤ t11.2.2.1 then
                        if t11.2.2.1 ≤ ((List.length t11.1 : Nat) : Int) then
                          if (List.length ([] : List S211) + List.length (List.drop 0 (List.take (Int.toNat t11.2.2.1) t11.1))) * 40 ≤ maxN then
                            if (List.length (([] : List S211) ++ (List.drop 0 (List.take (Int.toNat t11.2.2.1) t11.1))) + List.length ([(⟨t11.2.2.2.1, t11.2.2.2.2.1, t11.2.2.2.2.2⟩ : S211)] : List S211)) * 40 ≤ maxN then
                              if (0 : Int) ≤ t11.2.2.1 then
                                if t11.2.2.1 ≤ ((List.length t11.1 : Nat) : Int) then
                                  if ((List.length t11.1 : Nat) : Int) ≤ ((List.length t11.1 : Nat) : Int) then
                                    if (List.length ((([] : List S211) ++ (List.drop 0 (List.take (Int.toNat t11.2.2.1) t11.1))) ++ ([(⟨t11.2.2.2.1, t11.2.2.2.2.1, t11.2.2.2.2.2⟩ : S211)] : List S211)) + List.length (List.drop (Int.toNat t11.2.2.1) (List.take (Int.toNat ((List.length t11.1 : Nat) : Int)) t11.1))) * 40 ≤ maxN then
                                      ret (.inr ((((([] : List S211) ++ (List.drop 0 (List.take (Int.toNat t11.2.2.1) t11.1))) ++ ([(⟨t11.2.2.2.1, t11.2.2.2.2.1, t11.2.2.2.2.2⟩ : S211)] : List S211)) ++ (List.drop (Int.toNat t11.2.2.1) (List.take (Int.toNat ((List.length t11.1 : Nat) : Int)) t11.1))), true))
                                    else none
                                  else none
                                else none
                              else none
                            else none
                          else none
                        else none
                      else none
                  else
                    ret (.inl (t11.1, false))
                else none
              else none
            else
              ret (.inl (t11.1, false))
          else none
        else none
      else
        if (0 : Int) ≤ t11.2.2.1 then
          if t11.2.2.1 ≤ ((List.length t11.1 : Nat) : Int) then
            if (List.length ([] : List S211) + List.length (List.drop 0 (List.take (Int.toNat t11.2.2.1) t11.1))) * 40 ≤ maxN then
              if (List.length (([] : List S211) ++ (List.drop 0 (List.take (Int.toNat t11.2.2.1) t11.1))) + List.length ([(⟨t11.2.2.2.1, t11.2.2.2.2.1, t11.2.2.2.2.2⟩ : S211)] : List S211)) * 40 ≤ maxN then
                if (0 : Int) ≤ t11.2.2.1 then
                  if t11.2.2.1 ≤ ((List.length t11.1 : Nat) : Int) then
                    if ((List.length t11.1 : Nat) : Int) ≤ ((List.length t11.1 : Nat) : Int) then
                      if (List.length ((([] : List S211) ++ (List.drop 0 (List.take (Int.toNat t11.2.2.1) t11.1))) ++ ([(⟨t11.2.2.2.1, t11.2.2.2.2.1, t11.2.2.2.2.2⟩ : S211)] : List S211)) + List.length (List.drop (Int.toNat t11.2.2.1) (List.take (Int.toNat ((List.length t11.1 : Nat) : Int)) t11.1))) * 40 ≤ maxN then
                        ret (.inr ((((([] : List S211) ++ (List.drop 0 (List.take (Int.toNat t11.2.2.1) t11.1))) ++ ([(⟨t11.2.2.2.1, t11.2.2.2.2.1, t11.2.2.2.2.2⟩ : S211)] : List S211)) ++ (List.drop (Int.toNat t11.2.2.1) (List.take (Int.toNat ((List.length t11.1 : Nat) : Int)) t11.1))), true))
                      else none
                    else none
                  else none
                else none
              else none
            else none
          else none
        else none
def f193 (k : Nat) (xs1 : List S211) (a2 : Int) (b3 : Bool) (xs4 : List Int) : Option (((List S211) × Bool) ⊕ ((List S211) × Bool)) := f193.step k some xs1 a2 b3 xs4
def f193.w {R : Type} : (((List S211) × Bool) ⊕ ((List S211) × Bool)) → (Res env → Option R) → Option R := fun x K => Sum.elim (fun t13 => K ⟨.tup [.c (.imm 211 t13.1), .c (.s (.bool t13.2))], [[], []]⟩) (fun t14 => K ⟨.tup [.c (.own false 211 t14.1), .c (.s (.bool t14.2))], [[], []]⟩) x
theorem f193.wn (x : (((List S211) × Bool) ⊕ ((List S211) × Bool))) : ∃ res, ∀ {R : Type} (K : Res env → Option R), f193.w x K = K res := by
  rcases x with x | x <;> exact ⟨_, fun _ => rfl⟩
def f193.hd (k : Nat) (ps_ : List (P2 env)) : Cl env :=
  gC Cl.no ps_ fun p_ ps_ => qC Cl.no p_ fun c_ => qSl Cl.no 211 c_ fun xs1 => gC Cl.no ps_ fun p_ ps_ => qG Cl.no p_ fun cs_ => gC Cl.no cs_ fun c_ cs_ => qS Cl.no c_ fun v_ => vI Cl.no .i64 v_ fun a2 => gC Cl.no cs_ fun c_ cs_ => qS Cl.no c_ fun v_ => vB Cl.no v_ fun b3 => gC Cl.no cs_ fun c_ cs_ => qSl Cl.no 5 c_ fun xs4 => gE Cl.no cs_ <| gE Cl.no ps_ <| { α := ((List S211) × Bool) ⊕ ((List S211) × Bool), o := f193 k xs1 a2 b3 xs4, w := f193.w, nat := fun x _ => f193.wn x }
def f193.e (k : Nat) : Entry env := ⟨fun ps => f193.hd k (coer [[.rd 211], [.no, .no, .rd 5]] ps), [], []⟩
def f193.X (k : Nat) : Ctx env := { C := lookE [], L := lookE [(3, fun S => f193.l3.hd k S.ts S.m S.n)], J := lookE [], keep := lookD [(3, [0, 3, 6, 7])], keepX := lookD [(3, [0, 3, 6, 7])], span := lookN [(3, 272)], eff := fun n => memN n [7], prep := lookP [], np := 0 }
theorem f193.l3.nat {R : Type} (k : Nat) (rec_ : (List S211) → Int → Int → Int → Bool → (List Int) → Option ((List S211) × Int × Int × Int × Bool × (List Int))) (g : ((List S211) × Int × Int × Int × Bool × (List Int)) → Option R) (xs5 : List S211) (a6 : Int) (a7 : Int) (a8 : Int) (b9 : Bool) (xs10 : List Int) : (f193.l3.step k rec_ some xs5 a6 a7 a8 b9 xs10).bind g = f193.l3.step k (fun xs5 a6 a7 a8 b9 xs10 => (rec_ xs5 a6 a7 a8 b9 xs10).bind g) g xs5 a6 a7 a8 b9 xs10 := by
  simp only [f193.l3.step, bind_ite, bind_sum, Option.bind_assoc, Option.bind_some, Option.bind_none]
theorem f193.l3.good (k : Nat) (xs5 : List S211) (a6 : Int) (a7 : Int) (a8 : Int) (b9 : Bool) (xs10 : List Int) : GoodL (f193.X k) (nthC 0 (loopsOf (bodyOf Try.f193))) (f193.l3.st xs5 a6 a7 a8 b9 xs10) { α := ((List S211) × Int × Int × Int × Bool × (List Int)), o := f193.l3 k k xs5 a6 a7 a8 b9 xs10, w := f193.l3.w } :=
  loop_good (ι := (List S211) × Int × Int × Int × Bool × (List Int)) (α := ((List S211) × Int × Int × Int × Bool × (List Int))) (fun i => f193.l3.st i.1 i.2.1 i.2.2.1 i.2.2.2.1 i.2.2.2.2.1 i.2.2.2.2.2) (fun j i => f193.l3 k j i.1 i.2.1 i.2.2.1 i.2.2.2.1 i.2.2.2.2.1 i.2.2.2.2.2) f193.l3.w (fun rec_ ret i => f193.l3.step k (fun xs5 a6 a7 a8 b9 xs10 => rec_ (xs5, a6, a7, a8, b9, xs10)) ret i.1 i.2.1 i.2.2.1 i.2.2.2.1 i.2.2.2.2.1 i.2.2.2.2.2)
    (fun _ => rfl) (fun _ _ => rfl) (fun rec_ g i => f193.l3.nat k _ g i.1 i.2.1 i.2.2.1 i.2.2.2.1 i.2.2.2.2.1 i.2.2.2.2.2) (fun {R} i0 i rec_ K => by kernel_rfl) k (xs5, a6, a7, a8, b9, xs10)
theorem f193.l3.all (k : Nat) (S : St env) : GoodL (f193.X k) (nthC 0 (loopsOf (bodyOf Try.f193))) S (f193.l3.hd k S.ts S.m S.n) := by
  obtain ⟨ts_, m_, n_⟩ := S
  show GoodL _ _ _ (f193.l3.hd k ts_ m_ n_)
  unfold f193.l3.hd
  refine gTs_ok (p := GoodL _ _ _) goodL_no fun _ h => ?_
  subst h
  refine gV_ok (p := GoodL _ _ _) goodL_no fun _ _ h => ?_
  subst h
  refine rImm_ok (p := GoodL _ _ _) goodL_no fun _ h => ?_
  subst h
  refine gV_ok (p := GoodL _ _ _) goodL_no fun _ _ h => ?_
  subst h
  refine rBp_ok (p := GoodL _ _ _) goodL_no fun h => ?_
  subst h
  refine gV_ok (p := GoodL _ _ _) goodL_no fun _ _ h => ?_
  subst h
  refine rV_ok (p := GoodL _ _ _) goodL_no fun _ h => ?_
  subst h
  refine vI_ok (p := GoodL _ _ _) goodL_no fun _ h => ?_
  subst h
  refine gV_ok (p := GoodL _ _ _) goodL_no fun _ _ h => ?_
  subst h
  refine rV_ok (p := GoodL _ _ _) goodL_no fun _ h => ?_
  subst h
  refine vI_ok (p := GoodL _ _ _) goodL_no fun _ h => ?_
  subst h
  refine gE_ok (p := GoodL _ _ _) goodL_no fun h => ?_
  subst h
  refine mBox_ok (p := GoodL _ _ _) goodL_no fun _ _ h => ?_
  subst h
  refine gC_ok (p := GoodL _ _ _) goodL_no fun _ _ h => ?_
  subst h
  refine rV_ok (p := GoodL _ _ _) goodL_no fun _ h => ?_
  subst h
  refine vI_ok (p := GoodL _ _ _) goodL_no fun _ h => ?_
  subst h
  refine gC_ok (p := GoodL _ _ _) goodL_no fun _ _ h => ?_
  subst h
  refine rV_ok (p := GoodL _ _ _) goodL_no fun _ h => ?_
  subst h
  refine vB_ok (p := GoodL _ _ _) goodL_no fun _ h => ?_
  subst h
  refine gC_ok (p := GoodL _ _ _) goodL_no fun _ _ h => ?_
  subst h
  refine rImm_ok (p := GoodL _ _ _) goodL_no fun _ h => ?_
  subst h
  refine gE_ok (p := GoodL _ _ _) goodL_no fun h => ?_
  subst h
  refine gE_ok (p := GoodL _ _ _) goodL_no fun h => ?_
  subst h
  refine gN_ok (p := GoodL _ _ _) goodL_no fun h => ?_
  subst h
  exact f193.l3.good k _ _ _ _ _ _
theorem f193.nat {R : Type} (k : Nat) (g : (((List S211) × Bool) ⊕ ((List S211) × Bool)) → Option R) (xs1 : List S211) (a2 : Int) (b3 : Bool) (xs4 : List Int) : f193.step k g xs1 a2 b3 xs4 = (f193 k xs1 a2 b3 xs4).bind g := by
  simp only [f193, f193.step, bind_ite, bind_sum, Option.bind_assoc, Option.bind_some, Option.bind_none]
theorem f193.ev (k : Nat) (xs1 : List S211) (a2 : Int) (b3 : Bool) (xs4 : List Int) : evF (f193.X k) (bodyOf Try.f193) Try.f193.ntmps Try.f193.results.toList [.v (.c (.sl 211 xs1)), .g [.s (.int .i64 a2), .s (.bool b3), .sl 5 xs4]] = f193.step k (fun x => f193.w x some) xs1 a2 b3 xs4 := by kernel_rfl
theorem f193.hok (k : Nat) : HOK (f193.X k) (bodyOf Try.f193) where
  l := allP_mem (by exact ⟨ls_of (h0 := fun S => f193.l3.hd k S.ts S.m S.n) (by kernel_rfl) (f193.l3.all k), trivial⟩)
  j := allP_mem (by exact trivial)
theorem f193.sound0 (k : Nat) : SoundC env Try.prog 193 (f193.hd k) := by
  intro ps_
  show GoodC _ _ _ ps_ (f193.hd k ps_)
  unfold f193.hd
  refine gC_ok (p := GoodC env Try.prog 193 _) goodC_no fun _ _ h => ?_
  subst h
  refine qC_ok (p := GoodC env Try.prog 193 _) goodC_no fun _ h => ?_
  subst h
  refine qSl_ok (p := GoodC env Try.prog 193 _) goodC_no fun _ h => ?_
  subst h
  refine gC_ok (p := GoodC env Try.prog 193 _) goodC_no fun _ _ h => ?_
  subst h
  refine qG_ok (p := GoodC env Try.prog 193 _) goodC_no fun _ h => ?_
  subst h
  refine gC_ok (p := GoodC env Try.prog 193 _) goodC_no fun _ _ h => ?_
  subst h
  refine qS_ok (p := GoodC env Try.prog 193 _) goodC_no fun _ h => ?_
  subst h
  refine vI_ok (p := GoodC env Try.prog 193 _) goodC_no fun _ h => ?_
  subst h
  refine gC_ok (p := GoodC env Try.prog 193 _) goodC_no fun _ _ h => ?_
  subst h
  refine qS_ok (p := GoodC env Try.prog 193 _) goodC_no fun _ h => ?_
  subst h
  refine vB_ok (p := GoodC env Try.prog 193 _) goodC_no fun _ h => ?_
  subst h
  refine gC_ok (p := GoodC env Try.prog 193 _) goodC_no fun _ _ h => ?_
  subst h
  refine qSl_ok (p := GoodC env Try.prog 193 _) goodC_no fun _ h => ?_
  subst h
  refine gE_ok (p := GoodC env Try.prog 193 _) goodC_no fun h => ?_
  subst h
  refine gE_ok (p := GoodC env Try.prog 193 _) goodC_no fun h => ?_
  subst h
  exact fun_good (fun_sound envOK (cs_sound _ (by exact trivial)) (f193.hok k) Try.func193 rfl) ((f193.ev k _ _ _ _).trans (f193.nat k _ _ _ _ _))
theorem f193.sound (k : Nat) : SoundC env Try.prog 193 (f193.e k).F := soundC_coer (f193.sound0 k) [[.rd 211], [.no, .no, .rd 5]]
theorem f193.fnok : FnOK Try.prog 193 := fn_ok Try.func193 (by kernel_rfl) rfl
def f194.step {R : Type} (k : Nat) (ret : ((List S104)) → Option R) (xs1 : List S104) (a2 : Int) : Option R :=
  if (0 : Int) ≤ a2 then
    if a2 ≤ ((List.length xs1 : Nat) : Int) then
      if (List.length ([] : List S104) + List.length (List.drop 0 (List.take (Int.toNat a2) xs1))) * 80 ≤ maxN then
        if (0 : Int) ≤ (IntKind.i64.wrap (a2 + (1 : Int))) then
          if (IntKind.i64.wrap (a2 + (1 : Int))) ≤ ((List.length xs1 : Nat) : Int) then
            if ((List.length xs1 : Nat) : Int) ≤ ((List.length xs1 : Nat) : Int) then
              if (List.length (([] : List S104) ++ (List.drop 0 (List.take (Int.toNat a2) xs1))) + List.length (List.drop (Int.toNat (IntKind.i64.wrap (a2 + (1 : Int)))) (List.take (Int.toNat ((List.length xs1 : Nat) : Int)) xs1))) * 80 ≤ maxN then
                ret ((([] : List S104) ++ (List.drop 0 (List.take (Int.toNat a2) xs1))) ++ (List.drop (Int.toNat (IntKind.i64.wrap (a2 + (1 : Int)))) (List.take (Int.toNat ((List.length xs1 : Nat) : Int)) xs1)))
              else none
            else none
          else none
        else none
      else none
    else none
  else none
def f194 (k : Nat) (xs1 : List S104) (a2 : Int) : Option ((List S104)) := f194.step k some xs1 a2
def f194.w {R : Type} : ((List S104)) → (Res env → Option R) → Option R := fun t3 K => K ⟨.v (.c (.own false 104 t3)), [[], []]⟩
theorem f194.wn (x : ((List S104))) : ∃ res, ∀ {R : Type} (K : Res env → Option R), f194.w x K = K res := by
  exact ⟨_, fun _ => rfl⟩
def f194.hd (k : Nat) (ps_ : List (P2 env)) : Cl env :=
  gC Cl.no ps_ fun p_ ps_ => qC Cl.no p_ fun c_ => qSl Cl.no 104 c_ fun xs1 => gC Cl.no ps_ fun p_ ps_ => qC Cl.no p_ fun c_ => qS Cl.no c_ fun v_ => vI Cl.no .i64 v_ fun a2 => gE Cl.no ps_ <| { α := (List S104), o := f194 k xs1 a2, w := f194.w, nat := fun x _ => f194.wn x }
def f194.e (k : Nat) : Entry env := ⟨fun ps => f194.hd k (coer [[.rd 104], [.no]] ps), [], []⟩
def f194.X (k : Nat) : Ctx env := { C := lookE [], L := lookE [], J := lookE [], keep := lookD [], keepX := lookD [], span := lookN [], eff := fun n => memN n [1], prep := lookP [], np := 0 }
theorem f194.nat {R : Type} (k : Nat) (g : ((List S104)) → Option R) (xs1 : List S104) (a2 : Int) : f194.step k g xs1 a2 = (f194 k xs1 a2).bind g := by
  simp only [f194, f194.step, bind_ite, bind_sum, Option.bind_assoc, Option.bind_some, Option.bind_none]
theorem f194.ev (k : Nat) (xs1 : List S104) (a2 : Int) : evF (f194.X k) (bodyOf Try.f194) Try.f194.ntmps Try.f194.results.toList [.v (.c (.sl 104 xs1)), .v (.c (.s (.int .i64 a2)))] = f194.step k (fun x => f194.w x some) xs1 a2 := by kernel_rfl
theorem f194.hok (k : Nat) : HOK (f194.X k) (bodyOf Try.f194) where
  l := allP_mem (by exact trivial)
  j := allP_mem (by exact trivial)
theorem f194.sound0 (k : Nat) : SoundC env Try.prog 194 (f194.hd k) := by
  intro ps_
  show GoodC _ _ _ ps_ (f194.hd k ps_)
  unfold f194.hd
  refine gC_ok (p := GoodC env Try.prog 194 _) goodC_no fun _ _ h => ?_
  subst h
  refine qC_ok (p := GoodC env Try.prog 194 _) goodC_no fun _ h => ?_
  subst h
  refine qSl_ok (p := GoodC env Try.prog 194 _) goodC_no fun _ h => ?_
  subst h
  refine gC_ok (p := GoodC env Try.prog 194 _) goodC_no fun _ _ h => ?_
  subst h
  refine qC_ok (p := GoodC env Try.prog 194 _) goodC_no fun _ h => ?_
  subst h
  refine qS_ok (p := GoodC env Try.prog 194 _) goodC_no fun _ h => ?_
  subst h
  refine vI_ok (p := GoodC env Try.prog 194 _) goodC_no fun _ h => ?_
  subst h
  refine gE_ok (p := GoodC env Try.prog 194 _) goodC_no fun h => ?_
  subst h
  exact fun_good (fun_sound envOK (cs_sound _ (by exact trivial)) (f194.hok k) Try.func194 rfl) ((f194.ev k _ _).trans (f194.nat k _ _ _))
theorem f194.sound (k : Nat) : SoundC env Try.prog 194 (f194.e k).F := soundC_coer (f194.sound0 k) [[.rd 104], [.no]]
theorem f194.says (k : Nat) (xs1 : List S104) (a2 : Int) (t4 : (List S104)) (h_ : f194 k xs1 a2 = some t4) : SoundAt env Try.prog 194 [.v (.c (.sl 104 xs1)), .v (.c (.s (.int .i64 a2)))] ⟨.v (.c (.own false 104 t4)), [[], []]⟩ :=
  fun_sound envOK (cs_sound _ (by exact trivial)) (f194.hok k) Try.func194 rfl _ _ (((f194.ev k xs1 a2).trans (f194.nat k _ xs1 a2)).trans (by rw [h_]; rfl))
theorem f194.fnok : FnOK Try.prog 194 := fn_ok Try.func194 (by kernel_rfl) rfl
def f178.l3.step {R : Type} (k : Nat) (rec_ : Int → Int → ByteArray → ByteArray → Int → Int → Int → (List S211) → Option R) (ret : ((Bool × ByteArray × ByteArray × Int × Int × Int × (List S211)) ⊕ (ByteArray × ByteArray × Int × Int × Int × (List S211))) → Option R) (a7 : Int) (a8 : Int) (s9 : ByteArray) (s10 : ByteArray) (a11 : Int) (a12 : Int) (a13 : Int) (xs14 : List S211) : Option R :=
  if (decide (a8 < (((List.length xs14) : Nat) : Int))) = true then
    if (0 : Int) ≤ a8 then
      if a8 < ((List.length xs14 : Nat) : Int) then
        if (decide ((List.getD xs14 (Int.toNat a8) (⟨(0 : Int), false, []⟩ : S211)).f0 ≠ a7)) = true then
          ret (.inl (false, s9, s10, a11, a12, a13, xs14))
        else
          if (0 : Int) ≤ a8 then
            if a8 < ((List.length xs14 : Nat) : Int) then
              rec_ (IntKind.i64.wrap (a7 + (((List.length (List.getD xs14 (Int.toNat a8) (⟨(0 : Int), false, []⟩ : S211)).f2) : Nat) : Int))) (IntKind.i64.wrap (a8 + (1 : Int))) s9 s10 a11 a12 a13 xs14
            else none
          else none
      else none
    else none
  else
    ret (.inr (s9, s10, a11, a12, a13, xs14))
def f178.l3 (k : Nat) : Nat → Int → Int → ByteArray → ByteArray → Int → Int → Int → (List S211) → Option ((Bool × ByteArray × ByteArray × Int × Int × Int × (List S211)) ⊕ (ByteArray × ByteArray × Int × Int × Int × (List S211)))
  | 0, _, _, _, _, _, _, _, _ => none
  | j + 1, a7, a8, s9, s10, a11, a12, a13, xs14 => f178.l3.step k (fun a7 a8 s9 s10 a11 a12 a13 xs14 => f178.l3 k j a7 a8 s9 s10 a11 a12 a13 xs14) some a7 a8 s9 s10 a11 a12 a13 xs14
def f178.l3.w {R : Type} : ((Bool × ByteArray × ByteArray × Int × Int × Int × (List S211)) ⊕ (ByteArray × ByteArray × Int × Int × Int × (List S211))) → (Exit → St env → Option R) → Option R := fun x K => Sum.elim (fun t17 => K .ret ⟨fullT [1, 2] 0 38 [.v (.c (.bp 1 0)), .v (.c (.s (.bool t17.1)))], [(1, .box [.s (.string t17.2.1), .s (.string t17.2.2.1), .s (.int .i64 t17.2.2.2.1), .s (.int .i64 t17.2.2.2.2.1), .s (.int .i64 t17.2.2.2.2.2.1), .imm 211 t17.2.2.2.2.2.2])], 497⟩) (fun t18 => K (.exit 0) ⟨fullT [1] 0 38 [.v (.c (.bp 1 0))], [(1, .box [.s (.string t18.1), .s (.string t18.2.1), .s (.int .i64 t18.2.2.1), .s (.int .i64 t18.2.2.2.1), .s (.int .i64 t18.2.2.2.2.1), .imm 211 t18.2.2.2.2.2])], 497⟩) x
def f178.l3.st (a7 : Int) (a8 : Int) (s9 : ByteArray) (s10 : ByteArray) (a11 : Int) (a12 : Int) (a13 : Int) (xs14 : List S211) : St env := ⟨fullT [1, 3, 4] 0 38 [.v (.c (.bp 1 0)), .v (.c (.s (.int .i64 a7))), .v (.c (.s (.int .i64 a8)))], [(1, .box [.s (.string s9), .s (.string s10), .s (.int .i64 a11), .s (.int .i64 a12), .s (.int .i64 a13), .imm 211 xs14])], 65⟩
def f178.l3.hd (k : Nat) (ts_ : List (AV env)) (mm_ : Mem env) (n_ : Nat) : LCl env :=
  gTs LCl.no [1, 3, 4] 38 ts_ fun l_ => gV LCl.no l_ fun a_ l_ => rBp LCl.no 1 0 a_ <| gV LCl.no l_ fun a_ l_ => rV LCl.no a_ fun v_ => vI LCl.no .i64 v_ fun a7 => gV LCl.no l_ fun a_ l_ => rV LCl.no a_ fun v_ => vI LCl.no .i64 v_ fun a8 => gE LCl.no l_ <| mBox LCl.no 1 mm_ fun c_ m_ => gC LCl.no c_ fun a_ c_ => rV LCl.no a_ fun v_ => vS LCl.no v_ fun s9 => gC LCl.no c_ fun a_ c_ => rV LCl.no a_ fun v_ => vS LCl.no v_ fun s10 => gC LCl.no c_ fun a_ c_ => rV LCl.no a_ fun v_ => vI LCl.no .i64 v_ fun a11 => gC LCl.no c_ fun a_ c_ => rV LCl.no a_ fun v_ => vI LCl.no .i64 v_ fun a12 => gC LCl.no c_ fun a_ c_ => rV LCl.no a_ fun v_ => vI LCl.no .i64 v_ fun a13 => gC LCl.no c_ fun a_ c_ => rImm LCl.no 211 a_ fun xs14 => gE LCl.no c_ <| gE LCl.no m_ <| gN LCl.no 65 n_ { α := (Bool × ByteArray × ByteArray × Int × Int × Int × (List S211)) ⊕ (ByteArray × ByteArray × Int × Int × Int × (List S211)), o := f178.l3 k k a7 a8 s9 s10 a11 a12 a13 xs14, w := f178.l3.w }
def f178.step {R : Type} (k : Nat) (ret : Bool → Option R) (s1 : ByteArray) (s2 : ByteArray) (a3 : Int) (a4 : Int) (a5 : Int) (xs6 : List S211) : Option R :=
  (f178.l3 k k (0 : Int) (0 : Int) s1 s2 a3 a4 a5 xs6).bind (Sum.elim (fun t15 => ret t15.1) (fun t16 => if (0 : Int) ≤ (IntKind.i64.wrap ((((List.length t16.2.2.2.2.2) : Nat) : Int) - (1 : Int))) then
      if (IntKind.i64.wrap ((((List.length t16.2.2.2.2.2) : Nat) : Int) - (1 : Int))) < ((List.length t16.2.2.2.2.2 : Nat) : Int) then
        ret (List.getD t16.2.2.2.2.2 (Int.toNat (IntKind.i64.wrap ((((List.length t16.2.2.2.2.2) : Nat) : Int) - (1 : Int)))) (⟨(0 : Int), false, []⟩ : S211)).f1
      else none
    else none))
def f178 (k : Nat) (s1 : ByteArray) (s2 : ByteArray) (a3 : Int) (a4 : Int) (a5 : Int) (xs6 : List S211) : Option Bool := f178.step k some s1 s2 a3 a4 a5 xs6
def f178.w {R : Type} : Bool → (Res env → Option R) → Option R := fun t19 K => K ⟨.v (.c (.s (.bool t19))), [[]]⟩
theorem f178.wn (x : Bool) : ∃ res, ∀ {R : Type} (K : Res env → Option R), f178.w x K = K res := by
  exact ⟨_, fun _ => rfl⟩
def f178.hd (k : Nat) (ps_ : List (P2 env)) : Cl env :=
  gC Cl.no ps_ fun p_ ps_ => qG Cl.no p_ fun cs_ => gC Cl.no cs_ fun c_ cs_ => qS Cl.no c_ fun v_ => vS Cl.no v_ fun s1 => gC Cl.no cs_ fun c_ cs_ => qS Cl.no c_ fun v_ => vS Cl.no v_ fun s2 => gC Cl.no cs_ fun c_ cs_ => qS Cl.no c_ fun v_ => vI Cl.no .i64 v_ fun a3 => gC Cl.no cs_ fun c_ cs_ => qS Cl.no c_ fun v_ => vI Cl.no .i64 v_ fun a4 => gC Cl.no cs_ fun c_ cs_ => qS Cl.no c_ fun v_ => vI Cl.no .i64 v_ fun a5 => gC Cl.no cs_ fun c_ cs_ => qSl Cl.no 211 c_ fun xs6 => gE Cl.no cs_ <| gE Cl.no ps_ <| { α := Bool, o := f178 k s1 s2 a3 a4 a5 xs6, w := f178.w, nat := fun x _ => f178.wn x }
def f178.e (k : Nat) : Entry env := ⟨fun ps => f178.hd k (coer [[.no, .no, .no, .no, .no, .rd 211]] ps), [], []⟩
def f178.X (k : Nat) : Ctx env := { C := lookE [], L := lookE [(3, fun S => f178.l3.hd k S.ts S.m S.n)], J := lookE [], keep := lookD [(3, [1, 3, 4])], keepX := lookD [(3, [1, 2])], span := lookN [(3, 432)], eff := fun n => memN n [], prep := lookP [], np := 0 }
theorem f178.l3.nat {R : Type} (k : Nat) (rec_ : Int → Int → ByteArray → ByteArray → Int → Int → Int → (List S211) → Option ((Bool × ByteArray × ByteArray × Int × Int × Int × (List S211)) ⊕ (ByteArray × ByteArray × Int × Int × Int × (List S211)))) (g : ((Bool × ByteArray × ByteArray × Int × Int × Int × (List S211)) ⊕ (ByteArray × ByteArray × Int × Int × Int × (List S211))) → Option R) (a7 : Int) (a8 : Int) (s9 : ByteArray) (s10 : ByteArray) (a11 : Int) (a12 : Int) (a13 : Int) (xs14 : List S211) : (f178.l3.step k rec_ some a7 a8 s9 s10 a11 a12 a13 xs14).bind g = f178.l3.step k (fun a7 a8 s9 s10 a11 a12 a13 xs14 => (rec_ a7 a8 s9 s10 a11 a12 a13 xs14).bind g) g a7 a8 s9 s10 a11 a12 a13 xs14 := by
  simp only [f178.l3.step, bind_ite, bind_sum, Option.bind_assoc, Option.bind_some, Option.bind_none]
theorem f178.l3.good (k : Nat) (a7 : Int) (a8 : Int) (s9 : ByteArray) (s10 : ByteArray) (a11 : Int) (a12 : Int) (a13 : Int) (xs14 : List S211) : GoodL (f178.X k) (nthC 0 (loopsOf (bodyOf Try.f178))) (f178.l3.st a7 a8 s9 s10 a11 a12 a13 xs14) { α := ((Bool × ByteArray × ByteArray × Int × Int × Int × (List S211)) ⊕ (ByteArray × ByteArray × Int × Int × Int × (List S211))), o := f178.l3 k k a7 a8 s9 s10 a11 a12 a13 xs14, w := f178.l3.w } :=
  loop_good (ι := Int × Int × ByteArray × ByteArray × Int × Int × Int × (List S211)) (α := ((Bool × ByteArray × ByteArray × Int × Int × Int × (List S211)) ⊕ (ByteArray × ByteArray × Int × Int × Int × (List S211)))) (fun i => f178.l3.st i.1 i.2.1 i.2.2.1 i.2.2.2.1 i.2.2.2.2.1 i.2.2.2.2.2.1 i.2.2.2.2.2.2.1 i.2.2.2.2.2.2.2) (fun j i => f178.l3 k j i.1 i.2.1 i.2.2.1 i.2.2.2.1 i.2.2.2.2.1 i.2.2.2.2.2.1 i.2.2.2.2.2.2.1 i.2.2.2.2.2.2.2) f178.l3.w (fun rec_ ret i => f178.l3.step k (fun a7 a8 s9 s10 a11 a12 a13 xs14 => rec_ (a7, a8, s9, s10, a11, a12, a13, xs14)) ret i.1 i.2.1 i.2.2.1 i.2.2.2.1 i.2.2.2.2.1 i.2.2.2.2.2.1 i.2.2.2.2.2.2.1 i.2.2.2.2.2.2.2)
    (fun _ => rfl) (fun _ _ => rfl) (fun rec_ g i => f178.l3.nat k _ g i.1 i.2.1 i.2.2.1 i.2.2.2.1 i.2.2.2.2.1 i.2.2.2.2.2.1 i.2.2.2.2.2.2.1 i.2.2.2.2.2.2.2) (fun {R} i0 i rec_ K => by kernel_rfl) k (a7, a8, s9, s10, a11, a12, a13, xs14)
theorem f178.l3.all (k : Nat) (S : St env) : GoodL (f178.X k) (nthC 0 (loopsOf (bodyOf Try.f178))) S (f178.l3.hd k S.ts S.m S.n) := by
  obtain ⟨ts_, m_, n_⟩ := S
  show GoodL _ _ _ (f178.l3.hd k ts_ m_ n_)
  unfold f178.l3.hd
  refine gTs_ok (p := GoodL _ _ _) goodL_no fun _ h => ?_
  subst h
  refine gV_ok (p := GoodL _ _ _) goodL_no fun _ _ h => ?_
  subst h
  refine rBp_ok (p := GoodL _ _ _) goodL_no fun h => ?_
  subst h
  refine gV_ok (p := GoodL _ _ _) goodL_no fun _ _ h => ?_
  subst h
  refine rV_ok (p := GoodL _ _ _) goodL_no fun _ h => ?_
  subst h
  refine vI_ok (p := GoodL _ _ _) goodL_no fun _ h => ?_
  subst h
  refine gV_ok (p := GoodL _ _ _) goodL_no fun _ _ h => ?_
  subst h
  refine rV_ok (p := GoodL _ _ _) goodL_no fun _ h => ?_
  subst h
  refine vI_ok (p := GoodL _ _ _) goodL_no fun _ h => ?_
  subst h
  refine gE_ok (p := GoodL _ _ _) goodL_no fun h => ?_
  subst h
  refine mBox_ok (p := GoodL _ _ _) goodL_no fun _ _ h => ?_
  subst h
  refine gC_ok (p := GoodL _ _ _) goodL_no fun _ _ h => ?_
  subst h
  refine rV_ok (p := GoodL _ _ _) goodL_no fun _ h => ?_
  subst h
  refine vS_ok (p := GoodL _ _ _) goodL_no fun _ h => ?_
  subst h
  refine gC_ok (p := GoodL _ _ _) goodL_no fun _ _ h => ?_
  subst h
  refine rV_ok (p := GoodL _ _ _) goodL_no fun _ h => ?_
  subst h
  refine vS_ok (p := GoodL _ _ _) goodL_no fun _ h => ?_
  subst h
  refine gC_ok (p := GoodL _ _ _) goodL_no fun _ _ h => ?_
  subst h
  refine rV_ok (p := GoodL _ _ _) goodL_no fun _ h => ?_
  subst h
  refine vI_ok (p := GoodL _ _ _) goodL_no fun _ h => ?_
  subst h
  refine gC_ok (p := GoodL _ _ _) goodL_no fun _ _ h => ?_
  subst h
  refine rV_ok (p := GoodL _ _ _) goodL_no fun _ h => ?_
  subst h
  refine vI_ok (p := GoodL _ _ _) goodL_no fun _ h => ?_
  subst h
  refine gC_ok (p := GoodL _ _ _) goodL_no fun _ _ h => ?_
  subst h
  refine rV_ok (p := GoodL _ _ _) goodL_no fun _ h => ?_
  subst h
  refine vI_ok (p := GoodL _ _ _) goodL_no fun _ h => ?_
  subst h
  refine gC_ok (p := GoodL _ _ _) goodL_no fun _ _ h => ?_
  subst h
  refine rImm_ok (p := GoodL _ _ _) goodL_no fun _ h => ?_
  subst h
  refine gE_ok (p := GoodL _ _ _) goodL_no fun h => ?_
  subst h
  refine gE_ok (p := GoodL _ _ _) goodL_no fun h => ?_
  subst h
  refine gN_ok (p := GoodL _ _ _) goodL_no fun h => ?_
  subst h
  exact f178.l3.good k _ _ _ _ _ _ _ _
theorem f178.nat {R : Type} (k : Nat) (g : Bool → Option R) (s1 : ByteArray) (s2 : ByteArray) (a3 : Int) (a4 : Int) (a5 : Int) (xs6 : List S211) : f178.step k g s1 s2 a3 a4 a5 xs6 = (f178 k s1 s2 a3 a4 a5 xs6).bind g := by
  simp only [f178, f178.step, bind_ite, bind_sum, Option.bind_assoc, Option.bind_some, Option.bind_none]
theorem f178.ev (k : Nat) (s1 : ByteArray) (s2 : ByteArray) (a3 : Int) (a4 : Int) (a5 : Int) (xs6 : List S211) : evF (f178.X k) (bodyOf Try.f178) Try.f178.ntmps Try.f178.results.toList [.g [.s (.string s1), .s (.string s2), .s (.int .i64 a3), .s (.int .i64 a4), .s (.int .i64 a5), .sl 211 xs6]] = f178.step k (fun x => f178.w x some) s1 s2 a3 a4 a5 xs6 := by kernel_rfl
theorem f178.hok (k : Nat) : HOK (f178.X k) (bodyOf Try.f178) where
  l := allP_mem (by exact ⟨ls_of (h0 := fun S => f178.l3.hd k S.ts S.m S.n) (by kernel_rfl) (f178.l3.all k), trivial⟩)
  j := allP_mem (by exact trivial)
theorem f178.sound0 (k : Nat) : SoundC env Try.prog 178 (f178.hd k) := by
  intro ps_
  show GoodC _ _ _ ps_ (f178.hd k ps_)
  unfold f178.hd
  refine gC_ok (p := GoodC env Try.prog 178 _) goodC_no fun _ _ h => ?_
  subst h
  refine qG_ok (p := GoodC env Try.prog 178 _) goodC_no fun _ h => ?_
  subst h
  refine gC_ok (p := GoodC env Try.prog 178 _) goodC_no fun _ _ h => ?_
  subst h
  refine qS_ok (p := GoodC env Try.prog 178 _) goodC_no fun _ h => ?_
  subst h
  refine vS_ok (p := GoodC env Try.prog 178 _) goodC_no fun _ h => ?_
  subst h
  refine gC_ok (p := GoodC env Try.prog 178 _) goodC_no fun _ _ h => ?_
  subst h
  refine qS_ok (p := GoodC env Try.prog 178 _) goodC_no fun _ h => ?_
  subst h
  refine vS_ok (p := GoodC env Try.prog 178 _) goodC_no fun _ h => ?_
  subst h
  refine gC_ok (p := GoodC env Try.prog 178 _) goodC_no fun _ _ h => ?_
  subst h
  refine qS_ok (p := GoodC env Try.prog 178 _) goodC_no fun _ h => ?_
  subst h
  refine vI_ok (p := GoodC env Try.prog 178 _) goodC_no fun _ h => ?_
  subst h
  refine gC_ok (p := GoodC env Try.prog 178 _) goodC_no fun _ _ h => ?_
  subst h
  refine qS_ok (p := GoodC env Try.prog 178 _) goodC_no fun _ h => ?_
  subst h
  refine vI_ok (p := GoodC env Try.prog 178 _) goodC_no fun _ h => ?_
  subst h
  refine gC_ok (p := GoodC env Try.prog 178 _) goodC_no fun _ _ h => ?_
  subst h
  refine qS_ok (p := GoodC env Try.prog 178 _) goodC_no fun _ h => ?_
  subst h
  refine vI_ok (p := GoodC env Try.prog 178 _) goodC_no fun _ h => ?_
  subst h
  refine gC_ok (p := GoodC env Try.prog 178 _) goodC_no fun _ _ h => ?_
  subst h
  refine qSl_ok (p := GoodC env Try.prog 178 _) goodC_no fun _ h => ?_
  subst h
  refine gE_ok (p := GoodC env Try.prog 178 _) goodC_no fun h => ?_
  subst h
  refine gE_ok (p := GoodC env Try.prog 178 _) goodC_no fun h => ?_
  subst h
  exact fun_good (fun_sound envOK (cs_sound _ (by exact trivial)) (f178.hok k) Try.func178 rfl) ((f178.ev k _ _ _ _ _ _).trans (f178.nat k _ _ _ _ _ _ _))
theorem f178.sound (k : Nat) : SoundC env Try.prog 178 (f178.e k).F := soundC_coer (f178.sound0 k) [[.no, .no, .no, .no, .no, .rd 211]]
theorem f178.says (k : Nat) (s1 : ByteArray) (s2 : ByteArray) (a3 : Int) (a4 : Int) (a5 : Int) (xs6 : List S211) (t20 : Bool) (h_ : f178 k s1 s2 a3 a4 a5 xs6 = some t20) : SoundAt env Try.prog 178 [.g [.s (.string s1), .s (.string s2), .s (.int .i64 a3), .s (.int .i64 a4), .s (.int .i64 a5), .sl 211 xs6]] ⟨.v (.c (.s (.bool t20))), [[]]⟩ :=
  fun_sound envOK (cs_sound _ (by exact trivial)) (f178.hok k) Try.func178 rfl _ _ (((f178.ev k s1 s2 a3 a4 a5 xs6).trans (f178.nat k _ s1 s2 a3 a4 a5 xs6)).trans (by rw [h_]; rfl))
theorem f178.fnok : FnOK Try.prog 178 := fn_ok Try.func178 (by kernel_rfl) rfl
def f86.step {R : Type} (k : Nat) (ret : Bool → Option R) (a1 : Int) (a2 : Int) (a3 : Int) : Option R :=
  if (decide (a1 ≥ a2)) = true then
    ret (decide (a1 ≤ a3))
  else
    ret false
def f86 (k : Nat) (a1 : Int) (a2 : Int) (a3 : Int) : Option Bool := f86.step k some a1 a2 a3
def f86.w {R : Type} : Bool → (Res env → Option R) → Option R := fun t4 K => K ⟨.v (.c (.s (.bool t4))), [[], [], []]⟩
theorem f86.wn (x : Bool) : ∃ res, ∀ {R : Type} (K : Res env → Option R), f86.w x K = K res := by
  exact ⟨_, fun _ => rfl⟩
def f86.hd (k : Nat) (ps_ : List (P2 env)) : Cl env :=
  gC Cl.no ps_ fun p_ ps_ => qC Cl.no p_ fun c_ => qS Cl.no c_ fun v_ => vI Cl.no .i64 v_ fun a1 => gC Cl.no ps_ fun p_ ps_ => qC Cl.no p_ fun c_ => qS Cl.no c_ fun v_ => vI Cl.no .i64 v_ fun a2 => gC Cl.no ps_ fun p_ ps_ => qC Cl.no p_ fun c_ => qS Cl.no c_ fun v_ => vI Cl.no .i64 v_ fun a3 => gE Cl.no ps_ <| { α := Bool, o := f86 k a1 a2 a3, w := f86.w, nat := fun x _ => f86.wn x }
def f86.e (k : Nat) : Entry env := ⟨f86.hd k, [], []⟩
def f86.X (k : Nat) : Ctx env := { C := lookE [], L := lookE [], J := lookE [], keep := lookD [], keepX := lookD [], span := lookN [], eff := fun n => memN n [], prep := lookP [], np := 0 }
theorem f86.nat {R : Type} (k : Nat) (g : Bool → Option R) (a1 : Int) (a2 : Int) (a3 : Int) : f86.step k g a1 a2 a3 = (f86 k a1 a2 a3).bind g := by
  simp only [f86, f86.step, bind_ite, bind_sum, Option.bind_assoc, Option.bind_some, Option.bind_none]
theorem f86.ev (k : Nat) (a1 : Int) (a2 : Int) (a3 : Int) : evF (f86.X k) (bodyOf Try.f86) Try.f86.ntmps Try.f86.results.toList [.v (.c (.s (.int .i64 a1))), .v (.c (.s (.int .i64 a2))), .v (.c (.s (.int .i64 a3)))] = f86.step k (fun x => f86.w x some) a1 a2 a3 := by kernel_rfl
theorem f86.hok (k : Nat) : HOK (f86.X k) (bodyOf Try.f86) where
  l := allP_mem (by exact trivial)
  j := allP_mem (by exact trivial)
theorem f86.sound (k : Nat) : SoundC env Try.prog 86 ((f86.e k).F) := by
  intro ps_
  show GoodC _ _ _ ps_ (f86.hd k ps_)
  unfold f86.hd
  refine gC_ok (p := GoodC env Try.prog 86 _) goodC_no fun _ _ h => ?_
  subst h
  refine qC_ok (p := GoodC env Try.prog 86 _) goodC_no fun _ h => ?_
  subst h
  refine qS_ok (p := GoodC env Try.prog 86 _) goodC_no fun _ h => ?_
  subst h
  refine vI_ok (p := GoodC env Try.prog 86 _) goodC_no fun _ h => ?_
  subst h
  refine gC_ok (p := GoodC env Try.prog 86 _) goodC_no fun _ _ h => ?_
  subst h
  refine qC_ok (p := GoodC env Try.prog 86 _) goodC_no fun _ h => ?_
  subst h
  refine qS_ok (p := GoodC env Try.prog 86 _) goodC_no fun _ h => ?_
  subst h
  refine vI_ok (p := GoodC env Try.prog 86 _) goodC_no fun _ h => ?_
  subst h
  refine gC_ok (p := GoodC env Try.prog 86 _) goodC_no fun _ _ h => ?_
  subst h
  refine qC_ok (p := GoodC env Try.prog 86 _) goodC_no fun _ h => ?_
  subst h
  refine qS_ok (p := GoodC env Try.prog 86 _) goodC_no fun _ h => ?_
  subst h
  refine vI_ok (p := GoodC env Try.prog 86 _) goodC_no fun _ h => ?_
  subst h
  refine gE_ok (p := GoodC env Try.prog 86 _) goodC_no fun h => ?_
  subst h
  exact fun_good (fun_sound envOK (cs_sound _ (by exact trivial)) (f86.hok k) Try.func86 rfl) ((f86.ev k _ _ _).trans (f86.nat k _ _ _ _))
theorem f86.says (k : Nat) (a1 : Int) (a2 : Int) (a3 : Int) (t5 : Bool) (h_ : f86 k a1 a2 a3 = some t5) : SoundAt env Try.prog 86 [.v (.c (.s (.int .i64 a1))), .v (.c (.s (.int .i64 a2))), .v (.c (.s (.int .i64 a3)))] ⟨.v (.c (.s (.bool t5))), [[], [], []]⟩ :=
  fun_sound envOK (cs_sound _ (by exact trivial)) (f86.hok k) Try.func86 rfl _ _ (((f86.ev k a1 a2 a3).trans (f86.nat k _ a1 a2 a3)).trans (by rw [h_]; rfl))
theorem f86.fnok : FnOK Try.prog 86 := fn_ok Try.func86 (by kernel_rfl) rfl
def f85.step {R : Type} (k : Nat) (ret : Bool → Option R) (a1 : Int) (s2 : ByteArray) (s3 : ByteArray) (a4 : Int) (a5 : Int) (a6 : Int) (a7 : Int) (b8 : Bool) (b9 : Bool) (xs10 : List Int) : Option R :=
  if (decide ((((List.length xs10) : Nat) : Int) > (1500 : Int))) = false then
    (f86 k a4 (0 : Int) (255 : Int)).bind fun t11 => if (!t11) = false then
        (f86 k a5 (0 : Int) (255 : Int)).bind fun t12 => if (!t12) = true then
            ret false
          else
            if (decide (a1 = (4 : Int))) = true then
              if (decide ((((ByteArray.size s2) : Nat) : Int) = (4 : Int))) = true then
                if (decide ((((ByteArray.size s3) : Nat) : Int) = (4 : Int))) = true then
                  (f86 k a6 (0 : Int) (65535 : Int)).bind fun t13 => if t13 = true then
                      (f86 k a7 (0 : Int) (8191 : Int)).bind fun t14 => if t14 = true then
                          if b9 = true then
                            if b8 = false then
                              if (!(decide (a7 > (0 : Int)))) = true then
                                if (!b8) = false then
                                  if (decide ((Int.tmod (((List.length xs10) : Nat) : Int) (8 : Int)) = (0 : Int))) = true then
                                    if (decide ((((List.length xs10) : Nat) : Int) > (0 : Int))) = true then
                                      ret (decide ((IntKind.i64.wrap ((IntKind.i64.wrap ((8 : Int) * a7)) + (((List.length xs10) : Nat) : Int))) ≤ (65515 : Int)))
                                    else
                                      ret false
                                  else
                                    ret false
                                else
                                  ret (decide ((IntKind.i64.wrap ((IntKind.i64.wrap ((8 : Int) * a7)) + (((List.length xs10) : Nat) : Int))) ≤ (65515 : Int)))
                              else
                                ret false
                            else
                              ret false
                          else
                            if (!b8) = false then
                              if (decide ((Int.tmod (((List.length xs10) : Nat) : Int) (8 : Int)) = (0 : Int))) = true then
                                if (decide ((((List.length xs10) : Nat) : Int) > (0 : Int))) = true then
                                  ret (decide ((IntKind.i64.wrap ((IntKind.i64.wrap ((8 : Int) * a7)) + (((List.length xs10) : Nat) : Int))) ≤ (65515 : Int)))
                                else
                                  ret false
                              else
                                ret false
                            else
                              ret (decide ((IntKind.i64.wrap ((IntKind.i64.wrap ((8 : Int) * a7)) + (((List.length xs10) : Nat) : Int))) ≤ (65515 : Int)))
                        else
                          ret false
                    else
                      ret false
                else
                  ret false
              else
                ret false
            else
              if (decide (a1 = (6 : Int))) = true then
                if (decide ((((ByteArray.size s2) : Nat) : Int) = (16 : Int))) = true then
                  if (decide ((((ByteArray.size s3) : Nat) : Int) = (16 : Int))) = true then
                    if (decide (a6 = (0 : Int))) = true then
                      if (decide (a7 = (0 : Int))) = true then
                        if (!b8) = true then
                          ret (!b9)
                        else
                          ret false
                      else
                        ret false
                    else
                      ret false
                  else
                    ret false
                else
                  ret false
              else
                ret false
      else
        ret false
  else
    ret false
def f85 (k : Nat) (a1 : Int) (s2 : ByteArray) (s3 : ByteArray) (a4 : Int) (a5 : Int) (a6 : Int) (a7 : Int) (b8 : Bool) (b9 : Bool) (xs10 : List Int) : Option Bool := f85.step k some a1 s2 s3 a4 a5 a6 a7 b8 b9 xs10
def f85.w {R : Type} : Bool → (Res env → Option R) → Option R := fun t15 K => K ⟨.v (.c (.s (.bool t15))), [[]]⟩
theorem f85.wn (x : Bool) : ∃ res, ∀ {R : Type} (K : Res env → Option R), f85.w x K = K res := by
  exact ⟨_, fun _ => rfl⟩
def f85.hd (k : Nat) (ps_ : List (P2 env)) : Cl env :=
  gC Cl.no ps_ fun p_ ps_ => qG Cl.no p_ fun cs_ => gC Cl.no cs_ fun c_ cs_ => qS Cl.no c_ fun v_ => vI Cl.no .i64 v_ fun a1 => gC Cl.no cs_ fun c_ cs_ => qS Cl.no c_ fun v_ => vS Cl.no v_ fun s2 => gC Cl.no cs_ fun c_ cs_ => qS Cl.no c_ fun v_ => vS Cl.no v_ fun s3 => gC Cl.no cs_ fun c_ cs_ => qS Cl.no c_ fun v_ => vI Cl.no .i64 v_ fun a4 => gC Cl.no cs_ fun c_ cs_ => qS Cl.no c_ fun v_ => vI Cl.no .i64 v_ fun a5 => gC Cl.no cs_ fun c_ cs_ => qS Cl.no c_ fun v_ => vI Cl.no .i64 v_ fun a6 => gC Cl.no cs_ fun c_ cs_ => qS Cl.no c_ fun v_ => vI Cl.no .i64 v_ fun a7 => gC Cl.no cs_ fun c_ cs_ => qS Cl.no c_ fun v_ => vB Cl.no v_ fun b8 => gC Cl.no cs_ fun c_ cs_ => qS Cl.no c_ fun v_ => vB Cl.no v_ fun b9 => gC Cl.no cs_ fun c_ cs_ => qSl Cl.no 5 c_ fun xs10 => gE Cl.no cs_ <| gE Cl.no ps_ <| { α := Bool, o := f85 k a1 s2 s3 a4 a5 a6 a7 b8 b9 xs10, w := f85.w, nat := fun x _ => f85.wn x }
def f85.e (k : Nat) : Entry env := ⟨fun ps => f85.hd k (coer [[.no, .no, .no, .no, .no, .no, .no, .no, .no, .rd 5]] ps), [], []⟩
def f85.X (k : Nat) : Ctx env := { C := lookE [(86, f86.e k)], L := lookE [], J := lookE [], keep := lookD [], keepX := lookD [], span := lookN [], eff := fun n => memN n [], prep := lookP [], np := 0 }
theorem f85.nat {R : Type} (k : Nat) (g : Bool → Option R) (a1 : Int) (s2 : ByteArray) (s3 : ByteArray) (a4 : Int) (a5 : Int) (a6 : Int) (a7 : Int) (b8 : Bool) (b9 : Bool) (xs10 : List Int) : f85.step k g a1 s2 s3 a4 a5 a6 a7 b8 b9 xs10 = (f85 k a1 s2 s3 a4 a5 a6 a7 b8 b9 xs10).bind g := by
  simp only [f85, f85.step, bind_ite, bind_sum, Option.bind_assoc, Option.bind_some, Option.bind_none]
theorem f85.ev (k : Nat) (a1 : Int) (s2 : ByteArray) (s3 : ByteArray) (a4 : Int) (a5 : Int) (a6 : Int) (a7 : Int) (b8 : Bool) (b9 : Bool) (xs10 : List Int) : evF (f85.X k) (bodyOf Try.f85) Try.f85.ntmps Try.f85.results.toList [.g [.s (.int .i64 a1), .s (.string s2), .s (.string s3), .s (.int .i64 a4), .s (.int .i64 a5), .s (.int .i64 a6), .s (.int .i64 a7), .s (.bool b8), .s (.bool b9), .sl 5 xs10]] = f85.step k (fun x => f85.w x some) a1 s2 s3 a4 a5 a6 a7 b8 b9 xs10 := by kernel_rfl
theorem f85.hok (k : Nat) : HOK (f85.X k) (bodyOf Try.f85) where
  l := allP_mem (by exact trivial)
  j := allP_mem (by exact trivial)
theorem f85.sound0 (k : Nat) : SoundC env Try.prog 85 (f85.hd k) := by
  intro ps_
  show GoodC _ _ _ ps_ (f85.hd k ps_)
  unfold f85.hd
  refine gC_ok (p := GoodC env Try.prog 85 _) goodC_no fun _ _ h => ?_
  subst h
  refine qG_ok (p := GoodC env Try.prog 85 _) goodC_no fun _ h => ?_
  subst h
  refine gC_ok (p := GoodC env Try.prog 85 _) goodC_no fun _ _ h => ?_
  subst h
  refine qS_ok (p := GoodC env Try.prog 85 _) goodC_no fun _ h => ?_
  subst h
  refine vI_ok (p := GoodC env Try.prog 85 _) goodC_no fun _ h => ?_
  subst h
  refine gC_ok (p := GoodC env Try.prog 85 _) goodC_no fun _ _ h => ?_
  subst h
  refine qS_ok (p := GoodC env Try.prog 85 _) goodC_no fun _ h => ?_
  subst h
  refine vS_ok (p := GoodC env Try.prog 85 _) goodC_no fun _ h => ?_
  subst h
  refine gC_ok (p := GoodC env Try.prog 85 _) goodC_no fun _ _ h => ?_
  subst h
  refine qS_ok (p := GoodC env Try.prog 85 _) goodC_no fun _ h => ?_
  subst h
  refine vS_ok (p := GoodC env Try.prog 85 _) goodC_no fun _ h => ?_
  subst h
  refine gC_ok (p := GoodC env Try.prog 85 _) goodC_no fun _ _ h => ?_
  subst h
  refine qS_ok (p := GoodC env Try.prog 85 _) goodC_no fun _ h => ?_
  subst h
  refine vI_ok (p := GoodC env Try.prog 85 _) goodC_no fun _ h => ?_
  subst h
  refine gC_ok (p := GoodC env Try.prog 85 _) goodC_no fun _ _ h => ?_
  subst h
  refine qS_ok (p := GoodC env Try.prog 85 _) goodC_no fun _ h => ?_
  subst h
  refine vI_ok (p := GoodC env Try.prog 85 _) goodC_no fun _ h => ?_
  subst h
  refine gC_ok (p := GoodC env Try.prog 85 _) goodC_no fun _ _ h => ?_
  subst h
  refine qS_ok (p := GoodC env Try.prog 85 _) goodC_no fun _ h => ?_
  subst h
  refine vI_ok (p := GoodC env Try.prog 85 _) goodC_no fun _ h => ?_
  subst h
  refine gC_ok (p := GoodC env Try.prog 85 _) goodC_no fun _ _ h => ?_
  subst h
  refine qS_ok (p := GoodC env Try.prog 85 _) goodC_no fun _ h => ?_
  subst h
  refine vI_ok (p := GoodC env Try.prog 85 _) goodC_no fun _ h => ?_
  subst h
  refine gC_ok (p := GoodC env Try.prog 85 _) goodC_no fun _ _ h => ?_
  subst h
  refine qS_ok (p := GoodC env Try.prog 85 _) goodC_no fun _ h => ?_
  subst h
  refine vB_ok (p := GoodC env Try.prog 85 _) goodC_no fun _ h => ?_
  subst h
  refine gC_ok (p := GoodC env Try.prog 85 _) goodC_no fun _ _ h => ?_
  subst h
  refine qS_ok (p := GoodC env Try.prog 85 _) goodC_no fun _ h => ?_
  subst h
  refine vB_ok (p := GoodC env Try.prog 85 _) goodC_no fun _ h => ?_
  subst h
  refine gC_ok (p := GoodC env Try.prog 85 _) goodC_no fun _ _ h => ?_
  subst h
  refine qSl_ok (p := GoodC env Try.prog 85 _) goodC_no fun _ h => ?_
  subst h
  refine gE_ok (p := GoodC env Try.prog 85 _) goodC_no fun h => ?_
  subst h
  refine gE_ok (p := GoodC env Try.prog 85 _) goodC_no fun h => ?_
  subst h
  exact fun_good (fun_sound envOK (cs_sound _ (by exact ⟨⟨f86.sound k, f86.fnok⟩, trivial⟩)) (f85.hok k) Try.func85 rfl) ((f85.ev k _ _ _ _ _ _ _ _ _ _).trans (f85.nat k _ _ _ _ _ _ _ _ _ _ _))
theorem f85.sound (k : Nat) : SoundC env Try.prog 85 (f85.e k).F := soundC_coer (f85.sound0 k) [[.no, .no, .no, .no, .no, .no, .no, .no, .no, .rd 5]]
theorem f85.says (k : Nat) (a1 : Int) (s2 : ByteArray) (s3 : ByteArray) (a4 : Int) (a5 : Int) (a6 : Int) (a7 : Int) (b8 : Bool) (b9 : Bool) (xs10 : List Int) (t16 : Bool) (h_ : f85 k a1 s2 s3 a4 a5 a6 a7 b8 b9 xs10 = some t16) : SoundAt env Try.prog 85 [.g [.s (.int .i64 a1), .s (.string s2), .s (.string s3), .s (.int .i64 a4), .s (.int .i64 a5), .s (.int .i64 a6), .s (.int .i64 a7), .s (.bool b8), .s (.bool b9), .sl 5 xs10]] ⟨.v (.c (.s (.bool t16))), [[]]⟩ :=
  fun_sound envOK (cs_sound _ (by exact ⟨⟨f86.sound k, f86.fnok⟩, trivial⟩)) (f85.hok k) Try.func85 rfl _ _ (((f85.ev k a1 s2 s3 a4 a5 a6 a7 b8 b9 xs10).trans (f85.nat k _ a1 s2 s3 a4 a5 a6 a7 b8 b9 xs10)).trans (by rw [h_]; rfl))
theorem f85.fnok : FnOK Try.prog 85 := fn_ok Try.func85 (by kernel_rfl) rfl
def f195.l6.step {R : Type} (k : Nat) (rec_ : (List S104) → Int → ByteArray → ByteArray → Int → Int → Int → (List S211) → Int → ByteArray → ByteArray → Int → Int → Int → Int → Bool → Bool → Int → ByteArray → ByteArray → Int → Int → Int → Int → Bool → Bool → (List Int) → Option R) (ret : ((List S104) × Int × ByteArray × ByteArray × Int × Int × Int × Int × Bool × Bool × Int × ByteArray × ByteArray × Int × Int × Int × Int × Bool × Bool × (List Int)) → Option R) (xs18 : List S104) (a19 : Int) (s20 : ByteArray) (s21 : ByteArray) (a22 : Int) (a23 : Int) (a24 : Int) (xs25 : List S211) (a26 : Int) (s27 : ByteArray) (s28 : ByteArray) (a29 : Int) (a30 : Int) (a31 : Int) (a32 : Int) (b33 : Bool) (b34 : Bool) (a35 : Int) (s36 : ByteArray) (s37 : ByteArray) (a38 : Int) (a39 : Int) (a40 : Int) (a41 : Int) (b42 : Bool) (b43 : Bool) (xs44 : List Int) : Option R :=
  if (decide (a19 < (((List.length xs25) : Nat) : Int))) = true then
    if (0 : Int) ≤ a19 then
      if a19 < ((List.length xs25 : Nat) : Int) then
        if (List.length xs44 + List.length (List.getD xs25 (Int.toNat a19) (⟨(0 : Int), false, []⟩ : S211)).f2) * 1 ≤ maxN then
          rec_ xs18 (IntKind.i64.wrap (a19 + (1 : Int))) s20 s21 a22 a23 a24 xs25 a26 s27 s28 a29 a30 a31 a32 b33 b34 a35 s36 s37 a38 a39 a40 a41 b42 b43 (xs44 ++ (List.getD xs25 (Int.toNat a19) (⟨(0 : Int), false, []⟩ : S211)).f2)
        else none
      else none
    else none
  else
    ret (xs18, a26, s27, s28, a29, a30, a31, a32, b33, b34, a35, s36, s37, a38, a39, a40, a41, b42, b43, xs44)
def f195.l6 (k : Nat) : Nat → (List S104) → Int → ByteArray → ByteArray → Int → Int → Int → (List S211) → Int → ByteArray → ByteArray → Int → Int → Int → Int → Bool → Bool → Int → ByteArray → ByteArray → Int → Int → Int → Int → Bool → Bool → (List Int) → Option ((List S104) × Int × ByteArray × ByteArray × Int × Int × Int × Int × Bool × Bool × Int × ByteArray × ByteArray × Int × Int × Int × Int × Bool × Bool × (List Int))
  | 0, _, _, _, _, _, _, _, _, _, _, _, _, _, _, _, _, _, _, _, _, _, _, _, _, _, _, _ => none
  | j + 1, xs18, a19, s20, s21, a22, a23, a24, xs25, a26, s27, s28, a29, a30, a31, a32, b33, b34, a35, s36, s37, a38, a39, a40, a41, b42, b43, xs44 => f195.l6.step k (fun xs18 a19 s20 s21 a22 a23 a24 xs25 a26 s27 s28 a29 a30 a31 a32 b33 b34 a35 s36 s37 a38 a39 a40 a41 b42 b43 xs44 => f195.l6 k j xs18 a19 s20 s21 a22 a23 a24 xs25 a26 s27 s28 a29 a30 a31 a32 b33 b34 a35 s36 s37 a38 a39 a40 a41 b42 b43 xs44) some xs18 a19 s20 s21 a22 a23 a24 xs25 a26 s27 s28 a29 a30 a31 a32 b33 b34 a35 s36 s37 a38 a39 a40 a41 b42 b43 xs44
def f195.l6.w {R : Type} : ((List S104) × Int × ByteArray × ByteArray × Int × Int × Int × Int × Bool × Bool × Int × ByteArray × ByteArray × Int × Int × Int × Int × Bool × Bool × (List Int)) → (Exit → St env → Option R) → Option R := fun t47 K => K (.exit 0) ⟨fullT [0, 7, 9] 0 40 [.v (.c (.imm 104 t47.1)), .v (.c (.bp 51 0)), .v (.c (.bp 99 0))], [(51, .box [.s (.int .i64 t47.2.1), .s (.string t47.2.2.1), .s (.string t47.2.2.2.1), .s (.int .i64 t47.2.2.2.2.1), .s (.int .i64 t47.2.2.2.2.2.1), .s (.int .i64 t47.2.2.2.2.2.2.1), .s (.int .i64 t47.2.2.2.2.2.2.2.1), .s (.bool t47.2.2.2.2.2.2.2.2.1), .s (.bool t47.2.2.2.2.2.2.2.2.2.1), .s (.slice none 0 0)]), (99, .box [.s (.int .i64 t47.2.2.2.2.2.2.2.2.2.2.1), .s (.string t47.2.2.2.2.2.2.2.2.2.2.2.1), .s (.string t47.2.2.2.2.2.2.2.2.2.2.2.2.1), .s (.int .i64 t47.2.2.2.2.2.2.2.2.2.2.2.2.2.1), .s (.int .i64 t47.2.2.2.2.2.2.2.2.2.2.2.2.2.2.1), .s (.int .i64 t47.2.2.2.2.2.2.2.2.2.2.2.2.2.2.2.1), .s (.int .i64 t47.2.2.2.2.2.2.2.2.2.2.2.2.2.2.2.2.1), .s (.bool t47.2.2.2.2.2.2.2.2.2.2.2.2.2.2.2.2.2.1), .s (.bool t47.2.2.2.2.2.2.2.2.2.2.2.2.2.2.2.2.2.2.1), .row 195]), (195, .row true 5 t47.2.2.2.2.2.2.2.2.2.2.2.2.2.2.2.2.2.2.2)], 563⟩
def f195.l6.st (xs18 : List S104) (a19 : Int) (s20 : ByteArray) (s21 : ByteArray) (a22 : Int) (a23 : Int) (a24 : Int) (xs25 : List S211) (a26 : Int) (s27 : ByteArray) (s28 : ByteArray) (a29 : Int) (a30 : Int) (a31 : Int) (a32 : Int) (b33 : Bool) (b34 : Bool) (a35 : Int) (s36 : ByteArray) (s37 : ByteArray) (a38 : Int) (a39 : Int) (a40 : Int) (a41 : Int) (b42 : Bool) (b43 : Bool) (xs44 : List Int) : St env := ⟨fullT [0, 5, 7, 9, 10] 0 40 [.v (.c (.imm 104 xs18)), .v (.c (.bp 19 0)), .v (.c (.bp 51 0)), .v (.c (.bp 99 0)), .v (.c (.s (.int .i64 a19)))], [(19, .box [.s (.string s20), .s (.string s21), .s (.int .i64 a22), .s (.int .i64 a23), .s (.int .i64 a24), .imm 211 xs25]), (51, .box [.s (.int .i64 a26), .s (.string s27), .s (.string s28), .s (.int .i64 a29), .s (.int .i64 a30), .s (.int .i64 a31), .s (.int .i64 a32), .s (.bool b33), .s (.bool b34), .s (.slice none 0 0)]), (99, .box [.s (.int .i64 a35), .s (.string s36), .s (.string s37), .s (.int .i64 a38), .s (.int .i64 a39), .s (.int .i64 a40), .s (.int .i64 a41), .s (.bool b42), .s (.bool b43), .row 195]), (195, .row true 5 xs44)], 259⟩
def f195.l6.hd (k : Nat) (ts_ : List (AV env)) (mm_ : Mem env) (n_ : Nat) : LCl env :=
  gTs LCl.no [0, 5, 7, 9, 10] 40 ts_ fun l_ => gV LCl.no l_ fun a_ l_ => rImm LCl.no 104 a_ fun xs18 => gV LCl.no l_ fun a_ l_ => rBp LCl.no 19 0 a_ <| gV LCl.no l_ fun a_ l_ => rBp LCl.no 51 0 a_ <| gV LCl.no l_ fun a_ l_ => rBp LCl.no 99 0 a_ <| gV LCl.no l_ fun a_ l_ => rV LCl.no a_ fun v_ => vI LCl.no .i64 v_ fun a19 => gE LCl.no l_ <| mBox LCl.no 19 mm_ fun c_ m_ => gC LCl.no c_ fun a_ c_ => rV LCl.no a_ fun v_ => vS LCl.no v_ fun s20 => gC LCl.no c_ fun a_ c_ => rV LCl.no a_ fun v_ => vS LCl.no v_ fun s21 => gC LCl.no c_ fun a_ c_ => rV LCl.no a_ fun v_ => vI LCl.no .i64 v_ fun a22 => gC LCl.no c_ fun a_ c_ => rV LCl.no a_ fun v_ => vI LCl.no .i64 v_ fun a23 => gC LCl.no c_ fun a_ c_ => rV LCl.no a_ fun v_ => vI LCl.no .i64 v_ fun a24 => gC LCl.no c_ fun a_ c_ => rImm LCl.no 211 a_ fun xs25 => gE LCl.no c_ <| mBox LCl.no 51 m_ fun c_ m_ => gC LCl.no c_ fun a_ c_ => rV LCl.no a_ fun v_ => vI LCl.no .i64 v_ fun a26 => gC LCl.no c_ fun a_ c_ => rV LCl.no a_ fun v_ => vS LCl.no v_ fun s27 => gC LCl.no c_ fun a_ c_ => rV LCl.no a_ fun v_ => vS LCl.no v_ fun s28 => gC LCl.no c_ fun a_ c_ => rV LCl.no a_ fun v_ => vI LCl.no .i64 v_ fun a29 => gC LCl.no c_ fun a_ c_ => rV LCl.no a_ fun v_ => vI LCl.no .i64 v_ fun a30 => gC LCl.no c_ fun a_ c_ => rV LCl.no a_ fun v_ => vI LCl.no .i64 v_ fun a31 => gC LCl.no c_ fun a_ c_ => rV LCl.no a_ fun v_ => vI LCl.no .i64 v_ fun a32 => gC LCl.no c_ fun a_ c_ => rV LCl.no a_ fun v_ => vB LCl.no v_ fun b33 => gC LCl.no c_ fun a_ c_ => rV LCl.no a_ fun v_ => vB LCl.no v_ fun b34 => gC LCl.no c_ fun a_ c_ => rV LCl.no a_ fun v_ => vNil LCl.no v_ <| gE LCl.no c_ <| mBox LCl.no 99 m_ fun c_ m_ => gC LCl.no c_ fun a_ c_ => rV LCl.no a_ fun v_ => vI LCl.no .i64 v_ fun a35 => gC LCl.no c_ fun a_ c_ => rV LCl.no a_ fun v_ => vS LCl.no v_ fun s36 => gC LCl.no c_ fun a_ c_ => rV LCl.no a_ fun v_ => vS LCl.no v_ fun s37 => gC LCl.no c_ fun a_ c_ => rV LCl.no a_ fun v_ => vI LCl.no .i64 v_ fun a38 => gC LCl.no c_ fun a_ c_ => rV LCl.no a_ fun v_ => vI LCl.no .i64 v_ fun a39 => gC LCl.no c_ fun a_ c_ => rV LCl.no a_ fun v_ => vI LCl.no .i64 v_ fun a40 => gC LCl.no c_ fun a_ c_ => rV LCl.no a_ fun v_ => vI LCl.no .i64 v_ fun a41 => gC LCl.no c_ fun a_ c_ => rV LCl.no a_ fun v_ => vB LCl.no v_ fun b42 => gC LCl.no c_ fun a_ c_ => rV LCl.no a_ fun v_ => vB LCl.no v_ fun b43 => gC LCl.no c_ fun a_ c_ => rRow LCl.no 195 a_ <| gE LCl.no c_ <| mRow LCl.no 195 true 5 m_ fun xs44 m_ => gE LCl.no m_ <| gN LCl.no 259 n_ { α := (List S104) × Int × ByteArray × ByteArray × Int × Int × Int × Int × Bool × Bool × Int × ByteArray × ByteArray × Int × Int × Int × Int × Bool × Bool × (List Int), o := f195.l6 k k xs18 a19 s20 s21 a22 a23 a24 xs25 a26 s27 s28 a29 a30 a31 a32 b33 b34 a35 s36 s37 a38 a39 a40 a41 b42 b43 xs44, w := f195.l6.w }
def f195.step {R : Type} (k : Nat) (ret : (((List S104) × Int × ByteArray × ByteArray × Int × Int × Int × Int × Bool × Bool × Int) ⊕ ((List S104) × Int × ByteArray × ByteArray × Int × Int × Int × Int × Bool × Bool × (List Int) × Int)) → Option R) (xs1 : List S104) (a2 : Int) (s3 : ByteArray) (s4 : ByteArray) (a5 : Int) (a6 : Int) (a7 : Int) (a8 : Int) (b9 : Bool) (b10 : Bool) (xs11 : List Int) (s12 : ByteArray) (s13 : ByteArray) (a14 : Int) (a15 : Int) (a16 : Int) (xs17 : List S211) : Option R :=
  (f195.l6 k k xs1 (0 : Int) s12 s13 a14 a15 a16 xs17 (0 : Int) ByteArray.empty ByteArray.empty (0 : Int) (0 : Int) (0 : Int) (0 : Int) false false a2 s3 s4 a5 a6 a7 (0 : Int) false b10 ([] : List Int)).bind fun t45 => (f85 k t45.2.2.2.2.2.2.2.2.2.2.1 t45.2.2.2.2.2.2.2.2.2.2.2.1 t45.2.2.2.2.2.2.2.2.2.2.2.2.1 t45.2.2.2.2.2.2.2.2.2.2.2.2.2.1 t45.2.2.2.2.2.2.2.2.2.2.2.2.2.2.1 t45.2.2.2.2.2.2.2.2.2.2.2.2.2.2.2.1 t45.2.2.2.2.2.2.2.2.2.2.2.2.2.2.2.2.1 t45.2.2.2.2.2.2.2.2.2.2.2.2.2.2.2.2.2.1 t45.2.2.2.2.2.2.2.2.2.2.2.2.2.2.2.2.2.2.1 t45.2.2.2.2.2.2.2.2.2.2.2.2.2.2.2.2.2.2.2).bind fun t46 => if (!t46) = true then
        ret (.inl (t45.1, (0 : Int), ByteArray.empty, ByteArray.empty, (0 : Int), (0 : Int), (0 : Int), (0 : Int), false, false, (11 : Int)))
      else
        ret (.inr (t45.1, t45.2.2.2.2.2.2.2.2.2.2.1, t45.2.2.2.2.2.2.2.2.2.2.2.1, t45.2.2.2.2.2.2.2.2.2.2.2.2.1, t45.2.2.2.2.2.2.2.2.2.2.2.2.2.1, t45.2.2.2.2.2.2.2.2.2.2.2.2.2.2.1, t45.2.2.2.2.2.2.2.2.2.2.2.2.2.2.2.1, t45.2.2.2.2.2.2.2.2.2.2.2.2.2.2.2.2.1, t45.2.2.2.2.2.2.2.2.2.2.2.2.2.2.2.2.2.1, t45.2.2.2.2.2.2.2.2.2.2.2.2.2.2.2.2.2.2.1, t45.2.2.2.2.2.2.2.2.2.2.2.2.2.2.2.2.2.2.2, (0 : Int)))
def f195 (k : Nat) (xs1 : List S104) (a2 : Int) (s3 : ByteArray) (s4 : ByteArray) (a5 : Int) (a6 : Int) (a7 : Int) (a8 : Int) (b9 : Bool) (b10 : Bool) (xs11 : List Int) (s12 : ByteArray) (s13 : ByteArray) (a14 : Int) (a15 : Int) (a16 : Int) (xs17 : List S211) : Option (((List S104) × Int × ByteArray × ByteArray × Int × Int × Int × Int × Bool × Bool × Int) ⊕ ((List S104) × Int × ByteArray × ByteArray × Int × Int × Int × Int × Bool × Bool × (List Int) × Int)) := f195.step k some xs1 a2 s3 s4 a5 a6 a7 a8 b9 b10 xs11 s12 s13 a14 a15 a16 xs17
def f195.w {R : Type} : (((List S104) × Int × ByteArray × ByteArray × Int × Int × Int × Int × Bool × Bool × Int) ⊕ ((List S104) × Int × ByteArray × ByteArray × Int × Int × Int × Int × Bool × Bool × (List Int) × Int)) → (Res env → Option R) → Option R := fun x K => Sum.elim (fun t48 => K ⟨.tup [.c (.imm 104 t48.1), .g [.s (.int .i64 t48.2.1), .s (.string t48.2.2.1), .s (.string t48.2.2.2.1), .s (.int .i64 t48.2.2.2.2.1), .s (.int .i64 t48.2.2.2.2.2.1), .s (.int .i64 t48.2.2.2.2.2.2.1), .s (.int .i64 t48.2.2.2.2.2.2.2.1), .s (.bool t48.2.2.2.2.2.2.2.2.1), .s (.bool t48.2.2.2.2.2.2.2.2.2.1), .s (.slice none 0 0)], .c (.s (.int .i64 t48.2.2.2.2.2.2.2.2.2.2))], [[], [], []]⟩) (fun t49 => K ⟨.tup [.c (.imm 104 t49.1), .g [.s (.int .i64 t49.2.1), .s (.string t49.2.2.1), .s (.string t49.2.2.2.1), .s (.int .i64 t49.2.2.2.2.1), .s (.int .i64 t49.2.2.2.2.2.1), .s (.int .i64 t49.2.2.2.2.2.2.1), .s (.int .i64 t49.2.2.2.2.2.2.2.1), .s (.bool t49.2.2.2.2.2.2.2.2.1), .s (.bool t49.2.2.2.2.2.2.2.2.2.1), .own true 5 t49.2.2.2.2.2.2.2.2.2.2.1], .c (.s (.int .i64 t49.2.2.2.2.2.2.2.2.2.2.2))], [[], [], []]⟩) x
theorem f195.wn (x : (((List S104) × Int × ByteArray × ByteArray × Int × Int × Int × Int × Bool × Bool × Int) ⊕ ((List S104) × Int × ByteArray × ByteArray × Int × Int × Int × Int × Bool × Bool × (List Int) × Int))) : ∃ res, ∀ {R : Type} (K : Res env → Option R), f195.w x K = K res := by
  rcases x with x | x <;> exact ⟨_, fun _ => rfl⟩
def f195.hd (k : Nat) (ps_ : List (P2 env)) : Cl env :=
  gC Cl.no ps_ fun p_ ps_ => qC Cl.no p_ fun c_ => qSl Cl.no 104 c_ fun xs1 => gC Cl.no ps_ fun p_ ps_ => qG Cl.no p_ fun cs_ => gC Cl.no cs_ fun c_ cs_ => qS Cl.no c_ fun v_ => vI Cl.no .i64 v_ fun a2 => gC Cl.no cs_ fun c_ cs_ => qS Cl.no c_ fun v_ => vS Cl.no v_ fun s3 => gC Cl.no cs_ fun c_ cs_ => qS Cl.no c_ fun v_ => vS Cl.no v_ fun s4 => gC Cl.no cs_ fun c_ cs_ => qS Cl.no c_ fun v_ => vI Cl.no .i64 v_ fun a5 => gC Cl.no cs_ fun c_ cs_ => qS Cl.no c_ fun v_ => vI Cl.no .i64 v_ fun a6 => gC Cl.no cs_ fun c_ cs_ => qS Cl.no c_ fun v_ => vI Cl.no .i64 v_ fun a7 => gC Cl.no cs_ fun c_ cs_ => qS Cl.no c_ fun v_ => vI Cl.no .i64 v_ fun a8 => gC Cl.no cs_ fun c_ cs_ => qS Cl.no c_ fun v_ => vB Cl.no v_ fun b9 => gC Cl.no cs_ fun c_ cs_ => qS Cl.no c_ fun v_ => vB Cl.no v_ fun b10 => gC Cl.no cs_ fun c_ cs_ => qSl Cl.no 5 c_ fun xs11 => gE Cl.no cs_ <| gC Cl.no ps_ fun p_ ps_ => qG Cl.no p_ fun cs_ => gC Cl.no cs_ fun c_ cs_ => qS Cl.no c_ fun v_ => vS Cl.no v_ fun s12 => gC Cl.no cs_ fun c_ cs_ => qS Cl.no c_ fun v_ => vS Cl.no v_ fun s13 => gC Cl.no cs_ fun c_ cs_ => qS Cl.no c_ fun v_ => vI Cl.no .i64 v_ fun a14 => gC Cl.no cs_ fun c_ cs_ => qS Cl.no c_ fun v_ => vI Cl.no .i64 v_ fun a15 => gC Cl.no cs_ fun c_ cs_ => qS Cl.no c_ fun v_ => vI Cl.no .i64 v_ fun a16 => gC Cl.no cs_ fun c_ cs_ => qSl Cl.no 211 c_ fun xs17 => gE Cl.no cs_ <| gE Cl.no ps_ <| { α := ((List S104) × Int × ByteArray × ByteArray × Int × Int × Int × Int × Bool × Bool × Int) ⊕ ((List S104) × Int × ByteArray × ByteArray × Int × Int × Int × Int × Bool × Bool × (List Int) × Int), o := f195 k xs1 a2 s3 s4 a5 a6 a7 a8 b9 b10 xs11 s12 s13 a14 a15 a16 xs17, w := f195.w, nat := fun x _ => f195.wn x }
def f195.e (k : Nat) : Entry env := ⟨fun ps => f195.hd k (coer [[.rd 104], [.no, .no, .no, .no, .no, .no, .no, .no, .no, .rd 5], [.no, .no, .no, .no, .no, .rd 211]] ps), [], []⟩
def f195.X (k : Nat) : Ctx env := { C := lookE [(85, f85.e k)], L := lookE [(6, fun S => f195.l6.hd k S.ts S.m S.n)], J := lookE [], keep := lookD [(6, [0, 5, 7, 9, 10])], keepX := lookD [(6, [0, 7, 9])], span := lookN [(6, 304)], eff := fun n => memN n [8, 11], prep := lookP [], np := 0 }
theorem f195.l6.nat {R : Type} (k : Nat) (rec_ : (List S104) → Int → ByteArray → ByteArray → Int → Int → Int → (List S211) → Int → ByteArray → ByteArray → Int → Int → Int → Int → Bool → Bool → Int → ByteArray → ByteArray → Int → Int → Int → Int → Bool → Bool → (List Int) → Option ((List S104) × Int × ByteArray × ByteArray × Int × Int × Int × Int × Bool × Bool × Int × ByteArray × ByteArray × Int × Int × Int × Int × Bool × Bool × (List Int))) (g : ((List S104) × Int × ByteArray × ByteArray × Int × Int × Int × Int × Bool × Bool × Int × ByteArray × ByteArray × Int × Int × Int × Int × Bool × Bool × (List Int)) → Option R) (xs18 : List S104) (a19 : Int) (s20 : ByteArray) (s21 : ByteArray) (a22 : Int) (a23 : Int) (a24 : Int) (xs25 : List S211) (a26 : Int) (s27 : ByteArray) (s28 : ByteArray) (a29 : Int) (a30 : Int) (a31 : Int) (a32 : Int) (b33 : Bool) (b34 : Bool) (a35 : Int) (s36 : ByteArray) (s37 : ByteArray) (a38 : Int) (a39 : Int) (a40 : Int) (a41 : Int) (b42 : Bool) (b43 : Bool) (xs44 : List Int) : (f195.l6.step k rec_ some xs18 a19 s20 s21 a22 a23 a24 xs25 a26 s27 s28 a29 a30 a31 a32 b33 b34 a35 s36 s37 a38 a39 a40 a41 b42 b43 xs44).bind g = f195.l6.step k (fun xs18 a19 s20 s21 a22 a23 a24 xs25 a26 s27 s28 a29 a30 a31 a32 b33 b34 a35 s36 s37 a38 a39 a40 a41 b42 b43 xs44 => (rec_ xs18 a19 s20 s21 a22 a23 a24 xs25 a26 s27 s28 a29 a30 a31 a32 b33 b34 a35 s36 s37 a38 a39 a40 a41 b42 b43 xs44).bind g) g xs18 a19 s20 s21 a22 a23 a24 xs25 a26 s27 s28 a29 a30 a31 a32 b33 b34 a35 s36 s37 a38 a39 a40 a41 b42 b43 xs44 := by
  simp only [f195.l6.step, bind_ite, bind_sum, Option.bind_assoc, Option.bind_some, Option.bind_none]
theorem f195.l6.good (k : Nat) (xs18 : List S104) (a19 : Int) (s20 : ByteArray) (s21 : ByteArray) (a22 : Int) (a23 : Int) (a24 : Int) (xs25 : List S211) (a26 : Int) (s27 : ByteArray) (s28 : ByteArray) (a29 : Int) (a30 : Int) (a31 : Int) (a32 : Int) (b33 : Bool) (b34 : Bool) (a35 : Int) (s36 : ByteArray) (s37 : ByteArray) (a38 : Int) (a39 : Int) (a40 : Int) (a41 : Int) (b42 : Bool) (b43 : Bool) (xs44 : List Int) : GoodL (f195.X k) (nthC 0 (loopsOf (bodyOf Try.f195))) (f195.l6.st xs18 a19 s20 s21 a22 a23 a24 xs25 a26 s27 s28 a29 a30 a31 a32 b33 b34 a35 s36 s37 a38 a39 a40 a41 b42 b43 xs44) { α := ((List S104) × Int × ByteArray × ByteArray × Int × Int × Int × Int × Bool × Bool × Int × ByteArray × ByteArray × Int × Int × Int × Int × Bool × Bool × (List Int)), o := f195.l6 k k xs18 a19 s20 s21 a22 a23 a24 xs25 a26 s27 s28 a29 a30 a31 a32 b33 b34 a35 s36 s37 a38 a39 a40 a41 b42 b43 xs44, w := f195.l6.w } :=
  loop_good (ι := (List S104) × Int × ByteArray × ByteArray × Int × Int × Int × (List S211) × Int × ByteArray × ByteArray × Int × Int × Int × Int × Bool × Bool × Int × ByteArray × ByteArray × Int × Int × Int × Int × Bool × Bool × (List Int)) (α := ((List S104) × Int × ByteArray × ByteArray × Int × Int × Int × Int × Bool × Bool × Int × ByteArray × ByteArray × Int × Int × Int × Int × Bool × Bool × (List Int))) (fun i => f195.l6.st i.1 i.2.1 i.2.2.1 i.2.2.2.1 i.2.2.2.2.1 i.2.2.2.2.2.1 i.2.2.2.2.2.2.1 i.2.2.2.2.2.2.2.1 i.2.2.2.2.2.2.2.2.1 i.2.2.2.2.2.2.2.2.2.1 i.2.2.2.2.2.2.2.2.2.2.1 i.2.2.2.2.2.2.2.2.2.2.2.1 i.2.2.2.2.2.2.2.2.2.2.2.2.1 i.2.2.2.2.2.2.2.2.2.2.2.2.2.1 i.2.2.2.2.2.2.2.2.2.2.2.2.2.2.1 i.2.2.2.2.2.2.2.2.2.2.2.2.2.2.2.1 i.2.2.2.2.2.2.2.2.2.2.2.2.2.2.2.2.1 i.2.2.2.2.2.2.2.2.2.2.2.2.2.2.2.2.2.1 i.2.2.2.2.2.2.2.2.2.2.2.2.2.2.2.2.2.2.1 i.2.2.2.2.2.2.2.2.2.2.2.2.2.2.2.2.2.2.2.1 i.2.2.2.2.2.2.2.2.2.2.2.2.2.2.2.2.2.2.2.2.1 i.2.2.2.2.2.2.2.2.2.2.2.2.2.2.2.2.2.2.2.2.2.1 i.2.2.2.2.2.2.2.2.2.2.2.2.2.2.2.2.2.2.2.2.2.2.1 i.2.2.2.2.2.2.2.2.2.2.2.2.2.2.2.2.2.2.2.2.2.2.2.1 i.2.2.2.2.2.2.2.2.2.2.2.2.2.2.2.2.2.2.2.2.2.2.2.2.1 i.2.2.2.2.2.2.2.2.2.2.2.2.2.2.2.2.2.2.2.2.2.2.2.2.2.1 i.2.2.2.2.2.2.2.2.2.2.2.2.2.2.2.2.2.2.2.2.2.2.2.2.2.2) (fun j i => f195.l6 k j i.1 i.2.1 i.2.2.1 i.2.2.2.1 i.2.2.2.2.1 i.2.2.2.2.2.1 i.2.2.2.2.2.2.1 i.2.2.2.2.2.2.2.1 i.2.2.2.2.2.2.2.2.1 i.2.2.2.2.2.2.2.2.2.1 i.2.2.2.2.2.2.2.2.2.2.1 i.2.2.2.2.2.2.2.2.2.2.2.1 i.2.2.2.2.2.2.2.2.2.2.2.2.1 i.2.2.2.2.2.2.2.2.2.2.2.2.2.1 i.2.2.2.2.2.2.2.2.2.2.2.2.2.2.1 i.2.2.2.2.2.2.2.2.2.2.2.2.2.2.2.1 i.2.2.2.2.2.2.2.2.2.2.2.2.2.2.2.2.1 i.2.2.2.2.2.2.2.2.2.2.2.2.2.2.2.2.2.1 i.2.2.2.2.2.2.2.2.2.2.2.2.2.2.2.2.2.2.1 i.2.2.2.2.2.2.2.2.2.2.2.2.2.2.2.2.2.2.2.1 i.2.2.2.2.2.2.2.2.2.2.2.2.2.2.2.2.2.2.2.2.1 i.2.2.2.2.2.2.2.2.2.2.2.2.2.2.2.2.2.2.2.2.2.1 i.2.2.2.2.2.2.2.2.2.2.2.2.2.2.2.2.2.2.2.2.2.2.1 i.2.2.2.2.2.2.2.2.2.2.2.2.2.2.2.2.2.2.2.2.2.2.2.1 i.2.2.2.2.2.2.2.2.2.2.2.2.2.2.2.2.2.2.2.2.2.2.2.2.1 i.2.2.2.2.2.2.2.2.2.2.2.2.2.2.2.2.2.2.2.2.2.2.2.2.2.1 i.2.2.2.2.2.2.2.2.2.2.2.2.2.2.2.2.2.2.2.2.2.2.2.2.2.2) f195.l6.w (fun rec_ ret i => f195.l6.step k (fun xs18 a19 s20 s21 a22 a23 a24 xs25 a26 s27 s28 a29 a30 a31 a32 b33 b34 a35 s36 s37 a38 a39 a40 a41 b42 b43 xs44 => rec_ (xs18, a19, s20, s21, a22, a23, a24, xs25, a26, s27, s28, a29, a30, a31, a32, b33, b34, a35, s36, s37, a38, a39, a40, a41, b42, b43, xs44)) ret i.1 i.2.1 i.2.2.1 i.2.2.2.1 i.2.2.2.2.1 i.2.2.2.2.2.1 i.2.2.2.2.2.2.1 i.2.2.2.2.2.2.2.1 i.2.2.2.2.2.2.2.2.1 i.2.2.2.2.2.2.2.2.2.1 i.2.2.2.2.2.2.2.2.2.2.1 i.2.2.2.2.2.2.2.2.2.2.2.1 i.2.2.2.2.2.2.2.2.2.2.2.2.1 i.2.2.2.2.2.2.2.2.2.2.2.2.2.1 i.2.2.2.2.2.2.2.2.2.2.2.2.2.2.1 i.2.2.2.2.2.2.2.2.2.2.2.2.2.2.2.1 i.2.2.2.2.2.2.2.2.2.2.2.2.2.2.2.2.1 i.2.2.2.2.2.2.2.2.2.2.2.2.2.2.2.2.2.1 i.2.2.2.2.2.2.2.2.2.2.2.2.2.2.2.2.2.2.1 i.2.2.2.2.2.2.2.2.2.2.2.2.2.2.2.2.2.2.2.1 i.2.2.2.2.2.2.2.2.2.2.2.2.2.2.2.2.2.2.2.2.1 i.2.2.2.2.2.2.2.2.2.2.2.2.2.2.2.2.2.2.2.2.2.1 i.2.2.2.2.2.2.2.2.2.2.2.2.2.2.2.2.2.2.2.2.2.2.1 i.2.2.2.2.2.2.2.2.2.2.2.2.2.2.2.2.2.2.2.2.2.2.2.1 i.2.2.2.2.2.2.2.2.2.2.2.2.2.2.2.2.2.2.2.2.2.2.2.2.1 i.2.2.2.2.2.2.2.2.2.2.2.2.2.2.2.2.2.2.2.2.2.2.2.2.2.1 i.2.2.2.2.2.2.2.2.2.2.2.2.2.2.2.2.2.2.2.2.2.2.2.2.2.2)
    (fun _ => rfl) (fun _ _ => rfl) (fun rec_ g i => f195.l6.nat k _ g i.1 i.2.1 i.2.2.1 i.2.2.2.1 i.2.2.2.2.1 i.2.2.2.2.2.1 i.2.2.2.2.2.2.1 i.2.2.2.2.2.2.2.1 i.2.2.2.2.2.2.2.2.1 i.2.2.2.2.2.2.2.2.2.1 i.2.2.2.2.2.2.2.2.2.2.1 i.2.2.2.2.2.2.2.2.2.2.2.1 i.2.2.2.2.2.2.2.2.2.2.2.2.1 i.2.2.2.2.2.2.2.2.2.2.2.2.2.1 i.2.2.2.2.2.2.2.2.2.2.2.2.2.2.1 i.2.2.2.2.2.2.2.2.2.2.2.2.2.2.2.1 i.2.2.2.2.2.2.2.2.2.2.2.2.2.2.2.2.1 i.2.2.2.2.2.2.2.2.2.2.2.2.2.2.2.2.2.1 i.2.2.2.2.2.2.2.2.2.2.2.2.2.2.2.2.2.2.1 i.2.2.2.2.2.2.2.2.2.2.2.2.2.2.2.2.2.2.2.1 i.2.2.2.2.2.2.2.2.2.2.2.2.2.2.2.2.2.2.2.2.1 i.2.2.2.2.2.2.2.2.2.2.2.2.2.2.2.2.2.2.2.2.2.1 i.2.2.2.2.2.2.2.2.2.2.2.2.2.2.2.2.2.2.2.2.2.2.1 i.2.2.2.2.2.2.2.2.2.2.2.2.2.2.2.2.2.2.2.2.2.2.2.1 i.2.2.2.2.2.2.2.2.2.2.2.2.2.2.2.2.2.2.2.2.2.2.2.2.1 i.2.2.2.2.2.2.2.2.2.2.2.2.2.2.2.2.2.2.2.2.2.2.2.2.2.1 i.2.2.2.2.2.2.2.2.2.2.2.2.2.2.2.2.2.2.2.2.2.2.2.2.2.2) (fun {R} i0 i rec_ K => by kernel_rfl) k (xs18, a19, s20, s21, a22, a23, a24, xs25, a26, s27, s28, a29, a30, a31, a32, b33, b34, a35, s36, s37, a38, a39, a40, a41, b42, b43, xs44)
theorem f195.l6.all (k : Nat) (S : St env) : GoodL (f195.X k) (nthC 0 (loopsOf (bodyOf Try.f195))) S (f195.l6.hd k S.ts S.m S.n) := by
  obtain ⟨ts_, m_, n_⟩ := S
  show GoodL _ _ _ (f195.l6.hd k ts_ m_ n_)
  unfold f195.l6.hd
  refine gTs_ok (p := GoodL _ _ _) goodL_no fun _ h => ?_
  subst h
  refine gV_ok (p := GoodL _ _ _) goodL_no fun _ _ h => ?_
  subst h
  refine rImm_ok (p := GoodL _ _ _) goodL_no fun _ h => ?_
  subst h
  refine gV_ok (p := GoodL _ _ _) goodL_no fun _ _ h => ?_
  subst h
  refine rBp_ok (p := GoodL _ _ _) goodL_no fun h => ?_
  subst h
  refine gV_ok (p := GoodL _ _ _) goodL_no fun _ _ h => ?_
  subst h
  refine rBp_ok (p := GoodL _ _ _) goodL_no fun h => ?_
  subst h
  refine gV_ok (p := GoodL _ _ _) goodL_no fun _ _ h => ?_
  subst h
  refine rBp_ok (p := GoodL _ _ _) goodL_no fun h => ?_
  subst h
  refine gV_ok (p := GoodL _ _ _) goodL_no fun _ _ h => ?_
  subst h
  refine rV_ok (p := GoodL _ _ _) goodL_no fun _ h => ?_
  subst h
  refine vI_ok (p := GoodL _ _ _) goodL_no fun _ h => ?_
  subst h
  refine gE_ok (p := GoodL _ _ _) goodL_no fun h => ?_
  subst h
  refine mBox_ok (p := GoodL _ _ _) goodL_no fun _ _ h => ?_
  subst h
  refine gC_ok (p := GoodL _ _ _) goodL_no fun _ _ h => ?_
  subst h
  refine rV_ok (p := GoodL _ _ _) goodL_no fun _ h => ?_
  subst h
  refine vS_ok (p := GoodL _ _ _) goodL_no fun _ h => ?_
  subst h
  refine gC_ok (p := GoodL _ _ _) goodL_no fun _ _ h => ?_
  subst h
  refine rV_ok (p := GoodL _ _ _) goodL_no fun _ h => ?_
  subst h
  refine vS_ok (p := GoodL _ _ _) goodL_no fun _ h => ?_
  subst h
  refine gC_ok (p := GoodL _ _ _) goodL_no fun _ _ h => ?_
  subst h
  refine rV_ok (p := GoodL _ _ _) goodL_no fun _ h => ?_
  subst h
  refine vI_ok (p := GoodL _ _ _) goodL_no fun _ h => ?_
  subst h
  refine gC_ok (p := GoodL _ _ _) goodL_no fun _ _ h => ?_
  subst h
  refine rV_ok (p := GoodL _ _ _) goodL_no fun _ h => ?_
  subst h
  refine vI_ok (p := GoodL _ _ _) goodL_no fun _ h => ?_
  subst h
  refine gC_ok (p := GoodL _ _ _) goodL_no fun _ _ h => ?_
  subst h
  refine rV_ok (p := GoodL _ _ _) goodL_no fun _ h => ?_
  subst h
  refine vI_ok (p := GoodL _ _ _) goodL_no fun _ h => ?_
  subst h
  refine gC_ok (p := GoodL _ _ _) goodL_no fun _ _ h => ?_
  subst h
  refine rImm_ok (p := GoodL _ _ _) goodL_no fun _ h => ?_
  subst h
  refine gE_ok (p := GoodL _ _ _) goodL_no fun h => ?_
  subst h
  refine mBox_ok (p := GoodL _ _ _) goodL_no fun _ _ h => ?_
  subst h
  refine gC_ok (p := GoodL _ _ _) goodL_no fun _ _ h => ?_
  subst h
  refine rV_ok (p := GoodL _ _ _) goodL_no fun _ h => ?_
  subst h
  refine vI_ok (p := GoodL _ _ _) goodL_no fun _ h => ?_
  subst h
  refine gC_ok (p := GoodL _ _ _) goodL_no fun _ _ h => ?_
  subst h
  refine rV_ok (p := GoodL _ _ _) goodL_no fun _ h => ?_
  subst h
  refine vS_ok (p := GoodL _ _ _) goodL_no fun _ h => ?_
  subst h
  refine gC_ok (p := GoodL _ _ _) goodL_no fun _ _ h => ?_
  subst h
  refine rV_ok (p := GoodL _ _ _) goodL_no fun _ h => ?_
  subst h
  refine vS_ok (p := GoodL _ _ _) goodL_no fun _ h => ?_
  subst h
  refine gC_ok (p := GoodL _ _ _) goodL_no fun _ _ h => ?_
  subst h
  refine rV_ok (p := GoodL _ _ _) goodL_no fun _ h => ?_
  subst h
  refine vI_ok (p := GoodL _ _ _) goodL_no fun _ h => ?_
  subst h
  refine gC_ok (p := GoodL _ _ _) goodL_no fun _ _ h => ?_
  subst h
  refine rV_ok (p := GoodL _ _ _) goodL_no fun _ h => ?_
  subst h
  refine vI_ok (p := GoodL _ _ _) goodL_no fun _ h => ?_
  subst h
  refine gC_ok (p := GoodL _ _ _) goodL_no fun _ _ h => ?_
  subst h
  refine rV_ok (p := GoodL _ _ _) goodL_no fun _ h => ?_
  subst h
  refine vI_ok (p := GoodL _ _ _) goodL_no fun _ h => ?_
  subst h
  refine gC_ok (p := GoodL _ _ _) goodL_no fun _ _ h => ?_
  subst h
  refine rV_ok (p := GoodL _ _ _) goodL_no fun _ h => ?_
  subst h
  refine vI_ok (p := GoodL _ _ _) goodL_no fun _ h => ?_
  subst h
  refine gC_ok (p := GoodL _ _ _) goodL_no fun _ _ h => ?_
  subst h
  refine rV_ok (p := GoodL _ _ _) goodL_no fun _ h => ?_
  subst h
  refine vB_ok (p := GoodL _ _ _) goodL_no fun _ h => ?_
  subst h
  refine gC_ok (p := GoodL _ _ _) goodL_no fun _ _ h => ?_
  subst h
  refine rV_ok (p := GoodL _ _ _) goodL_no fun _ h => ?_
  subst h
  refine vB_ok (p := GoodL _ _ _) goodL_no fun _ h => ?_
  subst h
  refine gC_ok (p := GoodL _ _ _) goodL_no fun _ _ h => ?_
  subst h
  refine rV_ok (p := GoodL _ _ _) goodL_no fun _ h => ?_
  subst h
  refine vNil_ok (p := GoodL _ _ _) goodL_no fun h => ?_
  subst h
  refine gE_ok (p := GoodL _ _ _) goodL_no fun h => ?_
  subst h
  refine mBox_ok (p := GoodL _ _ _) goodL_no fun _ _ h => ?_
  subst h
  refine gC_ok (p := GoodL _ _ _) goodL_no fun _ _ h => ?_
  subst h
  refine rV_ok (p := GoodL _ _ _) goodL_no fun _ h => ?_
  subst h
  refine vI_ok (p := GoodL _ _ _) goodL_no fun _ h => ?_
  subst h
  refine gC_ok (p := GoodL _ _ _) goodL_no fun _ _ h => ?_
  subst h
  refine rV_ok (p := GoodL _ _ _) goodL_no fun _ h => ?_
  subst h
  refine vS_ok (p := GoodL _ _ _) goodL_no fun _ h => ?_
  subst h
  refine gC_ok (p := GoodL _ _ _) goodL_no fun _ _ h => ?_
  subst h
  refine rV_ok (p := GoodL _ _ _) goodL_no fun _ h => ?_
  subst h
  refine vS_ok (p := GoodL _ _ _) goodL_no fun _ h => ?_
  subst h
  refine gC_ok (p := GoodL _ _ _) goodL_no fun _ _ h => ?_
  subst h
  refine rV_ok (p := GoodL _ _ _) goodL_no fun _ h => ?_
  subst h
  refine vI_ok (p := GoodL _ _ _) goodL_no fun _ h => ?_
  subst h
  refine gC_ok (p := GoodL _ _ _) goodL_no fun _ _ h => ?_
  subst h
  refine rV_ok (p := GoodL _ _ _) goodL_no fun _ h => ?_
  subst h
  refine vI_ok (p := GoodL _ _ _) goodL_no fun _ h => ?_
  subst h
  refine gC_ok (p := GoodL _ _ _) goodL_no fun _ _ h => ?_
  subst h
  refine rV_ok (p := GoodL _ _ _) goodL_no fun _ h => ?_
  subst h
  refine vI_ok (p := GoodL _ _ _) goodL_no fun _ h => ?_
  subst h
  refine gC_ok (p := GoodL _ _ _) goodL_no fun _ _ h => ?_
  subst h
  refine rV_ok (p := GoodL _ _ _) goodL_no fun _ h => ?_
  subst h
  refine vI_ok (p := GoodL _ _ _) goodL_no fun _ h => ?_
  subst h
  refine gC_ok (p := GoodL _ _ _) goodL_no fun _ _ h => ?_
  subst h
  refine rV_ok (p := GoodL _ _ _) goodL_no fun _ h => ?_
  subst h
  refine vB_ok (p := GoodL _ _ _) goodL_no fun _ h => ?_
  subst h
  refine gC_ok (p := GoodL _ _ _) goodL_no fun _ _ h => ?_
  subst h
  refine rV_ok (p := GoodL _ _ _) goodL_no fun _ h => ?_
  subst h
  refine vB_ok (p := GoodL _ _ _) goodL_no fun _ h => ?_
  subst h
  refine gC_ok (p := GoodL _ _ _) goodL_no fun _ _ h => ?_
  subst h
  refine rRow_ok (p := GoodL _ _ _) goodL_no fun h => ?_
  subst h
  refine gE_ok (p := GoodL _ _ _) goodL_no fun h => ?_
  subst h
  refine mRow_ok (p := GoodL _ _ _) goodL_no fun _ _ h => ?_
  subst h
  refine gE_ok (p := GoodL _ _ _) goodL_no fun h => ?_
  subst h
  refine gN_ok (p := GoodL _ _ _) goodL_no fun h => ?_
  subst h
  exact f195.l6.good k _ _ _ _ _ _ _ _ _ _ _ _ _ _ _ _ _ _ _ _ _ _ _ _ _ _ _
theorem f195.nat {R : Type} (k : Nat) (g : (((List S104) × Int × ByteArray × ByteArray × Int × Int × Int × Int × Bool × Bool × Int) ⊕ ((List S104) × Int × ByteArray × ByteArray × Int × Int × Int × Int × Bool × Bool × (List Int) × Int)) → Option R) (xs1 : List S104) (a2 : Int) (s3 : ByteArray) (s4 : ByteArray) (a5 : Int) (a6 : Int) (a7 : Int) (a8 : Int) (b9 : Bool) (b10 : Bool) (xs11 : List Int) (s12 : ByteArray) (s13 : ByteArray) (a14 : Int) (a15 : Int) (a16 : Int) (xs17 : List S211) : f195.step k g xs1 a2 s3 s4 a5 a6 a7 a8 b9 b10 xs11 s12 s13 a14 a15 a16 xs17 = (f195 k xs1 a2 s3 s4 a5 a6 a7 a8 b9 b10 xs11 s12 s13 a14 a15 a16 xs17).bind g := by
  simp only [f195, f195.step, bind_ite, bind_sum, Option.bind_assoc, Option.bind_some, Option.bind_none]
theorem f195.ev (k : Nat) (xs1 : List S104) (a2 : Int) (s3 : ByteArray) (s4 : ByteArray) (a5 : Int) (a6 : Int) (a7 : Int) (a8 : Int) (b9 : Bool) (b10 : Bool) (xs11 : List Int) (s12 : ByteArray) (s13 : ByteArray) (a14 : Int) (a15 : Int) (a16 : Int) (xs17 : List S211) : evF (f195.X k) (bodyOf Try.f195) Try.f195.ntmps Try.f195.results.toList [.v (.c (.sl 104 xs1)), .g [.s (.int .i64 a2), .s (.string s3), .s (.string s4), .s (.int .i64 a5), .s (.int .i64 a6), .s (.int .i64 a7), .s (.int .i64 a8), .s (.bool b9), .s (.bool b10), .sl 5 xs11], .g [.s (.string s12), .s (.string s13), .s (.int .i64 a14), .s (.int .i64 a15), .s (.int .i64 a16), .sl 211 xs17]] = f195.step k (fun x => f195.w x some) xs1 a2 s3 s4 a5 a6 a7 a8 b9 b10 xs11 s12 s13 a14 a15 a16 xs17 := by kernel_rfl
theorem f195.hok (k : Nat) : HOK (f195.X k) (bodyOf Try.f195) where
  l := allP_mem (by exact ⟨ls_of (h0 := fun S => f195.l6.hd k S.ts S.m S.n) (by kernel_rfl) (f195.l6.all k), trivial⟩)
  j := allP_mem (by exact trivial)
theorem f195.sound0 (k : Nat) : SoundC env Try.prog 195 (f195.hd k) := by
  intro ps_
  show GoodC _ _ _ ps_ (f195.hd k ps_)
  unfold f195.hd
  refine gC_ok (p := GoodC env Try.prog 195 _) goodC_no fun _ _ h => ?_
  subst h
  refine qC_ok (p := GoodC env Try.prog 195 _) goodC_no fun _ h => ?_
  subst h
  refine qSl_ok (p := GoodC env Try.prog 195 _) goodC_no fun _ h => ?_
  subst h
  refine gC_ok (p := GoodC env Try.prog 195 _) goodC_no fun _ _ h => ?_
  subst h
  refine qG_ok (p := GoodC env Try.prog 195 _) goodC_no fun _ h => ?_
  subst h
  refine gC_ok (p := GoodC env Try.prog 195 _) goodC_no fun _ _ h => ?_
  subst h
  refine qS_ok (p := GoodC env Try.prog 195 _) goodC_no fun _ h => ?_
  subst h
  refine vI_ok (p := GoodC env Try.prog 195 _) goodC_no fun _ h => ?_
  subst h
  refine gC_ok (p := GoodC env Try.prog 195 _) goodC_no fun _ _ h => ?_
  subst h
  refine qS_ok (p := GoodC env Try.prog 195 _) goodC_no fun _ h => ?_
  subst h
  refine vS_ok (p := GoodC env Try.prog 195 _) goodC_no fun _ h => ?_
  subst h
  refine gC_ok (p := GoodC env Try.prog 195 _) goodC_no fun _ _ h => ?_
  subst h
  refine qS_ok (p := GoodC env Try.prog 195 _) goodC_no fun _ h => ?_
  subst h
  refine vS_ok (p := GoodC env Try.prog 195 _) goodC_no fun _ h => ?_
  subst h
  refine gC_ok (p := GoodC env Try.prog 195 _) goodC_no fun _ _ h => ?_
  subst h
  refine qS_ok (p := GoodC env Try.prog 195 _) goodC_no fun _ h => ?_
  subst h
  refine vI_ok (p := GoodC env Try.prog 195 _) goodC_no fun _ h => ?_
  subst h
  refine gC_ok (p := GoodC env Try.prog 195 _) goodC_no fun _ _ h => ?_
  subst h
  refine qS_ok (p := GoodC env Try.prog 195 _) goodC_no fun _ h => ?_
  subst h
  refine vI_ok (p := GoodC env Try.prog 195 _) goodC_no fun _ h => ?_
  subst h
  refine gC_ok (p := GoodC env Try.prog 195 _) goodC_no fun _ _ h => ?_
  subst h
  refine qS_ok (p := GoodC env Try.prog 195 _) goodC_no fun _ h => ?_
  subst h
  refine vI_ok (p := GoodC env Try.prog 195 _) goodC_no fun _ h => ?_
  subst h
  refine gC_ok (p := GoodC env Try.prog 195 _) goodC_no fun _ _ h => ?_
  subst h
  refine qS_ok (p := GoodC env Try.prog 195 _) goodC_no fun _ h => ?_
  subst h
  refine vI_ok (p := GoodC env Try.prog 195 _) goodC_no fun _ h => ?_
  subst h
  refine gC_ok (p := GoodC env Try.prog 195 _) goodC_no fun _ _ h => ?_
  subst h
  refine qS_ok (p := GoodC env Try.prog 195 _) goodC_no fun _ h => ?_
  subst h
  refine vB_ok (p := GoodC env Try.prog 195 _) goodC_no fun _ h => ?_
  subst h
  refine gC_ok (p := GoodC env Try.prog 195 _) goodC_no fun _ _ h => ?_
  subst h
  refine qS_ok (p := GoodC env Try.prog 195 _) goodC_no fun _ h => ?_
  subst h
  refine vB_ok (p := GoodC env Try.prog 195 _) goodC_no fun _ h => ?_
  subst h
  refine gC_ok (p := GoodC env Try.prog 195 _) goodC_no fun _ _ h => ?_
  subst h
  refine qSl_ok (p := GoodC env Try.prog 195 _) goodC_no fun _ h => ?_
  subst h
  refine gE_ok (p := GoodC env Try.prog 195 _) goodC_no fun h => ?_
  subst h
  refine gC_ok (p := GoodC env Try.prog 195 _) goodC_no fun _ _ h => ?_
  subst h
  refine qG_ok (p := GoodC env Try.prog 195 _) goodC_no fun _ h => ?_
  subst h
  refine gC_ok (p := GoodC env Try.prog 195 _) goodC_no fun _ _ h => ?_
  subst h
  refine qS_ok (p := GoodC env Try.prog 195 _) goodC_no fun _ h => ?_
  subst h
  refine vS_ok (p := GoodC env Try.prog 195 _) goodC_no fun _ h => ?_
  subst h
  refine gC_ok (p := GoodC env Try.prog 195 _) goodC_no fun _ _ h => ?_
  subst h
  refine qS_ok (p := GoodC env Try.prog 195 _) goodC_no fun _ h => ?_
  subst h
  refine vS_ok (p := GoodC env Try.prog 195 _) goodC_no fun _ h => ?_
  subst h
  refine gC_ok (p := GoodC env Try.prog 195 _) goodC_no fun _ _ h => ?_
  subst h
  refine qS_ok (p := GoodC env Try.prog 195 _) goodC_no fun _ h => ?_
  subst h
  refine vI_ok (p := GoodC env Try.prog 195 _) goodC_no fun _ h => ?_
  subst h
  refine gC_ok (p := GoodC env Try.prog 195 _) goodC_no fun _ _ h => ?_
  subst h
  refine qS_ok (p := GoodC env Try.prog 195 _) goodC_no fun _ h => ?_
  subst h
  refine vI_ok (p := GoodC env Try.prog 195 _) goodC_no fun _ h => ?_
  subst h
  refine gC_ok (p := GoodC env Try.prog 195 _) goodC_no fun _ _ h => ?_
  subst h
  refine qS_ok (p := GoodC env Try.prog 195 _) goodC_no fun _ h => ?_
  subst h
  refine vI_ok (p := GoodC env Try.prog 195 _) goodC_no fun _ h => ?_
  subst h
  refine gC_ok (p := GoodC env Try.prog 195 _) goodC_no fun _ _ h => ?_
  subst h
  refine qSl_ok (p := GoodC env Try.prog 195 _) goodC_no fun _ h => ?_
  subst h
  refine gE_ok (p := GoodC env Try.prog 195 _) goodC_no fun h => ?_
  subst h
  refine gE_ok (p := GoodC env Try.prog 195 _) goodC_no fun h => ?_
  subst h
  exact fun_good (fun_sound envOK (cs_sound _ (by exact ⟨⟨f85.sound k, f85.fnok⟩, trivial⟩)) (f195.hok k) Try.func195 rfl) ((f195.ev k _ _ _ _ _ _ _ _ _ _ _ _ _ _ _ _ _).trans (f195.nat k _ _ _ _ _ _ _ _ _ _ _ _ _ _ _ _ _ _))
theorem f195.sound (k : Nat) : SoundC env Try.prog 195 (f195.e k).F := soundC_coer (f195.sound0 k) [[.rd 104], [.no, .no, .no, .no, .no, .no, .no, .no, .no, .rd 5], [.no, .no, .no, .no, .no, .rd 211]]
theorem f195.fnok : FnOK Try.prog 195 := fn_ok Try.func195 (by kernel_rfl) rfl
end Go.Proofs.Ytildepkogbcdpaa.B

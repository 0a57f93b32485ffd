/- Written by a program of this session. -/
import Derived.Test.YtildepkogbcdpaaBEnv
import Derived.Test.YtildepkogbcdpaaBHd
namespace Go.Proofs.Ytildepkogbcdpaa.B
open Go Go.B
set_option linter.unusedVariables false
set_option linter.unusedSimpArgs false
def f81.step {R : Type} (k : Nat) (ret : ((List Int) × Int × Int) → Option R) (xs1 : List Int) : Option R :=
  ret (xs1, (0 : Int), (Int.tmod (((List.length xs1) : Nat) : Int) (1000 : Int)))
def f81 (k : Nat) (xs1 : List Int) : Option ((List Int) × Int × Int) := f81.step k some xs1
def f81.w {R : Type} : ((List Int) × Int × Int) → (Res env → Option R) → Option R := fun t2 K => K ⟨.v (.c (.ptr [.sl 5 t2.1, .s (.int .i64 t2.2.1), .s (.int .i64 t2.2.2)])), [[]]⟩
theorem f81.wn (x : ((List Int) × Int × Int)) : ∃ res, ∀ {R : Type} (K : Res env → Option R), f81.w x K = K res := by
  exact ⟨_, fun _ => rfl⟩
def f81.hd (k : Nat) (ps_ : List (P2 env)) : Cl env :=
  gC Cl.no ps_ fun p_ ps_ => qC Cl.no p_ fun c_ => qSl Cl.no 5 c_ fun xs1 => gE Cl.no ps_ <| { α := (List Int) × Int × Int, o := f81 k xs1, w := f81.w, nat := fun x _ => f81.wn x }
def f81.e (k : Nat) : Entry env := ⟨fun ps => f81.hd k (coer [[.rd 5]] ps), [], []⟩
def f81.X (k : Nat) : Ctx env := { C := lookE [], L := lookE [], J := lookE [], keep := lookD [], keepX := lookD [], span := lookN [], eff := fun n => memN n [], prep := lookP [], np := 0 }
theorem f81.nat {R : Type} (k : Nat) (g : ((List Int) × Int × Int) → Option R) (xs1 : List Int) : f81.step k g xs1 = (f81 k xs1).bind g := by
  simp only [f81, f81.step, bind_ite, bind_sum, Option.bind_assoc, Option.bind_some, Option.bind_none]
theorem f81.ev (k : Nat) (xs1 : List Int) : evF (f81.X k) (bodyOf Try.f81) Try.f81.ntmps Try.f81.results.toList [.v (.c (.sl 5 xs1))] = f81.step k (fun x => f81.w x some) xs1 := by kernel_rfl
theorem f81.hok (k : Nat) : HOK (f81.X k) (bodyOf Try.f81) where
  l := allP_mem (by exact trivial)
  j := allP_mem (by exact trivial)
theorem f81.sound0 (k : Nat) : SoundC env Try.prog 81 (f81.hd k) := by
  intro ps_
  show GoodC _ _ _ ps_ (f81.hd k ps_)
  unfold f81.hd
  refine gC_ok (p := GoodC env Try.prog 81 _) goodC_no fun _ _ h => ?_
  subst h
  refine qC_ok (p := GoodC env Try.prog 81 _) goodC_no fun _ h => ?_
  subst h
  refine qSl_ok (p := GoodC env Try.prog 81 _) goodC_no fun _ h => ?_
  subst h
  refine gE_ok (p := GoodC env Try.prog 81 _) goodC_no fun h => ?_
  subst h
  exact fun_good (fun_sound envOK (cs_sound _ (by exact trivial)) (f81.hok k) Try.func81 rfl) ((f81.ev k _).trans (f81.nat k _ _))
theorem f81.sound (k : Nat) : SoundC env Try.prog 81 (f81.e k).F := soundC_coer (f81.sound0 k) [[.rd 5]]
theorem f81.says (k : Nat) (xs1 : List Int) (t3 : (List Int) × Int × Int) (h_ : f81 k xs1 = some t3) : SoundAt env Try.prog 81 [.v (.c (.sl 5 xs1))] ⟨.v (.c (.ptr [.sl 5 t3.1, .s (.int .i64 t3.2.1), .s (.int .i64 t3.2.2)])), [[]]⟩ :=
  fun_sound envOK (cs_sound _ (by exact trivial)) (f81.hok k) Try.func81 rfl _ _ (((f81.ev k xs1).trans (f81.nat k _ xs1)).trans (by rw [h_]; rfl))
theorem f81.fnok : FnOK Try.prog 81 := fn_ok Try.func81 (by kernel_rfl) rfl
def f182.step {R : Type} (k : Nat) (ret : (Int × (List Int) × Int × Int) → Option R) (xs1 : List Int) (a2 : Int) (a3 : Int) : Option R :=
  if (decide ((IntKind.i64.wrap (a2 + (1 : Int))) ≤ (((List.length xs1) : Nat) : Int))) = true then
    if (0 : Int) ≤ (IntKind.i64.wrap ((IntKind.i64.wrap (a2 + (1 : Int))) - (1 : Int))) then
      if (IntKind.i64.wrap ((IntKind.i64.wrap (a2 + (1 : Int))) - (1 : Int))) < ((List.length xs1 : Nat) : Int) then
        if (0 : Int) ≤ (IntKind.i64.wrap ((IntKind.i64.wrap (a2 + (1 : Int))) - (1 : Int))) then
          if (IntKind.i64.wrap ((IntKind.i64.wrap (a2 + (1 : Int))) - (1 : Int))) < ((List.length xs1 : Nat) : Int) then
            ret ((IntKind.i64.wrap (List.getD xs1 (Int.toNat (IntKind.i64.wrap ((IntKind.i64.wrap (a2 + (1 : Int))) - (1 : Int)))) (0 : Int))), xs1, (IntKind.i64.wrap (a2 + (1 : Int))), (Int.tmod (IntKind.i64.wrap ((IntKind.i64.wrap ((IntKind.i64.wrap (a3 * (31 : Int))) + (IntKind.i64.wrap (List.getD xs1 (Int.toNat (IntKind.i64.wrap ((IntKind.i64.wrap (a2 + (1 : Int))) - (1 : Int)))) (0 : Int))))) + (7 : Int))) (2147483648 : Int)))
          else none
        else none
      else none
    else none
  else
    if (decide ((IntKind.i64.wrap (a2 + (1 : Int))) > (3000 : Int))) = true then
      ret ((0 : Int), xs1, (IntKind.i64.wrap (a2 + (1 : Int))), a3)
    else
      ret ((Int.tmod (IntKind.i64.wrap (Int.tdiv (Int.tmod (IntKind.i64.wrap ((IntKind.i64.wrap (a3 * (1103515245 : Int))) + (12345 : Int))) (2147483648 : Int)) (65536 : Int))) (256 : Int)), xs1, (IntKind.i64.wrap (a2 + (1 : Int))), (Int.tmod (IntKind.i64.wrap ((IntKind.i64.wrap (a3 * (1103515245 : Int))) + (12345 : Int))) (2147483648 : Int)))
def f182 (k : Nat) (xs1 : List Int) (a2 : Int) (a3 : Int) : Option (Int × (List Int) × Int × Int) := f182.step k some xs1 a2 a3
def f182.w {R : Type} : (Int × (List Int) × Int × Int) → (Res env → Option R) → Option R := fun t4 K => K ⟨.v (.c (.s (.int .i64 t4.1))), [[.sl 5 t4.2.1, .s (.int .i64 t4.2.2.1), .s (.int .i64 t4.2.2.2)]]⟩
theorem f182.wn (x : (Int × (List Int) × Int × Int)) : ∃ res, ∀ {R : Type} (K : Res env → Option R), f182.w x K = K res := by
  exact ⟨_, fun _ => rfl⟩
def f182.hd (k : Nat) (ps_ : List (P2 env)) : Cl env :=
  gC Cl.no ps_ fun p_ ps_ => qP Cl.no p_ fun cs_ => gC Cl.no cs_ fun c_ cs_ => qSl Cl.no 5 c_ fun xs1 => gC Cl.no cs_ fun c_ cs_ => qS Cl.no c_ fun v_ => vI Cl.no .i64 v_ fun a2 => gC Cl.no cs_ fun c_ cs_ => qS Cl.no c_ fun v_ => vI Cl.no .i64 v_ fun a3 => gE Cl.no cs_ <| gE Cl.no ps_ <| { α := Int × (List Int) × Int × Int, o := f182 k xs1 a2 a3, w := f182.w, nat := fun x _ => f182.wn x }
def f182.e (k : Nat) : Entry env := ⟨fun ps => f182.hd k (coer [[.rd 5, .no, .no]] ps), [], []⟩
def f182.X (k : Nat) : Ctx env := { C := lookE [], L := lookE [], J := lookE [], keep := lookD [], keepX := lookD [], span := lookN [], eff := fun n => memN n [3], prep := lookP [], np := 0 }
theorem f182.nat {R : Type} (k : Nat) (g : (Int × (List Int) × Int × Int) → Option R) (xs1 : List Int) (a2 : Int) (a3 : Int) : f182.step k g xs1 a2 a3 = (f182 k xs1 a2 a3).bind g := by
  simp only [f182, f182.step, bind_ite, bind_sum, Option.bind_assoc, Option.bind_some, Option.bind_none]
theorem f182.ev (k : Nat) (xs1 : List Int) (a2 : Int) (a3 : Int) : evF (f182.X k) (bodyOf Try.f182) Try.f182.ntmps Try.f182.results.toList [.v (.ptr [.sl 5 xs1, .s (.int .i64 a2), .s (.int .i64 a3)])] = f182.step k (fun x => f182.w x some) xs1 a2 a3 := by kernel_rfl
theorem f182.hok (k : Nat) : HOK (f182.X k) (bodyOf Try.f182) where
  l := allP_mem (by exact trivial)
  j := allP_mem (by exact trivial)
theorem f182.sound0 (k : Nat) : SoundC env Try.prog 182 (f182.hd k) := by
  intro ps_
  show GoodC _ _ _ ps_ (f182.hd k ps_)
  unfold f182.hd
  refine gC_ok (p := GoodC env Try.prog 182 _) goodC_no fun _ _ h => ?_
  subst h
  refine qP_ok (p := GoodC env Try.prog 182 _) goodC_no fun _ h => ?_
  subst h
  refine gC_ok (p := GoodC env Try.prog 182 _) goodC_no fun _ _ h => ?_
  subst h
  refine qSl_ok (p := GoodC env Try.prog 182 _) goodC_no fun _ h => ?_
  subst h
  refine gC_ok (p := GoodC env Try.prog 182 _) goodC_no fun _ _ h => ?_
  subst h
  refine qS_ok (p := GoodC env Try.prog 182 _) goodC_no fun _ h => ?_
  subst h
  refine vI_ok (p := GoodC env Try.prog 182 _) goodC_no fun _ h => ?_
  subst h
  refine gC_ok (p := GoodC env Try.prog 182 _) goodC_no fun _ _ h => ?_
  subst h
  refine qS_ok (p := GoodC env Try.prog 182 _) goodC_no fun _ h => ?_
  subst h
  refine vI_ok (p := GoodC env Try.prog 182 _) goodC_no fun _ h => ?_
  subst h
  refine gE_ok (p := GoodC env Try.prog 182 _) goodC_no fun h => ?_
  subst h
  refine gE_ok (p := GoodC env Try.prog 182 _) goodC_no fun h => ?_
  subst h
  exact fun_good (fun_sound envOK (cs_sound _ (by exact trivial)) (f182.hok k) Try.func182 rfl) ((f182.ev k _ _ _).trans (f182.nat k _ _ _ _))
theorem f182.sound (k : Nat) : SoundC env Try.prog 182 (f182.e k).F := soundC_coer (f182.sound0 k) [[.rd 5, .no, .no]]
theorem f182.says (k : Nat) (xs1 : List Int) (a2 : Int) (a3 : Int) (t5 : Int × (List Int) × Int × Int) (h_ : f182 k xs1 a2 a3 = some t5) : SoundAt env Try.prog 182 [.v (.ptr [.sl 5 xs1, .s (.int .i64 a2), .s (.int .i64 a3)])] ⟨.v (.c (.s (.int .i64 t5.1))), [[.sl 5 t5.2.1, .s (.int .i64 t5.2.2.1), .s (.int .i64 t5.2.2.2)]]⟩ :=
  fun_sound envOK (cs_sound _ (by exact trivial)) (f182.hok k) Try.func182 rfl _ _ (((f182.ev k xs1 a2 a3).trans (f182.nat k _ xs1 a2 a3)).trans (by rw [h_]; rfl))
theorem f182.fnok : FnOK Try.prog 182 := fn_ok Try.func182 (by kernel_rfl) rfl
def f145.step {R : Type} (k : Nat) (ret : (Int × (List Int) × Int × Int) → Option R) (xs1 : List Int) (a2 : Int) (a3 : Int) (a4 : Int) : Option R :=
  if (decide (a4 ≤ (1 : Int))) = true then
    ret ((0 : Int), xs1, a2, a3)
  else
    if (decide (a4 ≤ (256 : Int))) = true then
      (f182 k xs1 a2 a3).bind fun t5 => if a4 ≠ 0 then
          ret ((Int.tmod t5.1 a4), t5.2.1, t5.2.2.1, t5.2.2.2)
        else none
    else
      (f182 k xs1 a2 a3).bind fun t6 => (f182 k t6.2.1 t6.2.2.1 t6.2.2.2).bind fun t7 => (f182 k t7.2.1 t7.2.2.1 t7.2.2.2).bind fun t8 => if a4 ≠ 0 then
              ret ((Int.tmod (IntKind.i64.wrap ((IntKind.i64.wrap ((IntKind.i64.wrap (t6.1 * (65536 : Int))) + (IntKind.i64.wrap (t7.1 * (256 : Int))))) + t8.1)) a4), t8.2.1, t8.2.2.1, t8.2.2.2)
            else none
def f145 (k : Nat) (xs1 : List Int) (a2 : Int) (a3 : Int) (a4 : Int) : Option (Int × (List Int) × Int × Int) := f145.step k some xs1 a2 a3 a4
def f145.w {R : Type} : (Int × (List Int) × Int × Int) → (Res env → Option R) → Option R := fun t9 K => K ⟨.v (.c (.s (.int .i64 t9.1))), [[.sl 5 t9.2.1, .s (.int .i64 t9.2.2.1), .s (.int .i64 t9.2.2.2)], []]⟩
theorem f145.wn (x : (Int × (List Int) × Int × Int)) : ∃ res, ∀ {R : Type} (K : Res env → Option R), f145.w x K = K res := by
  exact ⟨_, fun _ => rfl⟩
def f145.hd (k : Nat) (ps_ : List (P2 env)) : Cl env :=
  gC Cl.no ps_ fun p_ ps_ => qP Cl.no p_ fun cs_ => gC Cl.no cs_ fun c_ cs_ => qSl Cl.no 5 c_ fun xs1 => gC Cl.no cs_ fun c_ cs_ => qS Cl.no c_ fun v_ => vI Cl.no .i64 v_ fun a2 => gC Cl.no cs_ fun c_ cs_ => qS Cl.no c_ fun v_ => vI Cl.no .i64 v_ fun a3 => gE Cl.no cs_ <| gC Cl.no ps_ fun p_ ps_ => qC Cl.no p_ fun c_ => qS Cl.no c_ fun v_ => vI Cl.no .i64 v_ fun a4 => gE Cl.no ps_ <| { α := Int × (List Int) × Int × Int, o := f145 k xs1 a2 a3 a4, w := f145.w, nat := fun x _ => f145.wn x }
def f145.e (k : Nat) : Entry env := ⟨fun ps => f145.hd k (coer [[.rd 5, .no, .no], [.no]] ps), [], []⟩
def f145.X (k : Nat) : Ctx env := { C := lookE [(182, f182.e k)], L := lookE [], J := lookE [], keep := lookD [], keepX := lookD [], span := lookN [], eff := fun n => memN n [], prep := lookP [], np := 0 }
theorem f145.nat {R : Type} (k : Nat) (g : (Int × (List Int) × Int × Int) → Option R) (xs1 : List Int) (a2 : Int) (a3 : Int) (a4 : Int) : f145.step k g xs1 a2 a3 a4 = (f145 k xs1 a2 a3 a4).bind g := by
  simp only [f145, f145.step, bind_ite, bind_sum, Option.bind_assoc, Option.bind_some, Option.bind_none]
theorem f145.ev (k : Nat) (xs1 : List Int) (a2 : Int) (a3 : Int) (a4 : Int) : evF (f145.X k) (bodyOf Try.f145) Try.f145.ntmps Try.f145.results.toList [.v (.ptr [.sl 5 xs1, .s (.int .i64 a2), .s (.int .i64 a3)]), .v (.c (.s (.int .i64 a4)))] = f145.step k (fun x => f145.w x some) xs1 a2 a3 a4 := by kernel_rfl
theorem f145.hok (k : Nat) : HOK (f145.X k) (bodyOf Try.f145) where
  l := allP_mem (by exact trivial)
  j := allP_mem (by exact trivial)
theorem f145.sound0 (k : Nat) : SoundC env Try.prog 145 (f145.hd k) := by
  intro ps_
  show GoodC _ _ _ ps_ (f145.hd k ps_)
  unfold f145.hd
  refine gC_ok (p := GoodC env Try.prog 145 _) goodC_no fun _ _ h => ?_
  subst h
  refine qP_ok (p := GoodC env Try.prog 145 _) goodC_no fun _ h => ?_
  subst h
  refine gC_ok (p := GoodC env Try.prog 145 _) goodC_no fun _ _ h => ?_
  subst h
  refine qSl_ok (p := GoodC env Try.prog 145 _) goodC_no fun _ h => ?_
  subst h
  refine gC_ok (p := GoodC env Try.prog 145 _) goodC_no fun _ _ h => ?_
  subst h
  refine qS_ok (p := GoodC env Try.prog 145 _) goodC_no fun _ h => ?_
  subst h
  refine vI_ok (p := GoodC env Try.prog 145 _) goodC_no fun _ h => ?_
  subst h
  refine gC_ok (p := GoodC env Try.prog 145 _) goodC_no fun _ _ h => ?_
  subst h
  refine qS_ok (p := GoodC env Try.prog 145 _) goodC_no fun _ h => ?_
  subst h
  refine vI_ok (p := GoodC env Try.prog 145 _) goodC_no fun _ h => ?_
  subst h
  refine gE_ok (p := GoodC env Try.prog 145 _) goodC_no fun h => ?_
  subst h
  refine gC_ok (p := GoodC env Try.prog 145 _) goodC_no fun _ _ h => ?_
  subst h
  refine qC_ok (p := GoodC env Try.prog 145 _) goodC_no fun _ h => ?_
  subst h
  refine qS_ok (p := GoodC env Try.prog 145 _) goodC_no fun _ h => ?_
  subst h
  refine vI_ok (p := GoodC env Try.prog 145 _) goodC_no fun _ h => ?_
  subst h
  refine gE_ok (p := GoodC env Try.prog 145 _) goodC_no fun h => ?_
  subst h
  exact fun_good (fun_sound envOK (cs_sound _ (by exact ⟨⟨f182.sound k, f182.fnok⟩, trivial⟩)) (f145.hok k) Try.func145 rfl) ((f145.ev k _ _ _ _).trans (f145.nat k _ _ _ _ _))
theorem f145.sound (k : Nat) : SoundC env Try.prog 145 (f145.e k).F := soundC_coer (f145.sound0 k) [[.rd 5, .no, .no], [.no]]
theorem f145.says (k : Nat) (xs1 : List Int) (a2 : Int) (a3 : Int) (a4 : Int) (t10 : Int × (List Int) × Int × Int) (h_ : f145 k xs1 a2 a3 a4 = some t10) : SoundAt env Try.prog 145 [.v (.ptr [.sl 5 xs1, .s (.int .i64 a2), .s (.int .i64 a3)]), .v (.c (.s (.int .i64 a4)))] ⟨.v (.c (.s (.int .i64 t10.1))), [[.sl 5 t10.2.1, .s (.int .i64 t10.2.2.1), .s (.int .i64 t10.2.2.2)], []]⟩ :=
  fun_sound envOK (cs_sound _ (by exact ⟨⟨f182.sound k, f182.fnok⟩, trivial⟩)) (f145.hok k) Try.func145 rfl _ _ (((f145.ev k xs1 a2 a3 a4).trans (f145.nat k _ xs1 a2 a3 a4)).trans (by rw [h_]; rfl))
theorem f145.fnok : FnOK Try.prog 145 := fn_ok Try.func145 (by kernel_rfl) rfl
def f164.l5.step {R : Type} (k : Nat) (rec_ : Int → (List Int) → Int → Int → (List Int) → Option R) (ret : ((List Int) × Int × Int × (List Int)) → Option R) (a6 : Int) (xs7 : List Int) (a8 : Int) (a9 : Int) (xs10 : List Int) : Option R :=
  if (decide (a6 > (0 : Int))) = true then
    (f145 k xs7 a8 a9 (16 : Int)).bind fun t11 => (f145 k t11.2.1 t11.2.2.1 t11.2.2.2 (256 : Int)).bind fun t12 => if (0 : Int) ≤ t11.1 then
          if t11.1 < ((List.length xs10 : Nat) : Int) then
            rec_ (IntKind.i64.wrap (a6 - (1 : Int))) t12.2.1 t12.2.2.1 t12.2.2.2 (List.set xs10 (Int.toNat t11.1) (IntKind.u8.wrap t12.1))
          else none
        else none
  else
    ret (xs7, a8, a9, xs10)
def f164.l5 (k : Nat) : Nat → Int → (List Int) → Int → Int → (List Int) → Option ((List Int) × Int × Int × (List Int))
  | 0, _, _, _, _, _ => none
  | j + 1, a6, xs7, a8, a9, xs10 => f164.l5.step k (fun a6 xs7 a8 a9 xs10 => f164.l5 k j a6 xs7 a8 a9 xs10) some a6 xs7 a8 a9 xs10
def f164.l5.w {R : Type} : ((List Int) × Int × Int × (List Int)) → (Exit → St env → Option R) → Option R := fun t14 K => K (.exit 0) ⟨fullT [0, 3] 0 28 [.v (.c (.bp 0 0)), .v (.c (.row 17))], [(0, .box [.imm 5 t14.1, .s (.int .i64 t14.2.1), .s (.int .i64 t14.2.2.1)]), (17, .row true 5 t14.2.2.2)], 449⟩
def f164.l5.st (a6 : Int) (xs7 : List Int) (a8 : Int) (a9 : Int) (xs10 : List Int) : St env := ⟨fullT [0, 3, 4] 0 28 [.v (.c (.bp 0 0)), .v (.c (.row 17)), .v (.c (.s (.int .i64 a6)))], [(0, .box [.imm 5 xs7, .s (.int .i64 a8), .s (.int .i64 a9)]), (17, .row true 5 xs10)], 241⟩
def f164.l5.hd (k : Nat) (ts_ : List (AV env)) (mm_ : Mem env) (n_ : Nat) : LCl env :=
  gTs LCl.no [0, 3, 4] 28 ts_ fun l_ => gV LCl.no l_ fun a_ l_ => rBp LCl.no 0 0 a_ <| gV LCl.no l_ fun a_ l_ => rRow LCl.no 17 a_ <| gV LCl.no l_ fun a_ l_ => rV LCl.no a_ fun v_ => vI LCl.no .i64 v_ fun a6 => gE LCl.no l_ <| mBox LCl.no 0 mm_ fun c_ m_ => gC LCl.no c_ fun a_ c_ => rImm LCl.no 5 a_ fun xs7 => gC LCl.no c_ fun a_ c_ => rV LCl.no a_ fun v_ => vI LCl.no .i64 v_ fun a8 => gC LCl.no c_ fun a_ c_ => rV LCl.no a_ fun v_ => vI LCl.no .i64 v_ fun a9 => gE LCl.no c_ <| mRow LCl.no 17 true 5 m_ fun xs10 m_ => gE LCl.no m_ <| gN LCl.no 241 n_ { α := (List Int) × Int × Int × (List Int), o := f164.l5 k k a6 xs7 a8 a9 xs10, w := f164.l5.w }
def f164.step {R : Type} (k : Nat) (ret : (ByteArray × (List Int) × Int × Int) → Option R) (xs1 : List Int) (a2 : Int) (a3 : Int) : Option R :=
  if (0 : Int) < ((List.length (List.replicate 16 (0 : Int)) : Nat) : Int) then
    (f145 k xs1 a2 a3 (2 : Int)).bind fun t4 => if (1 : Int) < ((List.length (List.set (List.replicate 16 (0 : Int)) 0 (32 : Int)) : Nat) : Int) then
        (f145 k t4.2.1 t4.2.2.1 t4.2.2.2 (4 : Int)).bind fun t5 => (f164.l5 k k t5.1 t5.2.1 t5.2.2.1 t5.2.2.2 (List.set (List.set (List.replicate 16 (0 : Int)) 0 (32 : Int)) 1 (IntKind.u8.wrap t4.1))).bind fun t13 => ret ((strOf t13.2.2.2), t13.1, t13.2.1, t13.2.2.1)
      else none
  else none
def f164 (k : Nat) (xs1 : List Int) (a2 : Int) (a3 : Int) : Option (ByteArray × (List Int) × Int × Int) := f164.step k some xs1 a2 a3
def f164.w {R : Type} : (ByteArray × (List Int) × Int × Int) → (Res env → Option R) → Option R := fun t15 K => K ⟨.v (.c (.s (.string t15.1))), [[.sl 5 t15.2.1, .s (.int .i64 t15.2.2.1), .s (.int .i64 t15.2.2.2)]]⟩
theorem f164.wn (x : (ByteArray × (List Int) × Int × Int)) : ∃ res, ∀ {R : Type} (K : Res env → Option R), f164.w x K = K res := by
  exact ⟨_, fun _ => rfl⟩
def f164.hd (k : Nat) (ps_ : List (P2 env)) : Cl env :=
  gC Cl.no ps_ fun p_ ps_ => qP Cl.no p_ fun cs_ => gC Cl.no cs_ fun c_ cs_ => qSl Cl.no 5 c_ fun xs1 => gC Cl.no cs_ fun c_ cs_ => qS Cl.no c_ fun v_ => vI Cl.no .i64 v_ fun a2 => gC Cl.no cs_ fun c_ cs_ => qS Cl.no c_ fun v_ => vI Cl.no .i64 v_ fun a3 => gE Cl.no cs_ <| gE Cl.no ps_ <| { α := ByteArray × (List Int) × Int × Int, o := f164 k xs1 a2 a3, w := f164.w, nat := fun x _ => f164.wn x }
def f164.e (k : Nat) : Entry env := ⟨fun ps => f164.hd k (coer [[.rd 5, .no, .no]] ps), [], []⟩
def f164.X (k : Nat) : Ctx env := { C := lookE [(145, f145.e k)], L := lookE [(5, fun S => f164.l5.hd k S.ts S.m S.n)], J := lookE [], keep := lookD [(5, [0, 3, 4])], keepX := lookD [(5, [0, 3])], span := lookN [(5, 208)], eff := fun n => memN n [], prep := lookP [], np := 0 }
theorem f164.l5.nat {R : Type} (k : Nat) (rec_ : Int → (List Int) → Int → Int → (List Int) → Option ((List Int) × Int × Int × (List Int))) (g : ((List Int) × Int × Int × (List Int)) → Option R) (a6 : Int) (xs7 : List Int) (a8 : Int) (a9 : Int) (xs10 : List Int) : (f164.l5.step k rec_ some a6 xs7 a8 a9 xs10).bind g = f164.l5.step k (fun a6 xs7 a8 a9 xs10 => (rec_ a6 xs7 a8 a9 xs10).bind g) g a6 xs7 a8 a9 xs10 := by
  simp only [f164.l5.step, bind_ite, bind_sum, Option.bind_assoc, Option.bind_some, Option.bind_none]
theorem f164.l5.good (k : Nat) (a6 : Int) (xs7 : List Int) (a8 : Int) (a9 : Int) (xs10 : List Int) : GoodL (f164.X k) (nthC 0 (loopsOf (bodyOf Try.f164))) (f164.l5.st a6 xs7 a8 a9 xs10) { α := ((List Int) × Int × Int × (List Int)), o := f164.l5 k k a6 xs7 a8 a9 xs10, w := f164.l5.w } :=
  loop_good (ι := Int × (List Int) × Int × Int × (List Int)) (α := ((List Int) × Int × Int × (List Int))) (fun i => f164.l5.st i.1 i.2.1 i.2.2.1 i.2.2.2.1 i.2.2.2.2) (fun j i => f164.l5 k j i.1 i.2.1 i.2.2.1 i.2.2.2.1 i.2.2.2.2) f164.l5.w (fun rec_ ret i => f164.l5.step k (fun a6 xs7 a8 a9 xs10 => rec_ (a6, xs7, a8, a9, xs10)) ret i.1 i.2.1 i.2.2.1 i.2.2.2.1 i.2.2.2.2)
    (fun _ => rfl) (fun _ _ => rfl) (fun rec_ g i => f164.l5.nat k _ g i.1 i.2.1 i.2.2.1 i.2.2.2.1 i.2.2.2.2) (fun {R} i0 i rec_ K => by kernel_rfl) k (a6, xs7, a8, a9, xs10)
theorem f164.l5.all (k : Nat) (S : St env) : GoodL (f164.X k) (nthC 0 (loopsOf (bodyOf Try.f164))) S (f164.l5.hd k S.ts S.m S.n) := by
  obtain ⟨ts_, m_, n_⟩ := S
  show GoodL _ _ _ (f164.l5.hd k ts_ m_ n_)
  unfold f164.l5.hd
  refine gTs_ok (p := GoodL _ _ _) goodL_no fun _ h => ?_
  subst h
  refine gV_ok (p := GoodL _ _ _) goodL_no fun _ _ h => ?_
  subst h
  refine rBp_ok (p := GoodL _ _ _) goodL_no fun h => ?_
  subst h
  refine gV_ok (p := GoodL _ _ _) goodL_no fun _ _ h => ?_
  subst h
  refine rRow_ok (p := GoodL _ _ _) goodL_no fun h => ?_
  subst h
  refine gV_ok (p := GoodL _ _ _) goodL_no fun _ _ h => ?_
  subst h
  refine rV_ok (p := GoodL _ _ _) goodL_no fun _ h => ?_
  subst h
  refine vI_ok (p := GoodL _ _ _) goodL_no fun _ h => ?_
  subst h
  refine gE_ok (p := GoodL _ _ _) goodL_no fun h => ?_
  subst h
  refine mBox_ok (p := GoodL _ _ _) goodL_no fun _ _ h => ?_
  subst h
  refine gC_ok (p := GoodL _ _ _) goodL_no fun _ _ h => ?_
  subst h
  refine rImm_ok (p := GoodL _ _ _) goodL_no fun _ h => ?_
  subst h
  refine gC_ok (p := GoodL _ _ _) goodL_no fun _ _ h => ?_
  subst h
  refine rV_ok (p := GoodL _ _ _) goodL_no fun _ h => ?_
  subst h
  refine vI_ok (p := GoodL _ _ _) goodL_no fun _ h => ?_
  subst h
  refine gC_ok (p := GoodL _ _ _) goodL_no fun _ _ h => ?_
  subst h
  refine rV_ok (p := GoodL _ _ _) goodL_no fun _ h => ?_
  subst h
  refine vI_ok (p := GoodL _ _ _) goodL_no fun _ h => ?_
  subst h
  refine gE_ok (p := GoodL _ _ _) goodL_no fun h => ?_
  subst h
  refine mRow_ok (p := GoodL _ _ _) goodL_no fun _ _ h => ?_
  subst h
  refine gE_ok (p := GoodL _ _ _) goodL_no fun h => ?_
  subst h
  refine gN_ok (p := GoodL _ _ _) goodL_no fun h => ?_
  subst h
  exact f164.l5.good k _ _ _ _ _
theorem f164.nat {R : Type} (k : Nat) (g : (ByteArray × (List Int) × Int × Int) → Option R) (xs1 : List Int) (a2 : Int) (a3 : Int) : f164.step k g xs1 a2 a3 = (f164 k xs1 a2 a3).bind g := by
  simp only [f164, f164.step, bind_ite, bind_sum, Option.bind_assoc, Option.bind_some, Option.bind_none]
theorem f164.ev (k : Nat) (xs1 : List Int) (a2 : Int) (a3 : Int) : evF (f164.X k) (bodyOf Try.f164) Try.f164.ntmps Try.f164.results.toList [.v (.ptr [.sl 5 xs1, .s (.int .i64 a2), .s (.int .i64 a3)])] = f164.step k (fun x => f164.w x some) xs1 a2 a3 := by kernel_rfl
theorem f164.hok (k : Nat) : HOK (f164.X k) (bodyOf Try.f164) where
  l := allP_mem (by exact ⟨ls_of (h0 := fun S => f164.l5.hd k S.ts S.m S.n) (by kernel_rfl) (f164.l5.all k), trivial⟩)
  j := allP_mem (by exact trivial)
theorem f164.sound0 (k : Nat) : SoundC env Try.prog 164 (f164.hd k) := by
  intro ps_
  show GoodC _ _ _ ps_ (f164.hd k ps_)
  unfold f164.hd
  refine gC_ok (p := GoodC env Try.prog 164 _) goodC_no fun _ _ h => ?_
  subst h
  refine qP_ok (p := GoodC env Try.prog 164 _) goodC_no fun _ h => ?_
  subst h
  refine gC_ok (p := GoodC env Try.prog 164 _) goodC_no fun _ _ h => ?_
  subst h
  refine qSl_ok (p := GoodC env Try.prog 164 _) goodC_no fun _ h => ?_
  subst h
  refine gC_ok (p := GoodC env Try.prog 164 _) goodC_no fun _ _ h => ?_
  subst h
  refine qS_ok (p := GoodC env Try.prog 164 _) goodC_no fun _ h => ?_
  subst h
  refine vI_ok (p := GoodC env Try.prog 164 _) goodC_no fun _ h => ?_
  subst h
  refine gC_ok (p := GoodC env Try.prog 164 _) goodC_no fun _ _ h => ?_
  subst h
  refine qS_ok (p := GoodC env Try.prog 164 _) goodC_no fun _ h => ?_
  subst h
  refine vI_ok (p := GoodC env Try.prog 164 _) goodC_no fun _ h => ?_
  subst h
  refine gE_ok (p := GoodC env Try.prog 164 _) goodC_no fun h => ?_
  subst h
  refine gE_ok (p := GoodC env Try.prog 164 _) goodC_no fun h => ?_
  subst h
  exact fun_good (fun_sound envOK (cs_sound _ (by exact ⟨⟨f145.sound k, f145.fnok⟩, trivial⟩)) (f164.hok k) Try.func164 rfl) ((f164.ev k _ _ _).trans (f164.nat k _ _ _ _))
theorem f164.sound (k : Nat) : SoundC env Try.prog 164 (f164.e k).F := soundC_coer (f164.sound0 k) [[.rd 5, .no, .no]]
theorem f164.says (k : Nat) (xs1 : List Int) (a2 : Int) (a3 : Int) (t16 : ByteArray × (List Int) × Int × Int) (h_ : f164 k xs1 a2 a3 = some t16) : SoundAt env Try.prog 164 [.v (.ptr [.sl 5 xs1, .s (.int .i64 a2), .s (.int .i64 a3)])] ⟨.v (.c (.s (.string t16.1))), [[.sl 5 t16.2.1, .s (.int .i64 t16.2.2.1), .s (.int .i64 t16.2.2.2)]]⟩ :=
  fun_sound envOK (cs_sound _ (by exact ⟨⟨f145.sound k, f145.fnok⟩, trivial⟩)) (f164.hok k) Try.func164 rfl _ _ (((f164.ev k xs1 a2 a3).trans (f164.nat k _ xs1 a2 a3)).trans (by rw [h_]; rfl))
theorem f164.fnok : FnOK Try.prog 164 := fn_ok Try.func164 (by kernel_rfl) rfl
def f165.l3.step {R : Type} (k : Nat) (rec_ : Int → (List Int) → Int → Int → (List Int) → Option R) (ret : ((List Int) × Int × Int × (List Int)) → Option R) (a6 : Int) (xs7 : List Int) (a8 : Int) (a9 : Int) (xs10 : List Int) : Option R :=
  if (decide (a6 > (0 : Int))) = true then
    (f145 k xs7 a8 a9 (256 : Int)).bind fun t11 => if (List.length xs10 + List.length ([(IntKind.u8.wrap t11.1)] : List Int)) * 1 ≤ maxN then
        rec_ (IntKind.i64.wrap (a6 - (1 : Int))) t11.2.1 t11.2.2.1 t11.2.2.2 (xs10 ++ ([(IntKind.u8.wrap t11.1)] : List Int))
      else none
  else
    ret (xs7, a8, a9, xs10)
def f165.l3 (k : Nat) : Nat → Int → (List Int) → Int → Int → (List Int) → Option ((List Int) × Int × Int × (List Int))
  | 0, _, _, _, _, _ => none
  | j + 1, a6, xs7, a8, a9, xs10 => f165.l3.step k (fun a6 xs7 a8 a9 xs10 => f165.l3 k j a6 xs7 a8 a9 xs10) some a6 xs7 a8 a9 xs10
def f165.l3.w {R : Type} : ((List Int) × Int × Int × (List Int)) → (Exit → St env → Option R) → Option R := fun t13 K => K (.exit 0) ⟨fullT [0, 5] 0 23 [.v (.c (.bp 0 0)), .v (.c (.row 18))], [(0, .box [.imm 5 t13.1, .s (.int .i64 t13.2.1), .s (.int .i64 t13.2.2.1)]), (18, .row true 5 t13.2.2.2)], 322⟩
def f165.l3.st (a6 : Int) (xs7 : List Int) (a8 : Int) (a9 : Int) (xs10 : List Int) : St env := ⟨fullT [0, 5, 6] 0 23 [.v (.c (.bp 0 0)), .v (.c (.row 18)), .v (.c (.s (.int .i64 a6)))], [(0, .box [.imm 5 xs7, .s (.int .i64 a8), .s (.int .i64 a9)]), (18, .row true 5 xs10)], 130⟩
def f165.l3.hd (k : Nat) (ts_ : List (AV env)) (mm_ : Mem env) (n_ : Nat) : LCl env :=
  gTs LCl.no [0, 5, 6] 23 ts_ fun l_ => gV LCl.no l_ fun a_ l_ => rBp LCl.no 0 0 a_ <| gV LCl.no l_ fun a_ l_ => rRow LCl.no 18 a_ <| gV LCl.no l_ fun a_ l_ => rV LCl.no a_ fun v_ => vI LCl.no .i64 v_ fun a6 => gE LCl.no l_ <| mBox LCl.no 0 mm_ fun c_ m_ => gC LCl.no c_ fun a_ c_ => rImm LCl.no 5 a_ fun xs7 => gC LCl.no c_ fun a_ c_ => rV LCl.no a_ fun v_ => vI LCl.no .i64 v_ fun a8 => gC LCl.no c_ fun a_ c_ => rV LCl.no a_ fun v_ => vI LCl.no .i64 v_ fun a9 => gE LCl.no c_ <| mRow LCl.no 18 true 5 m_ fun xs10 m_ => gE LCl.no m_ <| gN LCl.no 130 n_ { α := (List Int) × Int × Int × (List Int), o := f165.l3 k k a6 xs7 a8 a9 xs10, w := f165.l3.w }
def f165.step {R : Type} (k : Nat) (ret : ((List Int) × (List Int) × Int × Int) → Option R) (xs1 : List Int) (a2 : Int) (a3 : Int) (a4 : Int) : Option R :=
  (f145 k xs1 a2 a3 (IntKind.i64.wrap (a4 + (1 : Int)))).bind fun t5 => (f165.l3 k k t5.1 t5.2.1 t5.2.2.1 t5.2.2.2 ([] : List Int)).bind fun t12 => ret (t12.2.2.2, t12.1, t12.2.1, t12.2.2.1)
def f165 (k : Nat) (xs1 : List Int) (a2 : Int) (a3 : Int) (a4 : Int) : Option ((List Int) × (List Int) × Int × Int) := f165.step k some xs1 a2 a3 a4
def f165.w {R : Type} : ((List Int) × (List Int) × Int × Int) → (Res env → Option R) → Option R := fun t14 K => K ⟨.v (.c (.own true 5 t14.1)), [[.sl 5 t14.2.1, .s (.int .i64 t14.2.2.1), .s (.int .i64 t14.2.2.2)], []]⟩
theorem f165.wn (x : ((List Int) × (List Int) × Int × Int)) : ∃ res, ∀ {R : Type} (K : Res env → Option R), f165.w x K = K res := by
  exact ⟨_, fun _ => rfl⟩
def f165.hd (k : Nat) (ps_ : List (P2 env)) : Cl env :=
  gC Cl.no ps_ fun p_ ps_ => qP Cl.no p_ fun cs_ => gC Cl.no cs_ fun c_ cs_ => qSl Cl.no 5 c_ fun xs1 => gC Cl.no cs_ fun c_ cs_ => qS Cl.no c_ fun v_ => vI Cl.no .i64 v_ fun a2 => gC Cl.no cs_ fun c_ cs_ => qS Cl.no c_ fun v_ => vI Cl.no .i64 v_ fun a3 => gE Cl.no cs_ <| gC Cl.no ps_ fun p_ ps_ => qC Cl.no p_ fun c_ => qS Cl.no c_ fun v_ => vI Cl.no .i64 v_ fun a4 => gE Cl.no ps_ <| { α := (List Int) × (List Int) × Int × Int, o := f165 k xs1 a2 a3 a4, w := f165.w, nat := fun x _ => f165.wn x }
def f165.e (k : Nat) : Entry env := ⟨fun ps => f165.hd k (coer [[.rd 5, .no, .no], [.no]] ps), [], []⟩
def f165.X (k : Nat) : Ctx env := { C := lookE [(145, f145.e k)], L := lookE [(3, fun S => f165.l3.hd k S.ts S.m S.n)], J := lookE [], keep := lookD [(3, [0, 5, 6])], keepX := lookD [(3, [0, 5])], span := lookN [(3, 192)], eff := fun n => memN n [], prep := lookP [], np := 0 }
theorem f165.l3.nat {R : Type} (k : Nat) (rec_ : Int → (List Int) → Int → Int → (List Int) → Option ((List Int) × Int × Int × (List Int))) (g : ((List Int) × Int × Int × (List Int)) → Option R) (a6 : Int) (xs7 : List Int) (a8 : Int) (a9 : Int) (xs10 : List Int) : (f165.l3.step k rec_ some a6 xs7 a8 a9 xs10).bind g = f165.l3.step k (fun a6 xs7 a8 a9 xs10 => (rec_ a6 xs7 a8 a9 xs10).bind g) g a6 xs7 a8 a9 xs10 := by
  simp only [f165.l3.step, bind_ite, bind_sum, Option.bind_assoc, Option.bind_some, Option.bind_none]
theorem f165.l3.good (k : Nat) (a6 : Int) (xs7 : List Int) (a8 : Int) (a9 : Int) (xs10 : List Int) : GoodL (f165.X k) (nthC 0 (loopsOf (bodyOf Try.f165))) (f165.l3.st a6 xs7 a8 a9 xs10) { α := ((List Int) × Int × Int × (List Int)), o := f165.l3 k k a6 xs7 a8 a9 xs10, w := f165.l3.w } :=
  loop_good (ι := Int × (List Int) × Int × Int × (List Int)) (α := ((List Int) × Int × Int × (List Int))) (fun i => f165.l3.st i.1 i.2.1 i.2.2.1 i.2.2.2.1 i.2.2.2.2) (fun j i => f165.l3 k j i.1 i.2.1 i.2.2.1 i.2.2.2.1 i.2.2.2.2) f165.l3.w (fun rec_ ret i => f165.l3.step k (fun a6 xs7 a8 a9 xs10 => rec_ (a6, xs7, a8, a9, xs10)) ret i.1 i.2.1 i.2.2.1 i.2.2.2.1 i.2.2.2.2)
    (fun _ => rfl) (fun _ _ => rfl) (fun rec_ g i => f165.l3.nat k _ g i.1 i.2.1 i.2.2.1 i.2.2.2.1 i.2.2.2.2) (fun {R} i0 i rec_ K => by kernel_rfl) k (a6, xs7, a8, a9, xs10)
theorem f165.l3.all (k : Nat) (S : St env) : GoodL (f165.X k) (nthC 0 (loopsOf (bodyOf Try.f165))) S (f165.l3.hd k S.ts S.m S.n) := by
  obtain ⟨ts_, m_, n_⟩ := S
  show GoodL _ _ _ (f165.l3.hd k ts_ m_ n_)
  unfold f165.l3.hd
  refine gTs_ok (p := GoodL _ _ _) goodL_no fun _ h => ?_
  subst h
  refine gV_ok (p := GoodL _ _ _) goodL_no fun _ _ h => ?_
  subst h
  refine rBp_ok (p := GoodL _ _ _) goodL_no fun h => ?_
  subst h
  refine gV_ok (p := GoodL _ _ _) goodL_no fun _ _ h => ?_
  subst h
  refine rRow_ok (p := GoodL _ _ _) goodL_no fun h => ?_
  subst h
  refine gV_ok (p := GoodL _ _ _) goodL_no fun _ _ h => ?_
  subst h
  refine rV_ok (p := GoodL _ _ _) goodL_no fun _ h => ?_
  subst h
  refine vI_ok (p := GoodL _ _ _) goodL_no fun _ h => ?_
  subst h
  refine gE_ok (p := GoodL _ _ _) goodL_no fun h => ?_
  subst h
  refine mBox_ok (p := GoodL _ _ _) goodL_no fun _ _ h => ?_
  subst h
  refine gC_ok (p := GoodL _ _ _) goodL_no fun _ _ h => ?_
  subst h
  refine rImm_ok (p := GoodL _ _ _) goodL_no fun _ h => ?_
  subst h
  refine gC_ok (p := GoodL _ _ _) goodL_no fun _ _ h => ?_
  subst h
  refine rV_ok (p := GoodL _ _ _) goodL_no fun _ h => ?_
  subst h
  refine vI_ok (p := GoodL _ _ _) goodL_no fun _ h => ?_
  subst h
  refine gC_ok (p := GoodL _ _ _) goodL_no fun _ _ h => ?_
  subst h
  refine rV_ok (p := GoodL _ _ _) goodL_no fun _ h => ?_
  subst h
  refine vI_ok (p := GoodL _ _ _) goodL_no fun _ h => ?_
  subst h
  refine gE_ok (p := GoodL _ _ _) goodL_no fun h => ?_
  subst h
  refine mRow_ok (p := GoodL _ _ _) goodL_no fun _ _ h => ?_
  subst h
  refine gE_ok (p := GoodL _ _ _) goodL_no fun h => ?_
  subst h
  refine gN_ok (p := GoodL _ _ _) goodL_no fun h => ?_
  subst h
  exact f165.l3.good k _ _ _ _ _
theorem f165.nat {R : Type} (k : Nat) (g : ((List Int) × (List Int) × Int × Int) → Option R) (xs1 : List Int) (a2 : Int) (a3 : Int) (a4 : Int) : f165.step k g xs1 a2 a3 a4 = (f165 k xs1 a2 a3 a4).bind g := by
  simp only [f165, f165.step, bind_ite, bind_sum, Option.bind_assoc, Option.bind_some, Option.bind_none]
theorem f165.ev (k : Nat) (xs1 : List Int) (a2 : Int) (a3 : Int) (a4 : Int) : evF (f165.X k) (bodyOf Try.f165) Try.f165.ntmps Try.f165.results.toList [.v (.ptr [.sl 5 xs1, .s (.int .i64 a2), .s (.int .i64 a3)]), .v (.c (.s (.int .i64 a4)))] = f165.step k (fun x => f165.w x some) xs1 a2 a3 a4 := by kernel_rfl
theorem f165.hok (k : Nat) : HOK (f165.X k) (bodyOf Try.f165) where
  l := allP_mem (by exact ⟨ls_of (h0 := fun S => f165.l3.hd k S.ts S.m S.n) (by kernel_rfl) (f165.l3.all k), trivial⟩)
  j := allP_mem (by exact trivial)
theorem f165.sound0 (k : Nat) : SoundC env Try.prog 165 (f165.hd k) := by
  intro ps_
  show GoodC _ _ _ ps_ (f165.hd k ps_)
  unfold f165.hd
  refine gC_ok (p := GoodC env Try.prog 165 _) goodC_no fun _ _ h => ?_
  subst h
  refine qP_ok (p := GoodC env Try.prog 165 _) goodC_no fun _ h => ?_
  subst h
  refine gC_ok (p := GoodC env Try.prog 165 _) goodC_no fun _ _ h => ?_
  subst h
  refine qSl_ok (p := GoodC env Try.prog 165 _) goodC_no fun _ h => ?_
  subst h
  refine gC_ok (p := GoodC env Try.prog 165 _) goodC_no fun _ _ h => ?_
  subst h
  refine qS_ok (p := GoodC env Try.prog 165 _) goodC_no fun _ h => ?_
  subst h
  refine vI_ok (p := GoodC env Try.prog 165 _) goodC_no fun _ h => ?_
  subst h
  refine gC_ok (p := GoodC env Try.prog 165 _) goodC_no fun _ _ h => ?_
  subst h
  refine qS_ok (p := GoodC env Try.prog 165 _) goodC_no fun _ h => ?_
  subst h
  refine vI_ok (p := GoodC env Try.prog 165 _) goodC_no fun _ h => ?_
  subst h
  refine gE_ok (p := GoodC env Try.prog 165 _) goodC_no fun h => ?_
  subst h
  refine gC_ok (p := GoodC env Try.prog 165 _) goodC_no fun _ _ h => ?_
  subst h
  refine qC_ok (p := GoodC env Try.prog 165 _) goodC_no fun _ h => ?_
  subst h
  refine qS_ok (p := GoodC env Try.prog 165 _) goodC_no fun _ h => ?_
  subst h
  refine vI_ok (p := GoodC env Try.prog 165 _) goodC_no fun _ h => ?_
  subst h
  refine gE_ok (p := GoodC env Try.prog 165 _) goodC_no fun h => ?_
  subst h
  exact fun_good (fun_sound envOK (cs_sound _ (by exact ⟨⟨f145.sound k, f145.fnok⟩, trivial⟩)) (f165.hok k) Try.func165 rfl) ((f165.ev k _ _ _ _).trans (f165.nat k _ _ _ _ _))
theorem f165.sound (k : Nat) : SoundC env Try.prog 165 (f165.e k).F := soundC_coer (f165.sound0 k) [[.rd 5, .no, .no], [.no]]
theorem f165.says (k : Nat) (xs1 : List Int) (a2 : Int) (a3 : Int) (a4 : Int) (t15 : (List Int) × (List Int) × Int × Int) (h_ : f165 k xs1 a2 a3 a4 = some t15) : SoundAt env Try.prog 165 [.v (.ptr [.sl 5 xs1, .s (.int .i64 a2), .s (.int .i64 a3)]), .v (.c (.s (.int .i64 a4)))] ⟨.v (.c (.own true 5 t15.1)), [[.sl 5 t15.2.1, .s (.int .i64 t15.2.2.1), .s (.int .i64 t15.2.2.2)], []]⟩ :=
  fun_sound envOK (cs_sound _ (by exact ⟨⟨f145.sound k, f145.fnok⟩, trivial⟩)) (f165.hok k) Try.func165 rfl _ _ (((f165.ev k xs1 a2 a3 a4).trans (f165.nat k _ xs1 a2 a3 a4)).trans (by rw [h_]; rfl))
theorem f165.fnok : FnOK Try.prog 165 := fn_ok Try.func165 (by kernel_rfl) rfl
def f166.step {R : Type} (k : Nat) (ret : (Bool × (List Int) × Int × Int) → Option R) (xs1 : List Int) (a2 : Int) (a3 : Int) (a4 : Int) : Option R :=
  (f145 k xs1 a2 a3 a4).bind fun t5 => ret ((decide (t5.1 = (IntKind.i64.wrap (a4 - (1 : Int))))), t5.2.1, t5.2.2.1, t5.2.2.2)
def f166 (k : Nat) (xs1 : List Int) (a2 : Int) (a3 : Int) (a4 : Int) : Option (Bool × (List Int) × Int × Int) := f166.step k some xs1 a2 a3 a4
def f166.w {R : Type} : (Bool × (List Int) × Int × Int) → (Res env → Option R) → Option R := fun t6 K => K ⟨.v (.c (.s (.bool t6.1))), [[.sl 5 t6.2.1, .s (.int .i64 t6.2.2.1), .s (.int .i64 t6.2.2.2)], []]⟩
theorem f166.wn (x : (Bool × (List Int) × Int × Int)) : ∃ res, ∀ {R : Type} (K : Res env → Option R), f166.w x K = K res := by
  exact ⟨_, fun _ => rfl⟩
def f166.hd (k : Nat) (ps_ : List (P2 env)) : Cl env :=
  gC Cl.no ps_ fun p_ ps_ => qP Cl.no p_ fun cs_ => gC Cl.no cs_ fun c_ cs_ => qSl Cl.no 5 c_ fun xs1 => gC Cl.no cs_ fun c_ cs_ => qS Cl.no c_ fun v_ => vI Cl.no .i64 v_ fun a2 => gC Cl.no cs_ fun c_ cs_ => qS Cl.no c_ fun v_ => vI Cl.no .i64 v_ fun a3 => gE Cl.no cs_ <| gC Cl.no ps_ fun p_ ps_ => qC Cl.no p_ fun c_ => qS Cl.no c_ fun v_ => vI Cl.no .i64 v_ fun a4 => gE Cl.no ps_ <| { α := Bool × (List Int) × Int × Int, o := f166 k xs1 a2 a3 a4, w := f166.w, nat := fun x _ => f166.wn x }
def f166.e (k : Nat) : Entry env := ⟨fun ps => f166.hd k (coer [[.rd 5, .no, .no], [.no]] ps), [], []⟩
def f166.X (k : Nat) : Ctx env := { C := lookE [(145, f145.e k)], L := lookE [], J := lookE [], keep := lookD [], keepX := lookD [], span := lookN [], eff := fun n => memN n [], prep := lookP [], np := 0 }
theorem f166.nat {R : Type} (k : Nat) (g : (Bool × (List Int) × Int × Int) → Option R) (xs1 : List Int) (a2 : Int) (a3 : Int) (a4 : Int) : f166.step k g xs1 a2 a3 a4 = (f166 k xs1 a2 a3 a4).bind g := by
  simp only [f166, f166.step, bind_ite, bind_sum, Option.bind_assoc, Option.bind_some, Option.bind_none]
theorem f166.ev (k : Nat) (xs1 : List Int) (a2 : Int) (a3 : Int) (a4 : Int) : evF (f166.X k) (bodyOf Try.f166) Try.f166.ntmps Try.f166.results.toList [.v (.ptr [.sl 5 xs1, .s (.int .i64 a2), .s (.int .i64 a3)]), .v (.c (.s (.int .i64 a4)))] = f166.step k (fun x => f166.w x some) xs1 a2 a3 a4 := by kernel_rfl
theorem f166.hok (k : Nat) : HOK (f166.X k) (bodyOf Try.f166) where
  l := allP_mem (by exact trivial)
  j := allP_mem (by exact trivial)
theorem f166.sound0 (k : Nat) : SoundC env Try.prog 166 (f166.hd k) := by
  intro ps_
  show GoodC _ _ _ ps_ (f166.hd k ps_)
  unfold f166.hd
  refine gC_ok (p := GoodC env Try.prog 166 _) goodC_no fun _ _ h => ?_
  subst h
  refine qP_ok (p := GoodC env Try.prog 166 _) goodC_no fun _ h => ?_
  subst h
  refine gC_ok (p := GoodC env Try.prog 166 _) goodC_no fun _ _ h => ?_
  subst h
  refine qSl_ok (p := GoodC env Try.prog 166 _) goodC_no fun _ h => ?_
  subst h
  refine gC_ok (p := GoodC env Try.prog 166 _) goodC_no fun _ _ h => ?_
  subst h
  refine qS_ok (p := GoodC env Try.prog 166 _) goodC_no fun _ h => ?_
  subst h
  refine vI_ok (p := GoodC env Try.prog 166 _) goodC_no fun _ h => ?_
  subst h
  refine gC_ok (p := GoodC env Try.prog 166 _) goodC_no fun _ _ h => ?_
  subst h
  refine qS_ok (p := GoodC env Try.prog 166 _) goodC_no fun _ h => ?_
  subst h
  refine vI_ok (p := GoodC env Try.prog 166 _) goodC_no fun _ h => ?_
  subst h
  refine gE_ok (p := GoodC env Try.prog 166 _) goodC_no fun h => ?_
  subst h
  refine gC_ok (p := GoodC env Try.prog 166 _) goodC_no fun _ _ h => ?_
  subst h
  refine qC_ok (p := GoodC env Try.prog 166 _) goodC_no fun _ h => ?_
  subst h
  refine qS_ok (p := GoodC env Try.prog 166 _) goodC_no fun _ h => ?_
  subst h
  refine vI_ok (p := GoodC env Try.prog 166 _) goodC_no fun _ h => ?_
  subst h
  refine gE_ok (p := GoodC env Try.prog 166 _) goodC_no fun h => ?_
  subst h
  exact fun_good (fun_sound envOK (cs_sound _ (by exact ⟨⟨f145.sound k, f145.fnok⟩, trivial⟩)) (f166.hok k) Try.func166 rfl) ((f166.ev k _ _ _ _).trans (f166.nat k _ _ _ _ _))
theorem f166.sound (k : Nat) : SoundC env Try.prog 166 (f166.e k).F := soundC_coer (f166.sound0 k) [[.rd 5, .no, .no], [.no]]
theorem f166.says (k : Nat) (xs1 : List Int) (a2 : Int) (a3 : Int) (a4 : Int) (t7 : Bool × (List Int) × Int × Int) (h_ : f166 k xs1 a2 a3 a4 = some t7) : SoundAt env Try.prog 166 [.v (.ptr [.sl 5 xs1, .s (.int .i64 a2), .s (.int .i64 a3)]), .v (.c (.s (.int .i64 a4)))] ⟨.v (.c (.s (.bool t7.1))), [[.sl 5 t7.2.1, .s (.int .i64 t7.2.2.1), .s (.int .i64 t7.2.2.2)], []]⟩ :=
  fun_sound envOK (cs_sound _ (by exact ⟨⟨f145.sound k, f145.fnok⟩, trivial⟩)) (f166.hok k) Try.func166 rfl _ _ (((f166.ev k xs1 a2 a3 a4).trans (f166.nat k _ xs1 a2 a3 a4)).trans (by rw [h_]; rfl))
theorem f166.fnok : FnOK Try.prog 166 := fn_ok Try.func166 (by kernel_rfl) rfl
def f167.step {R : Type} (k : Nat) (ret : (ByteArray × (List Int) × Int × Int) → Option R) (xs1 : List Int) (a2 : Int) (a3 : Int) : Option R :=
  (f145 k xs1 a2 a3 (3 : Int)).bind fun t4 => (f145 k t4.2.1 t4.2.2.1 t4.2.2.2 (2 : Int)).bind fun t5 => (f145 k t5.2.1 t5.2.2.1 t5.2.2.2 (4 : Int)).bind fun t6 => ret ((strOf ([(10 : Int), (IntKind.u8.wrap t4.1), (IntKind.u8.wrap (IntKind.i64.wrap (t5.1 * (128 : Int)))), (IntKind.u8.wrap t6.1)] : List Int)), t6.2.1, t6.2.2.1, t6.2.2.2)
def f167 (k : Nat) (xs1 : List Int) (a2 : Int) (a3 : Int) : Option (ByteArray × (List Int) × Int × Int) := f167.step k some xs1 a2 a3
def f167.w {R : Type} : (ByteArray × (List Int) × Int × Int) → (Res env → Option R) → Option R := fun t7 K => K ⟨.v (.c (.s (.string t7.1))), [[.sl 5 t7.2.1, .s (.int .i64 t7.2.2.1), .s (.int .i64 t7.2.2.2)]]⟩
theorem f167.wn (x : (ByteArray × (List Int) × Int × Int)) : ∃ res, ∀ {R : Type} (K : Res env → Option R), f167.w x K = K res := by
  exact ⟨_, fun _ => rfl⟩
def f167.hd (k : Nat) (ps_ : List (P2 env)) : Cl env :=
  gC Cl.no ps_ fun p_ ps_ => qP Cl.no p_ fun cs_ => gC Cl.no cs_ fun c_ cs_ => qSl Cl.no 5 c_ fun xs1 => gC Cl.no cs_ fun c_ cs_ => qS Cl.no c_ fun v_ => vI Cl.no .i64 v_ fun a2 => gC Cl.no cs_ fun c_ cs_ => qS Cl.no c_ fun v_ => vI Cl.no .i64 v_ fun a3 => gE Cl.no cs_ <| gE Cl.no ps_ <| { α := ByteArray × (List Int) × Int × Int, o := f167 k xs1 a2 a3, w := f167.w, nat := fun x _ => f167.wn x }
def f167.e (k : Nat) : Entry env := ⟨fun ps => f167.hd k (coer [[.rd 5, .no, .no]] ps), [], []⟩
def f167.X (k : Nat) : Ctx env := { C := lookE [(145, f145.e k)], L := lookE [], J := lookE [], keep := lookD [], keepX := lookD [], span := lookN [], eff := fun n => memN n [], prep := lookP [], np := 0 }
theorem f167.nat {R : Type} (k : Nat) (g : (ByteArray × (List Int) × Int × Int) → Option R) (xs1 : List Int) (a2 : Int) (a3 : Int) : f167.step k g xs1 a2 a3 = (f167 k xs1 a2 a3).bind g := by
  simp only [f167, f167.step, bind_ite, bind_sum, Option.bind_assoc, Option.bind_some, Option.bind_none]
theorem f167.ev (k : Nat) (xs1 : List Int) (a2 : Int) (a3 : Int) : evF (f167.X k) (bodyOf Try.f167) Try.f167.ntmps Try.f167.results.toList [.v (.ptr [.sl 5 xs1, .s (.int .i64 a2), .s (.int .i64 a3)])] = f167.step k (fun x => f167.w x some) xs1 a2 a3 := by kernel_rfl
theorem f167.hok (k : Nat) : HOK (f167.X k) (bodyOf Try.f167) where
  l := allP_mem (by exact trivial)
  j := allP_mem (by exact trivial)
theorem f167.sound0 (k : Nat) : SoundC env Try.prog 167 (f167.hd k) := by
  intro ps_
  show GoodC _ _ _ ps_ (f167.hd k ps_)
  unfold f167.hd
  refine gC_ok (p := GoodC env Try.prog 167 _) goodC_no fun _ _ h => ?_
  subst h
  refine qP_ok (p := GoodC env Try.prog 167 _) goodC_no fun _ h => ?_
  subst h
  refine gC_ok (p := GoodC env Try.prog 167 _) goodC_no fun _ _ h => ?_
  subst h
  refine qSl_ok (p := GoodC env Try.prog 167 _) goodC_no fun _ h => ?_
  subst h
  refine gC_ok (p := GoodC env Try.prog 167 _) goodC_no fun _ _ h => ?_
  subst h
  refine qS_ok (p := GoodC env Try.prog 167 _) goodC_no fun _ h => ?_
  subst h
  refine vI_ok (p := GoodC env Try.prog 167 _) goodC_no fun _ h => ?_
  subst h
  refine gC_ok (p := GoodC env Try.prog 167 _) goodC_no fun _ _ h => ?_
  subst h
  refine qS_ok (p := GoodC env Try.prog 167 _) goodC_no fun _ h => ?_
  subst h
  refine vI_ok (p := GoodC env Try.prog 167 _) goodC_no fun _ h => ?_
  subst h
  refine gE_ok (p := GoodC env Try.prog 167 _) goodC_no fun h => ?_
  subst h
  refine gE_ok (p := GoodC env Try.prog 167 _) goodC_no fun h => ?_
  subst h
  exact fun_good (fun_sound envOK (cs_sound _ (by exact ⟨⟨f145.sound k, f145.fnok⟩, trivial⟩)) (f167.hok k) Try.func167 rfl) ((f167.ev k _ _ _).trans (f167.nat k _ _ _ _))
theorem f167.sound (k : Nat) : SoundC env Try.prog 167 (f167.e k).F := soundC_coer (f167.sound0 k) [[.rd 5, .no, .no]]
theorem f167.says (k : Nat) (xs1 : List Int) (a2 : Int) (a3 : Int) (t8 : ByteArray × (List Int) × Int × Int) (h_ : f167 k xs1 a2 a3 = some t8) : SoundAt env Try.prog 167 [.v (.ptr [.sl 5 xs1, .s (.int .i64 a2), .s (.int .i64 a3)])] ⟨.v (.c (.s (.string t8.1))), [[.sl 5 t8.2.1, .s (.int .i64 t8.2.2.1), .s (.int .i64 t8.2.2.2)]]⟩ :=
  fun_sound envOK (cs_sound _ (by exact ⟨⟨f145.sound k, f145.fnok⟩, trivial⟩)) (f167.hok k) Try.func167 rfl _ _ (((f167.ev k xs1 a2 a3).trans (f167.nat k _ xs1 a2 a3)).trans (by rw [h_]; rfl))
theorem f167.fnok : FnOK Try.prog 167 := fn_ok Try.func167 (by kernel_rfl) rfl
def f123.step {R : Type} (k : Nat) (ret : (Int × ByteArray × ByteArray × Int × Int × Int × Int × Bool × Bool × (List Int) × (List Int) × Int × Int) → Option R) (xs1 : List Int) (a2 : Int) (a3 : Int) : Option R :=
  (f164 k xs1 a2 a3).bind fun t4 => (f164 k t4.2.1 t4.2.2.1 t4.2.2.2).bind fun t5 => (f145 k t5.2.1 t5.2.2.1 t5.2.2.2 (4 : Int)).bind fun t6 => if (0 : Int) ≤ t6.1 then
          if t6.1 < ((List.length ([(64 : Int), (1 : Int), (0 : Int), (255 : Int)] : List Int) : Nat) : Int) then
            (f145 k t6.2.1 t6.2.2.1 t6.2.2.2 (256 : Int)).bind fun t7 => (f165 k t7.2.1 t7.2.2.1 t7.2.2.2 (40 : Int)).bind fun t8 => (f166 k t8.2.1 t8.2.2.1 t8.2.2.2 (3 : Int)).bind fun t9 => if t9.1 = true then
                    (f145 k t9.2.1 t9.2.2.1 t9.2.2.2 (1400 : Int)).bind fun t10 => if (0 : Int) ≤ t10.1 then
                        if List.length t8.1 + List.length (List.replicate (Int.toNat t10.1) (0 : Int)) ≤ maxN then
                          (f166 k t10.2.1 t10.2.2.1 t10.2.2.2 (2 : Int)).bind fun t11 => if t11.1 = true then
                              (f167 k t11.2.1 t11.2.2.1 t11.2.2.2).bind fun t12 => (f167 k t12.2.1 t12.2.2.1 t12.2.2.2).bind fun t13 => (f145 k t13.2.1 t13.2.2.1 t13.2.2.2 (65536 : Int)).bind fun t14 => (f145 k t14.2.1 t14.2.2.1 t14.2.2.2 (4 : Int)).bind fun t15 => if (decide (t15.1 = (0 : Int))) = true then
                                        ret ((4 : Int), t12.1, t13.1, (List.getD ([(64 : Int), (1 : Int), (0 : Int), (255 : Int)] : List Int) (Int.toNat t6.1) (0 : Int)), t7.1, t14.1, (0 : Int), false, true, (t8.1 ++ (List.replicate (Int.toNat t10.1) (0 : Int))), t15.2.1, t15.2.2.1, t15.2.2.2)
                                      else
                                        if (decide (t15.1 = (1 : Int))) = true then
                                          (f145 k t15.2.1 t15.2.2.1 t15.2.2.2 (20 : Int)).bind fun t16 => if (decide ((Int.tmod (((List.length (t8.1 ++ (List.replicate (Int.toNat t10.1) (0 : Int)))) : Nat) : Int) (8 : Int)) = (0 : Int))) = true then
                                              ret ((4 : Int), t12.1, t13.1, (List.getD ([(64 : Int), (1 : Int), (0 : Int), (255 : Int)] : List Int) (Int.toNat t6.1) (0 : Int)), t7.1, t14.1, t16.1, (decide ((((List.length (t8.1 ++ (List.replicate (Int.toNat t10.1) (0 : Int)))) : Nat) : Int) > (0 : Int))), false, (t8.1 ++ (List.replicate (Int.toNat t10.1) (0 : Int))), t16.2.1, t16.2.2.1, t16.2.2.2)
                                            else
                                              ret ((4 : Int), t12.1, t13.1, (List.getD ([(64 : Int), (1 : Int), (0 : Int), (255 : Int)] : List Int) (Int.toNat t6.1) (0 : Int)), t7.1, t14.1, t16.1, false, false, (t8.1 ++ (List.replicate (Int.toNat t10.1) (0 : Int))), t16.2.1, t16.2.2.1, t16.2.2.2)
                                        else
                                          ret ((4 : Int), t12.1, t13.1, (List.getD ([(64 : Int), (1 : Int), (0 : Int), (255 : Int)] : List Int) (Int.toNat t6.1) (0 : Int)), t7.1, t14.1, (0 : Int), false, false, (t8.1 ++ (List.replicate (Int.toNat t10.1) (0 : Int))), t15.2.1, t15.2.2.1, t15.2.2.2)
                            else
                              ret ((6 : Int), t4.1, t5.1, (List.getD ([(64 : Int), (1 : Int), (0 : Int), (255 : Int)] : List Int) (Int.toNat t6.1) (0 : Int)), t7.1, (0 : Int), (0 : Int), false, false, (t8.1 ++ (List.replicate (Int.toNat t10.1) (0 : Int))), t11.2.1, t11.2.2.1, t11.2.2.2)
                        else none
                      else none
                  else
                    (f166 k t9.2.1 t9.2.2.1 t9.2.2.2 (2 : Int)).bind fun t17 => if t17.1 = true then
                        (f167 k t17.2.1 t17.2.2.1 t17.2.2.2).bind fun t18 => (f167 k t18.2.1 t18.2.2.1 t18.2.2.2).bind fun t19 => (f145 k t19.2.1 t19.2.2.1 t19.2.2.2 (65536 : Int)).bind fun t20 => (f145 k t20.2.1 t20.2.2.1 t20.2.2.2 (4 : Int)).bind fun t21 => if (decide (t21.1 = (0 : Int))) = true then
                                  ret ((4 : Int), t18.1, t19.1, (List.getD ([(64 : Int), (1 : Int), (0 : Int), (255 : Int)] : List Int) (Int.toNat t6.1) (0 : Int)), t7.1, t20.1, (0 : Int), false, true, t8.1, t21.2.1, t21.2.2.1, t21.2.2.2)
                                else
                                  if (decide (t21.1 = (1 : Int))) = true then
                                    (f145 k t21.2.1 t21.2.2.1 t21.2.2.2 (20 : Int)).bind fun t22 => if (decide ((Int.tmod (((List.length t8.1) : Nat) : Int) (8 : Int)) = (0 : Int))) = true then
                                        ret ((4 : Int), t18.1, t19.1, (List.getD ([(64 : Int), (1 : Int), (0 : Int), (255 : Int)] : List Int) (Int.toNat t6.1) (0 : Int)), t7.1, t20.1, t22.1, (decide ((((List.length t8.1) : Nat) : Int) > (0 : Int))), false, t8.1, t22.2.1, t22.2.2.1, t22.2.2.2)
                                      else
                                        ret ((4 : Int), t18.1, t19.1, (List.getD ([(64 : Int), (1 : Int), (0 : Int), (255 : Int)] : List Int) (Int.toNat t6.1) (0 : Int)), t7.1, t20.1, t22.1, false, false, t8.1, t22.2.1, t22.2.2.1, t22.2.2.2)
                                  else
                                    ret ((4 : Int), t18.1, t19.1, (List.getD ([(64 : Int), (1 : Int), (0 : Int), (255 : Int)] : List Int) (Int.toNat t6.1) (0 : Int)), t7.1, t20.1, (0 : Int), false, false, t8.1, t21.2.1, t21.2.2.1, t21.2.2.2)
                      else
                        ret ((6 : Int), t4.1, t5.1, (List.getD ([(64 : Int), (1 : Int), (0 : Int), (255 : Int)] : List Int) (Int.toNat t6.1) (0 : Int)), t7.1, (0 : Int), (0 : Int), false, false, t8.1, t17.2.1, t17.2.2.1, t17.2.2.2)
          else none
        else none
def f123 (k : Nat) (xs1 : List Int) (a2 : Int) (a3 : Int) : Option (Int × ByteArray × ByteArray × Int × Int × Int × Int × Bool × Bool × (List Int) × (List Int) × Int × Int) := f123.step k some xs1 a2 a3
def f123.w {R : Type} : (Int × ByteArray × ByteArray × Int × Int × Int × Int × Bool × Bool × (List Int) × (List Int) × Int × Int) → (Res env → Option R) → Option R := fun t23 K => K ⟨.v (.g [.s (.int .i64 t23.1), .s (.string t23.2.1), .s (.string t23.2.2.1), .s (.int .i64 t23.2.2.2.1), .s (.int .i64 t23.2.2.2.2.1), .s (.int .i64 t23.2.2.2.2.2.1), .s (.int .i64 t23.2.2.2.2.2.2.1), .s (.bool t23.2.2.2.2.2.2.2.1), .s (.bool t23.2.2.2.2.2.2.2.2.1), .own true 5 t23.2.2.2.2.2.2.2.2.2.1]), [[.sl 5 t23.2.2.2.2.2.2.2.2.2.2.1, .s (.int .i64 t23.2.2.2.2.2.2.2.2.2.2.2.1), .s (.int .i64 t23.2.2.2.2.2.2.2.2.2.2.2.2)]]⟩
theorem f123.wn (x : (Int × ByteArray × ByteArray × Int × Int × Int × Int × Bool × Bool × (List Int) × (List Int) × Int × Int)) : ∃ res, ∀ {R : Type} (K : Res env → Option R), f123.w x K = K res := by
  exact ⟨_, fun _ => rfl⟩
def f123.hd (k : Nat) (ps_ : List (P2 env)) : Cl env :=
  gC Cl.no ps_ fun p_ ps_ => qP Cl.no p_ fun cs_ => gC Cl.no cs_ fun c_ cs_ => qSl Cl.no 5 c_ fun xs1 => gC Cl.no cs_ fun c_ cs_ => qS Cl.no c_ fun v_ => vI Cl.no .i64 v_ fun a2 => gC Cl.no cs_ fun c_ cs_ => qS Cl.no c_ fun v_ => vI Cl.no .i64 v_ fun a3 => gE Cl.no cs_ <| gE Cl.no ps_ <| { α := Int × ByteArray × ByteArray × Int × Int × Int × Int × Bool × Bool × (List Int) × (List Int) × Int × Int, o := f123 k xs1 a2 a3, w := f123.w, nat := fun x _ => f123.wn x }
def f123.e (k : Nat) : Entry env := ⟨fun ps => f123.hd k (coer [[.rd 5, .no, .no]] ps), [], []⟩
def f123.X (k : Nat) : Ctx env := { C := lookE [(145, f145.e k), (164, f164.e k), (165, f165.e k), (166, f166.e k), (167, f167.e k)], L := lookE [], J := lookE [], keep := lookD [], keepX := lookD [], span := lookN [], eff := fun n => memN n [1, 3], prep := lookP [], np := 0 }
theorem f123.nat {R : Type} (k : Nat) (g : (Int × ByteArray × ByteArray × Int × Int × Int × Int × Bool × Bool × (List Int) × (List Int) × Int × Int) → Option R) (xs1 : List Int) (a2 : Int) (a3 : Int) : f123.step k g xs1 a2 a3 = (f123 k xs1 a2 a3).bind g := by
  simp only [f123, f123.step, bind_ite, bind_sum, Option.bind_assoc, Option.bind_some, Option.bind_none]
theorem f123.ev (k : Nat) (xs1 : List Int) (a2 : Int) (a3 : Int) : evF (f123.X k) (bodyOf Try.f123) Try.f123.ntmps Try.f123.results.toList [.v (.ptr [.sl 5 xs1, .s (.int .i64 a2), .s (.int .i64 a3)])] = f123.step k (fun x => f123.w x some) xs1 a2 a3 := by kernel_rfl
theorem f123.hok (k : Nat) : HOK (f123.X k) (bodyOf Try.f123) where
  l := allP_mem (by exact trivial)
  j := allP_mem (by exact trivial)
theorem f123.sound0 (k : Nat) : SoundC env Try.prog 123 (f123.hd k) := by
  intro ps_
  show GoodC _ _ _ ps_ (f123.hd k ps_)
  unfold f123.hd
  refine gC_ok (p := GoodC env Try.prog 123 _) goodC_no fun _ _ h => ?_
  subst h
  refine qP_ok (p := GoodC env Try.prog 123 _) goodC_no fun _ h => ?_
  subst h
  refine gC_ok (p := GoodC env Try.prog 123 _) goodC_no fun _ _ h => ?_
  subst h
  refine qSl_ok (p := GoodC env Try.prog 123 _) goodC_no fun _ h => ?_
  subst h
  refine gC_ok (p := GoodC env Try.prog 123 _) goodC_no fun _ _ h => ?_
  subst h
  refine qS_ok (p := GoodC env Try.prog 123 _) goodC_no fun _ h => ?_
  subst h
  refine vI_ok (p := GoodC env Try.prog 123 _) goodC_no fun _ h => ?_
  subst h
  refine gC_ok (p := GoodC env Try.prog 123 _) goodC_no fun _ _ h => ?_
  subst h
  refine qS_ok (p := GoodC env Try.prog 123 _) goodC_no fun _ h => ?_
  subst h
  refine vI_ok (p := GoodC env Try.prog 123 _) goodC_no fun _ h => ?_
  subst h
  refine gE_ok (p := GoodC env Try.prog 123 _) goodC_no fun h => ?_
  subst h
  refine gE_ok (p := GoodC env Try.prog 123 _) goodC_no fun h => ?_
  subst h
  exact fun_good (fun_sound envOK (cs_sound _ (by exact ⟨⟨f145.sound k, f145.fnok⟩, ⟨f164.sound k, f164.fnok⟩, ⟨f165.sound k, f165.fnok⟩, ⟨f166.sound k, f166.fnok⟩, ⟨f167.sound k, f167.fnok⟩, trivial⟩)) (f123.hok k) Try.func123 rfl) ((f123.ev k _ _ _).trans (f123.nat k _ _ _ _))
theorem f123.sound (k : Nat) : SoundC env Try.prog 123 (f123.e k).F := soundC_coer (f123.sound0 k) [[.rd 5, .no, .no]]
theorem f123.says (k : Nat) (xs1 : List Int) (a2 : Int) (a3 : Int) (t24 : Int × ByteArray × ByteArray × Int × Int × Int × Int × Bool × Bool × (List Int) × (List Int) × Int × Int) (h_ : f123 k xs1 a2 a3 = some t24) : SoundAt env Try.prog 123 [.v (.ptr [.sl 5 xs1, .s (.int .i64 a2), .s (.int .i64 a3)])] ⟨.v (.g [.s (.int .i64 t24.1), .s (.string t24.2.1), .s (.string t24.2.2.1), .s (.int .i64 t24.2.2.2.1), .s (.int .i64 t24.2.2.2.2.1), .s (.int .i64 t24.2.2.2.2.2.1), .s (.int .i64 t24.2.2.2.2.2.2.1), .s (.bool t24.2.2.2.2.2.2.2.1), .s (.bool t24.2.2.2.2.2.2.2.2.1), .own true 5 t24.2.2.2.2.2.2.2.2.2.1]), [[.sl 5 t24.2.2.2.2.2.2.2.2.2.2.1, .s (.int .i64 t24.2.2.2.2.2.2.2.2.2.2.2.1), .s (.int .i64 t24.2.2.2.2.2.2.2.2.2.2.2.2)]]⟩ :=
  fun_sound envOK (cs_sound _ (by exact ⟨⟨f145.sound k, f145.fnok⟩, ⟨f164.sound k, f164.fnok⟩, ⟨f165.sound k, f165.fnok⟩, ⟨f166.sound k, f166.fnok⟩, ⟨f167.sound k, f167.fnok⟩, trivial⟩)) (f123.hok k) Try.func123 rfl _ _ (((f123.ev k xs1 a2 a3).trans (f123.nat k _ xs1 a2 a3)).trans (by rw [h_]; rfl))
theorem f123.fnok : FnOK Try.prog 123 := fn_ok Try.func123 (by kernel_rfl) rfl
def f55.step {R : Type} (k : Nat) (ret : (Int × ByteArray × ByteArray × Int × Int × Int × Int × Bool × Bool × (List Int)) → Option R) (xs1 : List Int) : Option R :=
  (f81 k xs1).bind fun t2 => (f123 k t2.1 t2.2.1 t2.2.2).bind fun t3 => ret (t3.1, t3.2.1, t3.2.2.1, t3.2.2.2.1, t3.2.2.2.2.1, t3.2.2.2.2.2.1, t3.2.2.2.2.2.2.1, t3.2.2.2.2.2.2.2.1, t3.2.2.2.2.2.2.2.2.1, t3.2.2.2.2.2.2.2.2.2.1)
def f55 (k : Nat) (xs1 : List Int) : Option (Int × ByteArray × ByteArray × Int × Int × Int × Int × Bool × Bool × (List Int)) := f55.step k some xs1
def f55.w {R : Type} : (Int × ByteArray × ByteArray × Int × Int × Int × Int × Bool × Bool × (List Int)) → (Res env → Option R) → Option R := fun t4 K => K ⟨.v (.g [.s (.int .i64 t4.1), .s (.string t4.2.1), .s (.string t4.2.2.1), .s (.int .i64 t4.2.2.2.1), .s (.int .i64 t4.2.2.2.2.1), .s (.int .i64 t4.2.2.2.2.2.1), .s (.int .i64 t4.2.2.2.2.2.2.1), .s (.bool t4.2.2.2.2.2.2.2.1), .s (.bool t4.2.2.2.2.2.2.2.2.1), .own true 5 t4.2.2.2.2.2.2.2.2.2]), [[]]⟩
theorem f55.wn (x : (Int × ByteArray × ByteArray × Int × Int × Int × Int × Bool × Bool × (List Int))) : ∃ res, ∀ {R : Type} (K : Res env → Option R), f55.w x K = K res := by
  exact ⟨_, fun _ => rfl⟩
def f55.hd (k : Nat) (ps_ : List (P2 env)) : Cl env :=
  gC Cl.no ps_ fun p_ ps_ => qC Cl.no p_ fun c_ => qSl Cl.no 5 c_ fun xs1 => gE Cl.no ps_ <| { α := Int × ByteArray × ByteArray × Int × Int × Int × Int × Bool × Bool × (List Int), o := f55 k xs1, w := f55.w, nat := fun x _ => f55.wn x }
def f55.e (k : Nat) : Entry env := ⟨fun ps => f55.hd k (coer [[.rd 5]] ps), [], []⟩
def f55.X (k : Nat) : Ctx env := { C := lookE [(81, f81.e k), (123, f123.e k)], L := lookE [], J := lookE [], keep := lookD [], keepX := lookD [], span := lookN [], eff := fun n => memN n [], prep := lookP [], np := 0 }
theorem f55.nat {R : Type} (k : Nat) (g : (Int × ByteArray × ByteArray × Int × Int × Int × Int × Bool × Bool × (List Int)) → Option R) (xs1 : List Int) : f55.step k g xs1 = (f55 k xs1).bind g := by
  simp only [f55, f55.step, bind_ite, bind_sum, Option.bind_assoc, Option.bind_some, Option.bind_none]
theorem f55.ev (k : Nat) (xs1 : List Int) : evF (f55.X k) (bodyOf Try.f55) Try.f55.ntmps Try.f55.results.toList [.v (.c (.sl 5 xs1))] = f55.step k (fun x => f55.w x some) xs1 := by kernel_rfl
theorem f55.hok (k : Nat) : HOK (f55.X k) (bodyOf Try.f55) where
  l := allP_mem (by exact trivial)
  j := allP_mem (by exact trivial)
theorem f55.sound0 (k : Nat) : SoundC env Try.prog 55 (f55.hd k) := by
  intro ps_
  show GoodC _ _ _ ps_ (f55.hd k ps_)
  unfold f55.hd
  refine gC_ok (p := GoodC env Try.prog 55 _) goodC_no fun _ _ h => ?_
  subst h
  refine qC_ok (p := GoodC env Try.prog 55 _) goodC_no fun _ h => ?_
  subst h
  refine qSl_ok (p := GoodC env Try.prog 55 _) goodC_no fun _ h => ?_
  subst h
  refine gE_ok (p := GoodC env Try.prog 55 _) goodC_no fun h => ?_
  subst h
  exact fun_good (fun_sound envOK (cs_sound _ (by exact ⟨⟨f81.sound k, f81.fnok⟩, ⟨f123.sound k, f123.fnok⟩, trivial⟩)) (f55.hok k) Try.func55 rfl) ((f55.ev k _).trans (f55.nat k _ _))
theorem f55.sound (k : Nat) : SoundC env Try.prog 55 (f55.e k).F := soundC_coer (f55.sound0 k) [[.rd 5]]
theorem f55.says (k : Nat) (xs1 : List Int) (t5 : Int × ByteArray × ByteArray × Int × Int × Int × Int × Bool × Bool × (List Int)) (h_ : f55 k xs1 = some t5) : SoundAt env Try.prog 55 [.v (.c (.sl 5 xs1))] ⟨.v (.g [.s (.int .i64 t5.1), .s (.string t5.2.1), .s (.string t5.2.2.1), .s (.int .i64 t5.2.2.2.1), .s (.int .i64 t5.2.2.2.2.1), .s (.int .i64 t5.2.2.2.2.2.1), .s (.int .i64 t5.2.2.2.2.2.2.1), .s (.bool t5.2.2.2.2.2.2.2.1), .s (.bool t5.2.2.2.2.2.2.2.2.1), .own true 5 t5.2.2.2.2.2.2.2.2.2]), [[]]⟩ :=
  fun_sound envOK (cs_sound _ (by exact ⟨⟨f81.sound k, f81.fnok⟩, ⟨f123.sound k, f123.fnok⟩, trivial⟩)) (f55.hok k) Try.func55 rfl _ _ (((f55.ev k xs1).trans (f55.nat k _ xs1)).trans (by rw [h_]; rfl))
theorem f55.fnok : FnOK Try.prog 55 := fn_ok Try.func55 (by kernel_rfl) rfl
def f83.step {R : Type} (k : Nat) (ret : Bool → Option R) (a1 : Int) (a2 : Int) (a3 : Int) : Option R :=
  if (decide (a1 ≥ a2)) = true then
    ret (decide (a1 ≤ a3))
  else
    ret false
def f83 (k : Nat) (a1 : Int) (a2 : Int) (a3 : Int) : Option Bool := f83.step k some a1 a2 a3
def f83.w {R : Type} : Bool → (Res env → Option R) → Option R := fun t4 K => K ⟨.v (.c (.s (.bool t4))), [[], [], []]⟩
theorem f83.wn (x : Bool) : ∃ res, ∀ {R : Type} (K : Res env → Option R), f83.w x K = K res := by
  exact ⟨_, fun _ => rfl⟩
def f83.hd (k : Nat) (ps_ : List (P2 env)) : Cl env :=
  gC Cl.no ps_ fun p_ ps_ => qC Cl.no p_ fun c_ => qS Cl.no c_ fun v_ => vI Cl.no .i64 v_ fun a1 => gC Cl.no ps_ fun p_ ps_ => qC Cl.no p_ fun c_ => qS Cl.no c_ fun v_ => vI Cl.no .i64 v_ fun a2 => gC Cl.no ps_ fun p_ ps_ => qC Cl.no p_ fun c_ => qS Cl.no c_ fun v_ => vI Cl.no .i64 v_ fun a3 => gE Cl.no ps_ <| { α := Bool, o := f83 k a1 a2 a3, w := f83.w, nat := fun x _ => f83.wn x }
def f83.e (k : Nat) : Entry env := ⟨f83.hd k, [], []⟩
def f83.X (k : Nat) : Ctx env := { C := lookE [], L := lookE [], J := lookE [], keep := lookD [], keepX := lookD [], span := lookN [], eff := fun n => memN n [], prep := lookP [], np := 0 }
theorem f83.nat {R : Type} (k : Nat) (g : Bool → Option R) (a1 : Int) (a2 : Int) (a3 : Int) : f83.step k g a1 a2 a3 = (f83 k a1 a2 a3).bind g := by
  simp only [f83, f83.step, bind_ite, bind_sum, Option.bind_assoc, Option.bind_some, Option.bind_none]
theorem f83.ev (k : Nat) (a1 : Int) (a2 : Int) (a3 : Int) : evF (f83.X k) (bodyOf Try.f83) Try.f83.ntmps Try.f83.results.toList [.v (.c (.s (.int .i64 a1))), .v (.c (.s (.int .i64 a2))), .v (.c (.s (.int .i64 a3)))] = f83.step k (fun x => f83.w x some) a1 a2 a3 := by kernel_rfl
theorem f83.hok (k : Nat) : HOK (f83.X k) (bodyOf Try.f83) where
  l := allP_mem (by exact trivial)
  j := allP_mem (by exact trivial)
theorem f83.sound (k : Nat) : SoundC env Try.prog 83 ((f83.e k).F) := by
  intro ps_
  show GoodC _ _ _ ps_ (f83.hd k ps_)
  unfold f83.hd
  refine gC_ok (p := GoodC env Try.prog 83 _) goodC_no fun _ _ h => ?_
  subst h
  refine qC_ok (p := GoodC env Try.prog 83 _) goodC_no fun _ h => ?_
  subst h
  refine qS_ok (p := GoodC env Try.prog 83 _) goodC_no fun _ h => ?_
  subst h
  refine vI_ok (p := GoodC env Try.prog 83 _) goodC_no fun _ h => ?_
  subst h
  refine gC_ok (p := GoodC env Try.prog 83 _) goodC_no fun _ _ h => ?_
  subst h
  refine qC_ok (p := GoodC env Try.prog 83 _) goodC_no fun _ h => ?_
  subst h
  refine qS_ok (p := GoodC env Try.prog 83 _) goodC_no fun _ h => ?_
  subst h
  refine vI_ok (p := GoodC env Try.prog 83 _) goodC_no fun _ h => ?_
  subst h
  refine gC_ok (p := GoodC env Try.prog 83 _) goodC_no fun _ _ h => ?_
  subst h
  refine qC_ok (p := GoodC env Try.prog 83 _) goodC_no fun _ h => ?_
  subst h
  refine qS_ok (p := GoodC env Try.prog 83 _) goodC_no fun _ h => ?_
  subst h
  refine vI_ok (p := GoodC env Try.prog 83 _) goodC_no fun _ h => ?_
  subst h
  refine gE_ok (p := GoodC env Try.prog 83 _) goodC_no fun h => ?_
  subst h
  exact fun_good (fun_sound envOK (cs_sound _ (by exact trivial)) (f83.hok k) Try.func83 rfl) ((f83.ev k _ _ _).trans (f83.nat k _ _ _ _))
theorem f83.says (k : Nat) (a1 : Int) (a2 : Int) (a3 : Int) (t5 : Bool) (h_ : f83 k a1 a2 a3 = some t5) : SoundAt env Try.prog 83 [.v (.c (.s (.int .i64 a1))), .v (.c (.s (.int .i64 a2))), .v (.c (.s (.int .i64 a3)))] ⟨.v (.c (.s (.bool t5))), [[], [], []]⟩ :=
  fun_sound envOK (cs_sound _ (by exact trivial)) (f83.hok k) Try.func83 rfl _ _ (((f83.ev k a1 a2 a3).trans (f83.nat k _ a1 a2 a3)).trans (by rw [h_]; rfl))
theorem f83.fnok : FnOK Try.prog 83 := fn_ok Try.func83 (by kernel_rfl) rfl
def f20.step {R : Type} (k : Nat) (ret : Bool → Option R) (a1 : Int) (s2 : ByteArray) (s3 : ByteArray) (a4 : Int) (a5 : Int) (a6 : Int) (a7 : Int) (b8 : Bool) (b9 : Bool) (xs10 : List Int) : Option R :=
  (f83 k a4 (0 : Int) (255 : Int)).bind fun t11 => if (!t11) = false then
      (f83 k a5 (0 : Int) (255 : Int)).bind fun t12 => if (!t12) = false then
          if (decide ((((List.length xs10) : Nat) : Int) > (1500 : Int))) = true then
            ret false
          else
            if (decide (a1 = (4 : Int))) = true then
              if (decide ((((ByteArray.size s2) : Nat) : Int) ≠ (4 : Int))) = false then
                if (decide ((((ByteArray.size s3) : Nat) : Int) ≠ (4 : Int))) = false then
                  (f83 k a6 (0 : Int) (65535 : Int)).bind fun t13 => if (!t13) = false then
                      (f83 k a7 (0 : Int) (8191 : Int)).bind fun t14 => if (!t14) = true then
                          ret false
                        else
                          if b9 = true then
                            if b8 = false then
                              if (decide (a7 > (0 : Int))) = true then
                                ret false
                              else
                                if b8 = true then
                                  if (decide ((((List.length xs10) : Nat) : Int) = (0 : Int))) = false then
                                    if (decide ((Int.tmod (((List.length xs10) : Nat) : Int) (8 : Int)) ≠ (0 : Int))) = true then
                                      ret false
                                    else
                                      ret (decide ((IntKind.i64.wrap ((IntKind.i64.wrap ((8 : Int) * a7)) + (((List.length xs10) : Nat) : Int))) ≤ (65515 : Int)))
                                  else
                                    ret false
                                else
                                  ret (decide ((IntKind.i64.wrap ((IntKind.i64.wrap ((8 : Int) * a7)) + (((List.length xs10) : Nat) : Int))) ≤ (65515 : Int)))
                            else
                              ret false
                          else
                            if b8 = true then
                              if (decide ((((List.length xs10) : Nat) : Int) = (0 : Int))) = false then
                                if (decide ((Int.tmod (((List.length xs10) : Nat) : Int) (8 : Int)) ≠ (0 : Int))) = true then
                                  ret false
                                else
                                  ret (decide ((IntKind.i64.wrap ((IntKind.i64.wrap ((8 : Int) * a7)) + (((List.length xs10) : Nat) : Int))) ≤ (65515 : Int)))
                              else
                                ret false
                            else
                              ret (decide ((IntKind.i64.wrap ((IntKind.i64.wrap ((8 : Int) * a7)) + (((List.length xs10) : Nat) : Int))) ≤ (65515 : Int)))
                    else
                      ret false
                else
                  ret false
              else
                ret false
            else
              if (decide (a1 = (6 : Int))) = true then
                if (decide ((((ByteArray.size s2) : Nat) : Int) = (16 : Int))) = true then
                  if (decide ((((ByteArray.size s3) : Nat) : Int) = (16 : Int))) = true then
                    if (decide (a6 = (0 : Int))) = true then
                      if (decide (a7 = (0 : Int))) = true then
                        if (!b8) = true then
                          ret (!b9)
                        else
                          ret false
                      else
                        ret false
                    else
                      ret false
                  else
                    ret false
                else
                  ret false
              else
                ret false
        else
          ret false
    else
      ret false
def f20 (k : Nat) (a1 : Int) (s2 : ByteArray) (s3 : ByteArray) (a4 : Int) (a5 : Int) (a6 : Int) (a7 : Int) (b8 : Bool) (b9 : Bool) (xs10 : List Int) : Option Bool := f20.step k some a1 s2 s3 a4 a5 a6 a7 b8 b9 xs10
def f20.w {R : Type} : Bool → (Res env → Option R) → Option R := fun t15 K => K ⟨.v (.c (.s (.bool t15))), [[]]⟩
theorem f20.wn (x : Bool) : ∃ res, ∀ {R : Type} (K : Res env → Option R), f20.w x K = K res := by
  exact ⟨_, fun _ => rfl⟩
def f20.hd (k : Nat) (ps_ : List (P2 env)) : Cl env :=
  gC Cl.no ps_ fun p_ ps_ => qG Cl.no p_ fun cs_ => gC Cl.no cs_ fun c_ cs_ => qS Cl.no c_ fun v_ => vI Cl.no .i64 v_ fun a1 => gC Cl.no cs_ fun c_ cs_ => qS Cl.no c_ fun v_ => vS Cl.no v_ fun s2 => gC Cl.no cs_ fun c_ cs_ => qS Cl.no c_ fun v_ => vS Cl.no v_ fun s3 => gC Cl.no cs_ fun c_ cs_ => qS Cl.no c_ fun v_ => vI Cl.no .i64 v_ fun a4 => gC Cl.no cs_ fun c_ cs_ => qS Cl.no c_ fun v_ => vI Cl.no .i64 v_ fun a5 => gC Cl.no cs_ fun c_ cs_ => qS Cl.no c_ fun v_ => vI Cl.no .i64 v_ fun a6 => gC Cl.no cs_ fun c_ cs_ => qS Cl.no c_ fun v_ => vI Cl.no .i64 v_ fun a7 => gC Cl.no cs_ fun c_ cs_ => qS Cl.no c_ fun v_ => vB Cl.no v_ fun b8 => gC Cl.no cs_ fun c_ cs_ => qS Cl.no c_ fun v_ => vB Cl.no v_ fun b9 => gC Cl.no cs_ fun c_ cs_ => qSl Cl.no 5 c_ fun xs10 => gE Cl.no cs_ <| gE Cl.no ps_ <| { α := Bool, o := f20 k a1 s2 s3 a4 a5 a6 a7 b8 b9 xs10, w := f20.w, nat := fun x _ => f20.wn x }
def f20.e (k : Nat) : Entry env := ⟨fun ps => f20.hd k (coer [[.no, .no, .no, .no, .no, .no, .no, .no, .no, .rd 5]] ps), [], []⟩
def f20.X (k : Nat) : Ctx env := { C := lookE [(83, f83.e k)], L := lookE [], J := lookE [], keep := lookD [], keepX := lookD [], span := lookN [], eff := fun n => memN n [], prep := lookP [], np := 0 }
theorem f20.nat {R : Type} (k : Nat) (g : Bool → Option R) (a1 : Int) (s2 : ByteArray) (s3 : ByteArray) (a4 : Int) (a5 : Int) (a6 : Int) (a7 : Int) (b8 : Bool) (b9 : Bool) (xs10 : List Int) : f20.step k g a1 s2 s3 a4 a5 a6 a7 b8 b9 xs10 = (f20 k a1 s2 s3 a4 a5 a6 a7 b8 b9 xs10).bind g := by
  simp only [f20, f20.step, bind_ite, bind_sum, Option.bind_assoc, Option.bind_some, Option.bind_none]
theorem f20.ev (k : Nat) (a1 : Int) (s2 : ByteArray) (s3 : ByteArray) (a4 : Int) (a5 : Int) (a6 : Int) (a7 : Int) (b8 : Bool) (b9 : Bool) (xs10 : List Int) : evF (f20.X k) (bodyOf Try.f20) Try.f20.ntmps Try.f20.results.toList [.g [.s (.int .i64 a1), .s (.string s2), .s (.string s3), .s (.int .i64 a4), .s (.int .i64 a5), .s (.int .i64 a6), .s (.int .i64 a7), .s (.bool b8), .s (.bool b9), .sl 5 xs10]] = f20.step k (fun x => f20.w x some) a1 s2 s3 a4 a5 a6 a7 b8 b9 xs10 := by kernel_rfl
theorem f20.hok (k : Nat) : HOK (f20.X k) (bodyOf Try.f20) where
  l := allP_mem (by exact trivial)
  j := allP_mem (by exact trivial)
theorem f20.sound0 (k : Nat) : SoundC env Try.prog 20 (f20.hd k) := by
  intro ps_
  show GoodC _ _ _ ps_ (f20.hd k ps_)
  unfold f20.hd
  refine gC_ok (p := GoodC env Try.prog 20 _) goodC_no fun _ _ h => ?_
  subst h
  refine qG_ok (p := GoodC env Try.prog 20 _) goodC_no fun _ h => ?_
  subst h
  refine gC_ok (p := GoodC env Try.prog 20 _) goodC_no fun _ _ h => ?_
  subst h
  refine qS_ok (p := GoodC env Try.prog 20 _) goodC_no fun _ h => ?_
  subst h
  refine vI_ok (p := GoodC env Try.prog 20 _) goodC_no fun _ h => ?_
  subst h
  refine gC_ok (p := GoodC env Try.prog 20 _) goodC_no fun _ _ h => ?_
  subst h
  refine qS_ok (p := GoodC env Try.prog 20 _) goodC_no fun _ h => ?_
  subst h
  refine vS_ok (p := GoodC env Try.prog 20 _) goodC_no fun _ h => ?_
  subst h
  refine gC_ok (p := GoodC env Try.prog 20 _) goodC_no fun _ _ h => ?_
  subst h
  refine qS_ok (p := GoodC env Try.prog 20 _) goodC_no fun _ h => ?_
  subst h
  refine vS_ok (p := GoodC env Try.prog 20 _) goodC_no fun _ h => ?_
  subst h
  refine gC_ok (p := GoodC env Try.prog 20 _) goodC_no fun _ _ h => ?_
  subst h
  refine qS_ok (p := GoodC env Try.prog 20 _) goodC_no fun _ h => ?_
  subst h
  refine vI_ok (p := GoodC env Try.prog 20 _) goodC_no fun _ h => ?_
  subst h
  refine gC_ok (p := GoodC env Try.prog 20 _) goodC_no fun _ _ h => ?_
  subst h
  refine qS_ok (p := GoodC env Try.prog 20 _) goodC_no fun _ h => ?_
  subst h
  refine vI_ok (p := GoodC env Try.prog 20 _) goodC_no fun _ h => ?_
  subst h
  refine gC_ok (p := GoodC env Try.prog 20 _) goodC_no fun _ _ h => ?_
  subst h
  refine qS_ok (p := GoodC env Try.prog 20 _) goodC_no fun _ h => ?_
  subst h
  refine vI_ok (p := GoodC env Try.prog 20 _) goodC_no fun _ h => ?_
  subst h
  refine gC_ok (p := GoodC env Try.prog 20 _) goodC_no fun _ _ h => ?_
  subst h
  refine qS_ok (p := GoodC env Try.prog 20 _) goodC_no fun _ h => ?_
  subst h
  refine vI_ok (p := GoodC env Try.prog 20 _) goodC_no fun _ h => ?_
  subst h
  refine gC_ok (p := GoodC env Try.prog 20 _) goodC_no fun _ _ h => ?_
  subst h
  refine qS_ok (p := GoodC env Try.prog 20 _) goodC_no fun _ h => ?_
  subst h
  refine vB_ok (p := GoodC env Try.prog 20 _) goodC_no fun _ h => ?_
  subst h
  refine gC_ok (p := GoodC env Try.prog 20 _) goodC_no fun _ _ h => ?_
  subst h
  refine qS_ok (p := GoodC env Try.prog 20 _) goodC_no fun _ h => ?_
  subst h
  refine vB_ok (p := GoodC env Try.prog 20 _) goodC_no fun _ h => ?_
  subst h
  refine gC_ok (p := GoodC env Try.prog 20 _) goodC_no fun _ _ h => ?_
  subst h
  refine qSl_ok (p := GoodC env Try.prog 20 _) goodC_no fun _ h => ?_
  subst h
  refine gE_ok (p := GoodC env Try.prog 20 _) goodC_no fun h => ?_
  subst h
  refine gE_ok (p := GoodC env Try.prog 20 _) goodC_no fun h => ?_
  subst h
  exact fun_good (fun_sound envOK (cs_sound _ (by exact ⟨⟨f83.sound k, f83.fnok⟩, trivial⟩)) (f20.hok k) Try.func20 rfl) ((f20.ev k _ _ _ _ _ _ _ _ _ _).trans (f20.nat k _ _ _ _ _ _ _ _ _ _ _))
theorem f20.sound (k : Nat) : SoundC env Try.prog 20 (f20.e k).F := soundC_coer (f20.sound0 k) [[.no, .no, .no, .no, .no, .no, .no, .no, .no, .rd 5]]
theorem f20.says (k : Nat) (a1 : Int) (s2 : ByteArray) (s3 : ByteArray) (a4 : Int) (a5 : Int) (a6 : Int) (a7 : Int) (b8 : Bool) (b9 : Bool) (xs10 : List Int) (t16 : Bool) (h_ : f20 k a1 s2 s3 a4 a5 a6 a7 b8 b9 xs10 = some t16) : SoundAt env Try.prog 20 [.g [.s (.int .i64 a1), .s (.string s2), .s (.string s3), .s (.int .i64 a4), .s (.int .i64 a5), .s (.int .i64 a6), .s (.int .i64 a7), .s (.bool b8), .s (.bool b9), .sl 5 xs10]] ⟨.v (.c (.s (.bool t16))), [[]]⟩ :=
  fun_sound envOK (cs_sound _ (by exact ⟨⟨f83.sound k, f83.fnok⟩, trivial⟩)) (f20.hok k) Try.func20 rfl _ _ (((f20.ev k a1 s2 s3 a4 a5 a6 a7 b8 b9 xs10).trans (f20.nat k _ a1 s2 s3 a4 a5 a6 a7 b8 b9 xs10)).trans (by rw [h_]; rfl))
theorem f20.fnok : FnOK Try.prog 20 := fn_ok Try.func20 (by kernel_rfl) rfl
def f168.step {R : Type} (k : Nat) (ret : ((List Int)) → Option R) (a1 : Int) : Option R :=
  ret ([(IntKind.u8.wrap (Int.fdiv a1 (2 ^ (min (8 : Int).toNat IntKind.i64.bits)))), (IntKind.u8.wrap a1)] : List Int)
def f168 (k : Nat) (a1 : Int) : Option ((List Int)) := f168.step k some a1
def f168.w {R : Type} : ((List Int)) → (Res env → Option R) → Option R := fun t2 K => K ⟨.v (.c (.own true 5 t2)), [[]]⟩
theorem f168.wn (x : ((List Int))) : ∃ res, ∀ {R : Type} (K : Res env → Option R), f168.w x K = K res := by
  exact ⟨_, fun _ => rfl⟩
def f168.hd (k : Nat) (ps_ : List (P2 env)) : Cl env :=
  gC Cl.no ps_ fun p_ ps_ => qC Cl.no p_ fun c_ => qS Cl.no c_ fun v_ => vI Cl.no .i64 v_ fun a1 => gE Cl.no ps_ <| { α := (List Int), o := f168 k a1, w := f168.w, nat := fun x _ => f168.wn x }
def f168.e (k : Nat) : Entry env := ⟨f168.hd k, [], []⟩
def f168.X (k : Nat) : Ctx env := { C := lookE [], L := lookE [], J := lookE [], keep := lookD [], keepX := lookD [], span := lookN [], eff := fun n => memN n [], prep := lookP [], np := 0 }
theorem f168.nat {R : Type} (k : Nat) (g : ((List Int)) → Option R) (a1 : Int) : f168.step k g a1 = (f168 k a1).bind g := by
  simp only [f168, f168.step, bind_ite, bind_sum, Option.bind_assoc, Option.bind_some, Option.bind_none]
theorem f168.ev (k : Nat) (a1 : Int) : evF (f168.X k) (bodyOf Try.f168) Try.f168.ntmps Try.f168.results.toList [.v (.c (.s (.int .i64 a1)))] = f168.step k (fun x => f168.w x some) a1 := by kernel_rfl
theorem f168.hok (k : Nat) : HOK (f168.X k) (bodyOf Try.f168) where
  l := allP_mem (by exact trivial)
  j := allP_mem (by exact trivial)
theorem f168.sound (k : Nat) : SoundC env Try.prog 168 ((f168.e k).F) := by
  intro ps_
  show GoodC _ _ _ ps_ (f168.hd k ps_)
  unfold f168.hd
  refine gC_ok (p := GoodC env Try.prog 168 _) goodC_no fun _ _ h => ?_
  subst h
  refine qC_ok (p := GoodC env Try.prog 168 _) goodC_no fun _ h => ?_
  subst h
  refine qS_ok (p := GoodC env Try.prog 168 _) goodC_no fun _ h => ?_
  subst h
  refine vI_ok (p := GoodC env Try.prog 168 _) goodC_no fun _ h => ?_
  subst h
  refine gE_ok (p := GoodC env Try.prog 168 _) goodC_no fun h => ?_
  subst h
  exact fun_good (fun_sound envOK (cs_sound _ (by exact trivial)) (f168.hok k) Try.func168 rfl) ((f168.ev k _).trans (f168.nat k _ _))
theorem f168.says (k : Nat) (a1 : Int) (t3 : (List Int)) (h_ : f168 k a1 = some t3) : SoundAt env Try.prog 168 [.v (.c (.s (.int .i64 a1)))] ⟨.v (.c (.own true 5 t3)), [[]]⟩ :=
  fun_sound envOK (cs_sound _ (by exact trivial)) (f168.hok k) Try.func168 rfl _ _ (((f168.ev k a1).trans (f168.nat k _ a1)).trans (by rw [h_]; rfl))
theorem f168.fnok : FnOK Try.prog 168 := fn_ok Try.func168 (by kernel_rfl) rfl
def f152.l3.step {R : Type} (k : Nat) (rec_ : (List Int) → Int → Int → Option R) (ret : Int → Option R) (xs2 : List Int) (a3 : Int) (a4 : Int) : Option R :=
  if (decide (a4 < (((List.length xs2) : Nat) : Int))) = true then
    if (0 : Int) ≤ a4 then
      if a4 < ((List.length xs2 : Nat) : Int) then
        if (decide ((IntKind.i64.wrap (a4 + (1 : Int))) < (((List.length xs2) : Nat) : Int))) = true then
          if (0 : Int) ≤ (IntKind.i64.wrap (a4 + (1 : Int))) then
            if (IntKind.i64.wrap (a4 + (1 : Int))) < ((List.length xs2 : Nat) : Int) then
              rec_ xs2 (IntKind.i64.wrap ((IntKind.i64.wrap (a3 + (IntKind.i64.wrap ((IntKind.i64.wrap (List.getD xs2 (Int.toNat a4) (0 : Int))) * (2 ^ (min (8 : Int).toNat IntKind.i64.bits)))))) + (IntKind.i64.wrap (List.getD xs2 (Int.toNat (IntKind.i64.wrap (a4 + (1 : Int)))) (0 : Int))))) (IntKind.i64.wrap (a4 + (2 : Int)))
            else none
          else none
        else
          rec_ xs2 (IntKind.i64.wrap (a3 + (IntKind.i64.wrap ((IntKind.i64.wrap (List.getD xs2 (Int.toNat a4) (0 : Int))) * (2 ^ (min (8 : Int).toNat IntKind.i64.bits)))))) (IntKind.i64.wrap (a4 + (2 : Int)))
      else none
    else none
  else
    ret a3
def f152.l3 (k : Nat) : Nat → (List Int) → Int → Int → Option Int
  | 0, _, _, _ => none
  | j + 1, xs2, a3, a4 => f152.l3.step k (fun xs2 a3 a4 => f152.l3 k j xs2 a3 a4) some xs2 a3 a4
def f152.l3.w {R : Type} : Int → (Exit → St env → Option R) → Option R := fun t8 K => K (.exit 0) ⟨fullT [3] 0 40 [.v (.c (.s (.int .i64 t8)))], [], 529⟩
def f152.l3.st (xs2 : List Int) (a3 : Int) (a4 : Int) : St env := ⟨fullT [0, 3, 4] 0 40 [.v (.c (.imm 5 xs2)), .v (.c (.s (.int .i64 a3))), .v (.c (.s (.int .i64 a4)))], [], 49⟩
def f152.l8.step {R : Type} (k : Nat) (rec_ : Int → Option R) (ret : Int → Option R) (a6 : Int) : Option R :=
  if (decide (a6 > (65535 : Int))) = true then
    rec_ (IntKind.i64.wrap ((bitsV .and .i64 a6 (65535 : Int)) + (Int.fdiv a6 (2 ^ (min (16 : Int).toNat IntKind.i64.bits)))))
  else
    ret a6
def f152.l8 (k : Nat) : Nat → Int → Option Int
  | 0, _ => none
  | j + 1, a6 => f152.l8.step k (fun a6 => f152.l8 k j a6) some a6
def f152.l8.w {R : Type} : Int → (Exit → St env → Option R) → Option R := fun t9 K => K (.exit 2) ⟨fullT [3] 0 40 [.v (.c (.s (.int .i64 t9)))], [], 657⟩
def f152.l8.st (a6 : Int) : St env := ⟨fullT [3] 0 40 [.v (.c (.s (.int .i64 a6)))], [], 529⟩
def f152.l3.hd (k : Nat) (ts_ : List (AV env)) (mm_ : Mem env) (n_ : Nat) : LCl env :=
  gTs LCl.no [0, 3, 4] 40 ts_ fun l_ => gV LCl.no l_ fun a_ l_ => rImm LCl.no 5 a_ fun xs2 => gV LCl.no l_ fun a_ l_ => rV LCl.no a_ fun v_ => vI LCl.no .i64 v_ fun a3 => gV LCl.no l_ fun a_ l_ => rV LCl.no a_ fun v_ => vI LCl.no .i64 v_ fun a4 => gE LCl.no l_ <| gE LCl.no mm_ <| gN LCl.no 49 n_ { α := Int, o := f152.l3 k k xs2 a3 a4, w := f152.l3.w }
def f152.l8.hd (k : Nat) (ts_ : List (AV env)) (mm_ : Mem env) (n_ : Nat) : LCl env :=
  gTs LCl.no [3] 40 ts_ fun l_ => gV LCl.no l_ fun a_ l_ => rV LCl.no a_ fun v_ => vI LCl.no .i64 v_ fun a6 => gE LCl.no l_ <| gE LCl.no mm_ <| gN LCl.no 529 n_ { α := Int, o := f152.l8 k k a6, w := f152.l8.w }
def f152.step {R : Type} (k : Nat) (ret : Int → Option R) (xs1 : List Int) : Option R :=
  (f152.l3 k k xs1 (0 : Int) (0 : Int)).bind fun t5 => (f152.l8 k k t5).bind fun t7 => ret t7
def f152 (k : Nat) (xs1 : List Int) : Option Int := f152.step k some xs1
def f152.w {R : Type} : Int → (Res env → Option R) → Option R := fun t10 K => K ⟨.v (.c (.s (.int .i64 t10))), [[]]⟩
theorem f152.wn (x : Int) : ∃ res, ∀ {R : Type} (K : Res env → Option R), f152.w x K = K res := by
  exact ⟨_, fun _ => rfl⟩
def f152.hd (k : Nat) (ps_ : List (P2 env)) : Cl env :=
  gC Cl.no ps_ fun p_ ps_ => qC Cl.no p_ fun c_ => qSl Cl.no 5 c_ fun xs1 => gE Cl.no ps_ <| { α := Int, o := f152 k xs1, w := f152.w, nat := fun x _ => f152.wn x }
def f152.e (k : Nat) : Entry env := ⟨fun ps => f152.hd k (coer [[.rd 5]] ps), [], []⟩
def f152.X (k : Nat) : Ctx env := { C := lookE [], L := lookE [(3, fun S => f152.l3.hd k S.ts S.m S.n), (8, fun S => f152.l8.hd k S.ts S.m S.n)], J := lookE [], keep := lookD [(3, [0, 3, 4]), (8, [3])], keepX := lookD [(3, [3]), (8, [3])], span := lookN [(3, 480), (8, 128)], eff := fun n => memN n [], prep := lookP [], np := 0 }
theorem f152.l3.nat {R : Type} (k : Nat) (rec_ : (List Int) → Int → Int → Option Int) (g : Int → Option R) (xs2 : List Int) (a3 : Int) (a4 : Int) : (f152.l3.step k rec_ some xs2 a3 a4).bind g = f152.l3.step k (fun xs2 a3 a4 => (rec_ xs2 a3 a4).bind g) g xs2 a3 a4 := by
  simp only [f152.l3.step, bind_ite, bind_sum, Option.bind_assoc, Option.bind_some, Option.bind_none]
theorem f152.l3.good (k : Nat) (xs2 : List Int) (a3 : Int) (a4 : Int) : GoodL (f152.X k) (nthC 0 (loopsOf (bodyOf Try.f152))) (f152.l3.st xs2 a3 a4) { α := Int, o := f152.l3 k k xs2 a3 a4, w := f152.l3.w } :=
  loop_good (ι := (List Int) × Int × Int) (α := Int) (fun i => f152.l3.st i.1 i.2.1 i.2.2) (fun j i => f152.l3 k j i.1 i.2.1 i.2.2) f152.l3.w (fun rec_ ret i => f152.l3.step k (fun xs2 a3 a4 => rec_ (xs2, a3, a4)) ret i.1 i.2.1 i.2.2)
    (fun _ => rfl) (fun _ _ => rfl) (fun rec_ g i => f152.l3.nat k _ g i.1 i.2.1 i.2.2) (fun {R} i0 i rec_ K => by kernel_rfl) k (xs2, a3, a4)
theorem f152.l3.all (k : Nat) (S : St env) : GoodL (f152.X k) (nthC 0 (loopsOf (bodyOf Try.f152))) S (f152.l3.hd k S.ts S.m S.n) := by
  obtain ⟨ts_, m_, n_⟩ := S
  show GoodL _ _ _ (f152.l3.hd k ts_ m_ n_)
  unfold f152.l3.hd
  refine gTs_ok (p := GoodL _ _ _) goodL_no fun _ h => ?_
  subst h
  refine gV_ok (p := GoodL _ _ _) goodL_no fun _ _ h => ?_
  subst h
  refine rImm_ok (p := GoodL _ _ _) goodL_no fun _ h => ?_
  subst h
  refine gV_ok (p := GoodL _ _ _) goodL_no fun _ _ h => ?_
  subst h
  refine rV_ok (p := GoodL _ _ _) goodL_no fun _ h => ?_
  subst h
  refine vI_ok (p := GoodL _ _ _) goodL_no fun _ h => ?_
  subst h
  refine gV_ok (p := GoodL _ _ _) goodL_no fun _ _ h => ?_
  subst h
  refine rV_ok (p := GoodL _ _ _) goodL_no fun _ h => ?_
  subst h
  refine vI_ok (p := GoodL _ _ _) goodL_no fun _ h => ?_
  subst h
  refine gE_ok (p := GoodL _ _ _) goodL_no fun h => ?_
  subst h
  refine gE_ok (p := GoodL _ _ _) goodL_no fun h => ?_
  subst h
  refine gN_ok (p := GoodL _ _ _) goodL_no fun h => ?_
  subst h
  exact f152.l3.good k _ _ _
theorem f152.l8.nat {R : Type} (k : Nat) (rec_ : Int → Option Int) (g : Int → Option R) (a6 : Int) : (f152.l8.step k rec_ some a6).bind g = f152.l8.step k (fun a6 => (rec_ a6).bind g) g a6 := by
  simp only [f152.l8.step, bind_ite, bind_sum, Option.bind_assoc, Option.bind_some, Option.bind_none]
theorem f152.l8.good (k : Nat) (a6 : Int) : GoodL (f152.X k) (nthC 1 (loopsOf (bodyOf Try.f152))) (f152.l8.st a6) { α := Int, o := f152.l8 k k a6, w := f152.l8.w } :=
  loop_good (ι := Int) (α := Int) (fun i => f152.l8.st i) (fun j i => f152.l8 k j i) f152.l8.w (fun rec_ ret i => f152.l8.step k (fun a6 => rec_ a6) ret i)
    (fun _ => rfl) (fun _ _ => rfl) (fun rec_ g i => f152.l8.nat k _ g i) (fun {R} i0 i rec_ K => by kernel_rfl) k a6
theorem f152.l8.all (k : Nat) (S : St env) : GoodL (f152.X k) (nthC 1 (loopsOf (bodyOf Try.f152))) S (f152.l8.hd k S.ts S.m S.n) := by
  obtain ⟨ts_, m_, n_⟩ := S
  show GoodL _ _ _ (f152.l8.hd k ts_ m_ n_)
  unfold f152.l8.hd
  refine gTs_ok (p := GoodL _ _ _) goodL_no fun _ h => ?_
  subst h
  refine gV_ok (p := GoodL _ _ _) goodL_no fun _ _ h => ?_
  subst h
  refine rV_ok (p := GoodL _ _ _) goodL_no fun _ h => ?_
  subst h
  refine vI_ok (p := GoodL _ _ _) goodL_no fun _ h => ?_
  subst h
  refine gE_ok (p := GoodL _ _ _) goodL_no fun h => ?_
  subst h
  refine gE_ok (p := GoodL _ _ _) goodL_no fun h => ?_
  subst h
  refine gN_ok (p := GoodL _ _ _) goodL_no fun h => ?_
  subst h
  exact f152.l8.good k _
theorem f152.nat {R : Type} (k : Nat) (g : Int → Option R) (xs1 : List Int) : f152.step k g xs1 = (f152 k xs1).bind g := by
  simp only [f152, f152.step, bind_ite, bind_sum, Option.bind_assoc, Option.bind_some, Option.bind_none]
theorem f152.ev (k : Nat) (xs1 : List Int) : evF (f152.X k) (bodyOf Try.f152) Try.f152.ntmps Try.f152.results.toList [.v (.c (.sl 5 xs1))] = f152.step k (fun x => f152.w x some) xs1 := by kernel_rfl
theorem f152.hok (k : Nat) : HOK (f152.X k) (bodyOf Try.f152) where
  l := allP_mem (by exact ⟨ls_of (h0 := fun S => f152.l3.hd k S.ts S.m S.n) (by kernel_rfl) (f152.l3.all k), ls_of (h0 := fun S => f152.l8.hd k S.ts S.m S.n) (by kernel_rfl) (f152.l8.all k), trivial⟩)
  j := allP_mem (by exact trivial)
theorem f152.sound0 (k : Nat) : SoundC env Try.prog 152 (f152.hd k) := by
  intro ps_
  show GoodC _ _ _ ps_ (f152.hd k ps_)
  unfold f152.hd
  refine gC_ok (p := GoodC env Try.prog 152 _) goodC_no fun _ _ h => ?_
  subst h
  refine qC_ok (p := GoodC env Try.prog 152 _) goodC_no fun _ h => ?_
  subst h
  refine qSl_ok (p := GoodC env Try.prog 152 _) goodC_no fun _ h => ?_
  subst h
  refine gE_ok (p := GoodC env Try.prog 152 _) goodC_no fun h => ?_
  subst h
  exact fun_good (fun_sound envOK (cs_sound _ (by exact trivial)) (f152.hok k) Try.func152 rfl) ((f152.ev k _).trans (f152.nat k _ _))
theorem f152.sound (k : Nat) : SoundC env Try.prog 152 (f152.e k).F := soundC_coer (f152.sound0 k) [[.rd 5]]
theorem f152.says (k : Nat) (xs1 : List Int) (t11 : Int) (h_ : f152 k xs1 = some t11) : SoundAt env Try.prog 152 [.v (.c (.sl 5 xs1))] ⟨.v (.c (.s (.int .i64 t11))), [[]]⟩ :=
  fun_sound envOK (cs_sound _ (by exact trivial)) (f152.hok k) Try.func152 rfl _ _ (((f152.ev k xs1).trans (f152.nat k _ xs1)).trans (by rw [h_]; rfl))
theorem f152.fnok : FnOK Try.prog 152 := fn_ok Try.func152 (by kernel_rfl) rfl
def f94.step {R : Type} (k : Nat) (ret : Int → Option R) (xs1 : List Int) : Option R :=
  (f152 k xs1).bind fun t2 => ret (IntKind.i64.wrap ((65535 : Int) - t2))
def f94 (k : Nat) (xs1 : List Int) : Option Int := f94.step k some xs1
def f94.w {R : Type} : Int → (Res env → Option R) → Option R := fun t3 K => K ⟨.v (.c (.s (.int .i64 t3))), [[]]⟩
theorem f94.wn (x : Int) : ∃ res, ∀ {R : Type} (K : Res env → Option R), f94.w x K = K res := by
  exact ⟨_, fun _ => rfl⟩
def f94.hd (k : Nat) (ps_ : List (P2 env)) : Cl env :=
  gC Cl.no ps_ fun p_ ps_ => qC Cl.no p_ fun c_ => qSl Cl.no 5 c_ fun xs1 => gE Cl.no ps_ <| { α := Int, o := f94 k xs1, w := f94.w, nat := fun x _ => f94.wn x }
def f94.e (k : Nat) : Entry env := ⟨fun ps => f94.hd k (coer [[.rd 5]] ps), [], []⟩
def f94.X (k : Nat) : Ctx env := { C := lookE [(152, f152.e k)], L := lookE [], J := lookE [], keep := lookD [], keepX := lookD [], span := lookN [], eff := fun n => memN n [], prep := lookP [], np := 0 }
theorem f94.nat {R : Type} (k : Nat) (g : Int → Option R) (xs1 : List Int) : f94.step k g xs1 = (f94 k xs1).bind g := by
  simp only [f94, f94.step, bind_ite, bind_sum, Option.bind_assoc, Option.bind_some, Option.bind_none]
theorem f94.ev (k : Nat) (xs1 : List Int) : evF (f94.X k) (bodyOf Try.f94) Try.f94.ntmps Try.f94.results.toList [.v (.c (.sl 5 xs1))] = f94.step k (fun x => f94.w x some) xs1 := by kernel_rfl
theorem f94.hok (k : Nat) : HOK (f94.X k) (bodyOf Try.f94) where
  l := allP_mem (by exact trivial)
  j := allP_mem (by exact trivial)
theorem f94.sound0 (k : Nat) : SoundC env Try.prog 94 (f94.hd k) := by
  intro ps_
  show GoodC _ _ _ ps_ (f94.hd k ps_)
  unfold f94.hd
  refine gC_ok (p := GoodC env Try.prog 94 _) goodC_no fun _ _ h => ?_
  subst h
  refine qC_ok (p := GoodC env Try.prog 94 _) goodC_no fun _ h => ?_
  subst h
  refine qSl_ok (p := GoodC env Try.prog 94 _) goodC_no fun _ h => ?_
  subst h
  refine gE_ok (p := GoodC env Try.prog 94 _) goodC_no fun h => ?_
  subst h
  exact fun_good (fun_sound envOK (cs_sound _ (by exact ⟨⟨f152.sound k, f152.fnok⟩, trivial⟩)) (f94.hok k) Try.func94 rfl) ((f94.ev k _).trans (f94.nat k _ _))
theorem f94.sound (k : Nat) : SoundC env Try.prog 94 (f94.e k).F := soundC_coer (f94.sound0 k) [[.rd 5]]
theorem f94.says (k : Nat) (xs1 : List Int) (t4 : Int) (h_ : f94 k xs1 = some t4) : SoundAt env Try.prog 94 [.v (.c (.sl 5 xs1))] ⟨.v (.c (.s (.int .i64 t4))), [[]]⟩ :=
  fun_sound envOK (cs_sound _ (by exact ⟨⟨f152.sound k, f152.fnok⟩, trivial⟩)) (f94.hok k) Try.func94 rfl _ _ (((f94.ev k xs1).trans (f94.nat k _ xs1)).trans (by rw [h_]; rfl))
theorem f94.fnok : FnOK Try.prog 94 := fn_ok Try.func94 (by kernel_rfl) rfl
def f124.step {R : Type} (k : Nat) (ret : ((List Int)) → Option R) (a1 : Int) (s2 : ByteArray) (s3 : ByteArray) (a4 : Int) (a5 : Int) (a6 : Int) (a7 : Int) (b8 : Bool) (b9 : Bool) (xs10 : List Int) : Option R :=
  if (decide (a1 = (6 : Int))) = true then
    (f168 k (((List.length xs10) : Nat) : Int)).bind fun t11 => if (List.length ([(96 : Int), (0 : Int), (0 : Int), (0 : Int)] : List Int) + List.length t11) * 1 ≤ maxN then
        if (List.length (([(96 : Int), (0 : Int), (0 : Int), (0 : Int)] : List Int) ++ t11) + List.length ([(IntKind.u8.wrap a5), (IntKind.u8.wrap a4)] : List Int)) * 1 ≤ maxN then
          if List.length ((([(96 : Int), (0 : Int), (0 : Int), (0 : Int)] : List Int) ++ t11) ++ ([(IntKind.u8.wrap a5), (IntKind.u8.wrap a4)] : List Int)) + List.length (bytesOf s2) ≤ maxN then
            if List.length (((([(96 : Int), (0 : Int), (0 : Int), (0 : Int)] : List Int) ++ t11) ++ ([(IntKind.u8.wrap a5), (IntKind.u8.wrap a4)] : List Int)) ++ (bytesOf s2)) + List.length (bytesOf s3) ≤ maxN then
              if (List.length ((((([(96 : Int), (0 : Int), (0 : Int), (0 : Int)] : List Int) ++ t11) ++ ([(IntKind.u8.wrap a5), (IntKind.u8.wrap a4)] : List Int)) ++ (bytesOf s2)) ++ (bytesOf s3)) + List.length xs10) * 1 ≤ maxN then
                ret (((((([(96 : Int), (0 : Int), (0 : Int), (0 : Int)] : List Int) ++ t11) ++ ([(IntKind.u8.wrap a5), (IntKind.u8.wrap a4)] : List Int)) ++ (bytesOf s2)) ++ (bytesOf s3)) ++ xs10)
              else none
            else none
          else none
        else none
      else none
  else
    if b9 = true then
      if b8 = true then
        (f168 k (IntKind.i64.wrap ((20 : Int) + (((List.length xs10) : Nat) : Int)))).bind fun t12 => if (List.length ([(69 : Int), (0 : Int)] : List Int) + List.length t12) * 1 ≤ maxN then
            (f168 k a6).bind fun t13 => if (List.length (([(69 : Int), (0 : Int)] : List Int) ++ t12) + List.length t13) * 1 ≤ maxN then
                (f168 k (IntKind.i64.wrap ((IntKind.i64.wrap (a7 + (16384 : Int))) + (8192 : Int)))).bind fun t14 => if (List.length ((([(69 : Int), (0 : Int)] : List Int) ++ t12) ++ t13) + List.length t14) * 1 ≤ maxN then
                    if (List.length (((([(69 : Int), (0 : Int)] : List Int) ++ t12) ++ t13) ++ t14) + List.length ([(IntKind.u8.wrap a4), (IntKind.u8.wrap a5), (0 : Int), (0 : Int)] : List Int)) * 1 ≤ maxN then
                      if List.length ((((([(69 : Int), (0 : Int)] : List Int) ++ t12) ++ t13) ++ t14) ++ ([(IntKind.u8.wrap a4), (IntKind.u8.wrap a5), (0 : Int), (0 : Int)] : List Int)) + List.length (bytesOf s2) ≤ maxN then
                        if List.length (((((([(69 : Int), (0 : Int)] : List Int) ++ t12) ++ t13) ++ t14) ++ ([(IntKind.u8.wrap a4), (IntKind.u8.wrap a5), (0 : Int), (0 : Int)] : List Int)) ++ (bytesOf s2)) + List.length (bytesOf s3) ≤ maxN then
                          if (10 : Int) ≤ ((List.length ((((((([(69 : Int), (0 : Int)] : List Int) ++ t12) ++ t13) ++ t14) ++ ([(IntKind.u8.wrap a4), (IntKind.u8.wrap a5), (0 : Int), (0 : Int)] : List Int)) ++ (bytesOf s2)) ++ (bytesOf s3)) : Nat) : Int) then
                            if ((List.length ((((((([(69 : Int), (0 : Int)] : List Int) ++ t12) ++ t13) ++ t14) ++ ([(IntKind.u8.wrap a4), (IntKind.u8.wrap a5), (0 : Int), (0 : Int)] : List Int)) ++ (bytesOf s2)) ++ (bytesOf s3)) : Nat) : Int) ≤ ((List.length ((((((([(69 : Int), (0 : Int)] : List Int) ++ t12) ++ t13) ++ t14) ++ ([(IntKind.u8.wrap a4), (IntKind.u8.wrap a5), (0 : Int), (0 : Int)] : List Int)) ++ (bytesOf s2)) ++ (bytesOf s3)) : Nat) : Int) then
                              (f94 k ((((((([(69 : Int), (0 : Int)] : List Int) ++ t12) ++ t13) ++ t14) ++ ([(IntKind.u8.wrap a4), (IntKind.u8.wrap a5), (0 : Int), (0 : Int)] : List Int)) ++ (bytesOf s2)) ++ (bytesOf s3))).bind fun t15 => (f168 k t15).bind fun t16 => if (List.length (copyL ((((((([(69 : Int), (0 : Int)] : List Int) ++ t12) ++ t13) ++ t14) ++ ([(IntKind.u8.wrap a4), (IntKind.u8.wrap a5), (0 : Int), (0 : Int)] : List Int)) ++ (bytesOf s2)) ++ (bytesOf s3)) 10 ((Int.toNat ((List.length ((((((([(69 : Int), (0 : Int)] : List Int) ++ t12) ++ t13) ++ t14) ++ ([(IntKind.u8.wrap a4), (IntKind.u8.wrap a5), (0 : Int), (0 : Int)] : List Int)) ++ (bytesOf s2)) ++ (bytesOf s3)) : Nat) : Int)) - 10) t16) + List.length xs10) * 1 ≤ maxN then
                                    ret ((copyL ((((((([(69 : Int), (0 : Int)] : List Int) ++ t12) ++ t13) ++ t14) ++ ([(IntKind.u8.wrap a4), (IntKind.u8.wrap a5), (0 : Int), (0 : Int)] : List Int)) ++ (bytesOf s2)) ++ (bytesOf s3)) 10 ((Int.toNat ((List.length ((((((([(69 : Int), (0 : Int)] : List Int) ++ t12) ++ t13) ++ t14) ++ ([(IntKind.u8.wrap a4), (IntKind.u8.wrap a5), (0 : Int), (0 : Int)] : List Int)) ++ (bytesOf s2)) ++ (bytesOf s3)) : Nat) : Int)) - 10) t16) ++ xs10)
                                  else none
                            else none
                          else none
                        else none
                      else none
                    else none
                  else none
              else none
          else none
      else
        (f168 k (IntKind.i64.wrap ((20 : Int) + (((List.length xs10) : Nat) : Int)))).bind fun t17 => if (List.length ([(69 : Int), (0 : Int)] : List Int) + List.length t17) * 1 ≤ maxN then
            (f168 k a6).bind fun t18 => if (List.length (([(69 : Int), (0 : Int)] : List Int) ++ t17) + List.length t18) * 1 ≤ maxN then
                (f168 k (IntKind.i64.wrap (a7 + (16384 : Int)))).bind fun t19 => if (List.length ((([(69 : Int), (0 : Int)] : List Int) ++ t17) ++ t18) + List.length t19) * 1 ≤ maxN then
                    if (List.length (((([(69 : Int), (0 : Int)] : List Int) ++ t17) ++ t18) ++ t19) + List.length ([(IntKind.u8.wrap a4), (IntKind.u8.wrap a5), (0 : Int), (0 : Int)] : List Int)) * 1 ≤ maxN then
                      if List.length ((((([(69 : Int), (0 : Int)] : List Int) ++ t17) ++ t18) ++ t19) ++ ([(IntKind.u8.wrap a4), (IntKind.u8.wrap a5), (0 : Int), (0 : Int)] : List Int)) + List.length (bytesOf s2) ≤ maxN then
                        if List.length (((((([(69 : Int), (0 : Int)] : List Int) ++ t17) ++ t18) ++ t19) ++ ([(IntKind.u8.wrap a4), (IntKind.u8.wrap a5), (0 : Int), (0 : Int)] : List Int)) ++ (bytesOf s2)) + List.length (bytesOf s3) ≤ maxN then
                          if (10 : Int) ≤ ((List.length ((((((([(69 : Int), (0 : Int)] : List Int) ++ t17) ++ t18) ++ t19) ++ ([(IntKind.u8.wrap a4), (IntKind.u8.wrap a5), (0 : Int), (0 : Int)] : List Int)) ++ (bytesOf s2)) ++ (bytesOf s3)) : Nat) : Int) then
                            if ((List.length ((((((([(69 : Int), (0 : Int)] : List Int) ++ t17) ++ t18) ++ t19) ++ ([(IntKind.u8.wrap a4), (IntKind.u8.wrap a5), (0 : Int), (0 : Int)] : List Int)) ++ (bytesOf s2)) ++ (bytesOf s3)) : Nat) : Int) ≤ ((List.length ((((((([(69 : Int), (0 : Int)] : List Int) ++ t17) ++ t18) ++ t19) ++ ([(IntKind.u8.wrap a4), (IntKind.u8.wrap a5), (0 : Int), (0 : Int)] : List Int)) ++ (bytesOf s2)) ++ (bytesOf s3)) : Nat) : Int) then
                              (f94 k ((((((([(69 : Int), (0 : Int)] : List Int) ++ t17) ++ t18) ++ t19) ++ ([(IntKind.u8.wrap a4), (IntKind.u8.wrap a5), (0 : Int), (0 : Int)] : List Int)) ++ (bytesOf s2)) ++ (bytesOf s3))).bind fun t20 => (f168 k t20).bind fun t21 => if (List.length (copyL ((((((([(69 : Int), (0 : Int)] : List Int) ++ t17) ++ t18) ++ t19) ++ ([(IntKind.u8.wrap a4), (IntKind.u8.wrap a5), (0 : Int), (0 : Int)] : List Int)) ++ (bytesOf s2)) ++ (bytesOf s3)) 10 ((Int.toNat ((List.length ((((((([(69 : Int), (0 : Int)] : List Int) ++ t17) ++ t18) ++ t19) ++ ([(IntKind.u8.wrap a4), (IntKind.u8.wrap a5), (0 : Int), (0 : Int)] : List Int)) ++ (bytesOf s2)) ++ (bytesOf s3)) : Nat) : Int)) - 10) t21) + List.length xs10) * 1 ≤ maxN then
                                    ret ((copyL ((((((([(69 : Int), (0 : Int)] : List Int) ++ t17) ++ t18) ++ t19) ++ ([(IntKind.u8.wrap a4), (IntKind.u8.wrap a5), (0 : Int), (0 : Int)] : List Int)) ++ (bytesOf s2)) ++ (bytesOf s3)) 10 ((Int.toNat ((List.length ((((((([(69 : Int), (0 : Int)] : List Int) ++ t17) ++ t18) ++ t19) ++ ([(IntKind.u8.wrap a4), (IntKind.u8.wrap a5), (0 : Int), (0 : Int)] : List Int)) ++ (bytesOf s2)) ++ (bytesOf s3)) : Nat) : Int)) - 10) t21) ++ xs10)
                                  else none
                            else none
                          else none
                        else none
                      else none
                    else none
                  else none
              else none
          else none
    else
      if b8 = true then
        (f168 k (IntKind.i64.wrap ((20 : Int) + (((List.length xs10) : Nat) : Int)))).bind fun t22 => if (List.length ([(69 : Int), (0 : Int)] : List Int) + List.length t22) * 1 ≤ maxN then
            (f168 k a6).bind fun t23 => if (List.length (([(69 : Int), (0 : Int)] : List Int) ++ t22) + List.length t23) * 1 ≤ maxN then
                (f168 k (IntKind.i64.wrap (a7 + (8192 : Int)))).bind fun t24 => if (List.length ((([(69 : Int), (0 : Int)] : List Int) ++ t22) ++ t23) + List.length t24) * 1 ≤ maxN then
                    if (List.length (((([(69 : Int), (0 : Int)] : List Int) ++ t22) ++ t23) ++ t24) + List.length ([(IntKind.u8.wrap a4), (IntKind.u8.wrap a5), (0 : Int), (0 : Int)] : List Int)) * 1 ≤ maxN then
                      if List.length ((((([(69 : Int), (0 : Int)] : List Int) ++ t22) ++ t23) ++ t24) ++ ([(IntKind.u8.wrap a4), (IntKind.u8.wrap a5), (0 : Int), (0 : Int)] : List Int)) + List.length (bytesOf s2) ≤ maxN then
                        if List.length (((((([(69 : Int), (0 : Int)] : List Int) ++ t22) ++ t23) ++ t24) ++ ([(IntKind.u8.wrap a4), (IntKind.u8.wrap a5), (0 : Int), (0 : Int)] : List Int)) ++ (bytesOf s2)) + List.length (bytesOf s3) ≤ maxN then
                          if (10 : Int) ≤ ((List.length ((((((([(69 : Int), (0 : Int)] : List Int) ++ t22) ++ t23) ++ t24) ++ ([(IntKind.u8.wrap a4), (IntKind.u8.wrap a5), (0 : Int), (0 : Int)] : List Int)) ++ (bytesOf s2)) ++ (bytesOf s3)) : Nat) : Int) then
                            if ((List.length ((((((([(69 : Int), (0 : Int)] : List Int) ++ t22) ++ t23) ++ t24) ++ ([(IntKind.u8.wrap a4), (IntKind.u8.wrap a5), (0 : Int), (0 : Int)] : List Int)) ++ (bytesOf s2)) ++ (bytesOf s3)) : Nat) : Int) ≤ ((List.length ((((((([(69 : Int), (0 : Int)] : List Int) ++ t22) ++ t23) ++ t24) ++ ([(IntKind.u8.wrap a4), (IntKind.u8.wrap a5), (0 : Int), (0 : Int)] : List Int)) ++ (bytesOf s2)) ++ (bytesOf s3)) : Nat) : Int) then
                              (f94 k ((((((([(69 : Int), (0 : Int)] : List Int) ++ t22) ++ t23) ++ t24) ++ ([(IntKind.u8.wrap a4), (IntKind.u8.wrap a5), (0 : Int), (0 : Int)] : List Int)) ++ (bytesOf s2)) ++ (bytesOf s3))).bind fun t25 => (f168 k t25).bind fun t26 => if (List.length (copyL ((((((([(69 : Int), (0 : Int)] : List Int) ++ t22) ++ t23) ++ t24) ++ ([(IntKind.u8.wrap a4), (IntKind.u8.wrap a5), (0 : Int), (0 : Int)] : List Int)) ++ (bytesOf s2)) ++ (bytesOf s3)) 10 ((Int.toNat ((List.length ((((((([(69 : Int), (0 : Int)] : List Int) ++ t22) ++ t23) ++ t24) ++ ([(IntKind.u8.wrap a4), (IntKind.u8.wrap a5), (0 : Int), (0 : Int)] : List Int)) ++ (bytesOf s2)) ++ (bytesOf s3)) : Nat) : Int)) - 10) t26) + List.length xs10) * 1 ≤ maxN then
                                    ret ((copyL ((((((([(69 : Int), (0 : Int)] : List Int) ++ t22) ++ t23) ++ t24) ++ ([(IntKind.u8.wrap a4), (IntKind.u8.wrap a5), (0 : Int), (0 : Int)] : List Int)) ++ (bytesOf s2)) ++ (bytesOf s3)) 10 ((Int.toNat ((List.length ((((((([(69 : Int), (0 : Int)] : List Int) ++ t22) ++ t23) ++ t24) ++ ([(IntKind.u8.wrap a4), (IntKind.u8.wrap a5), (0 : Int), (0 : Int)] : List Int)) ++ (bytesOf s2)) ++ (bytesOf s3)) : Nat) : Int)) - 10) t26) ++ xs10)
                                  else none
                            else none
                          else none
                        else none
                      else none
                    else none
                  else none
              else none
          else none
      else
        (f168 k (IntKind.i64.wrap ((20 : Int) + (((List.length xs10) : Nat) : Int)))).bind fun t27 => if (List.length ([(69 : Int), (0 : Int)] : List Int) + List.length t27) * 1 ≤ maxN then
            (f168 k a6).bind fun t28 => if (List.length (([(69 : Int), (0 : Int)] : List Int) ++ t27) + List.length t28) * 1 ≤ maxN then
                (f168 k a7).bind fun t29 => if (List.length ((([(69 : Int), (0 : Int)] : List Int) ++ t27) ++ t28) + List.length t29) * 1 ≤ maxN then
                    if (List.length (((([(69 : Int), (0 : Int)] : List Int) ++ t27) ++ t28) ++ t29) + List.length ([(IntKind.u8.wrap a4), (IntKind.u8.wrap a5), (0 : Int), (0 : Int)] : List Int)) * 1 ≤ maxN then
                      if List.length ((((([(69 : Int), (0 : Int)] : List Int) ++ t27) ++ t28) ++ t29) ++ ([(IntKind.u8.wrap a4), (IntKind.u8.wrap a5), (0 : Int), (0 : Int)] : List Int)) + List.length (bytesOf s2) ≤ maxN then
                        if List.length (((((([(69 : Int), (0 : Int)] : List Int) ++ t27) ++ t28) ++ t29) ++ ([(IntKind.u8.wrap a4), (IntKind.u8.wrap a5), (0 : Int), (0 : Int)] : List Int)) ++ (bytesOf s2)) + List.length (bytesOf s3) ≤ maxN then
                          if (10 : Int) ≤ ((List.length ((((((([(69 : Int), (0 : Int)] : List Int) ++ t27) ++ t28) ++ t29) ++ ([(IntKind.u8.wrap a4), (IntKind.u8.wrap a5), (0 : Int), (0 : Int)] : List Int)) ++ (bytesOf s2)) ++ (bytesOf s3)) : Nat) : Int) then
                            if ((List.length ((((((([(69 : Int), (0 : Int)] : List Int) ++ t27) ++ t28) ++ t29) ++ ([(IntKind.u8.wrap a4), (IntKind.u8.wrap a5), (0 : Int), (0 : Int)] : List Int)) ++ (bytesOf s2)) ++ (bytesOf s3)) : Nat) : Int) ≤ ((List.length ((((((([(69 : Int), (0 : Int)] : List Int) ++ t27) ++ t28) ++ t29) ++ ([(IntKind.u8.wrap a4), (IntKind.u8.wrap a5), (0 : Int), (0 : Int)] : List Int)) ++ (bytesOf s2)) ++ (bytesOf s3)) : Nat) : Int) then
                              (f94 k ((((((([(69 : Int), (0 : Int)] : List Int) ++ t27) ++ t28) ++ t29) ++ ([(IntKind.u8.wrap a4), (IntKind.u8.wrap a5), (0 : Int), (0 : Int)] : List Int)) ++ (bytesOf s2)) ++ (bytesOf s3))).bind fun t30 => (f168 k t30).bind fun t31 => if (List.length (copyL ((((((([(69 : Int), (0 : Int)] : List Int) ++ t27) ++ t28) ++ t29) ++ ([(IntKind.u8.wrap a4), (IntKind.u8.wrap a5), (0 : Int), (0 : Int)] : List Int)) ++ (bytesOf s2)) ++ (bytesOf s3)) 10 ((Int.toNat ((List.length ((((((([(69 : Int), (0 : Int)] : List Int) ++ t27) ++ t28) ++ t29) ++ ([(IntKind.u8.wrap a4), (IntKind.u8.wrap a5), (0 : Int), (0 : Int)] : List Int)) ++ (bytesOf s2)) ++ (bytesOf s3)) : Nat) : Int)) - 10) t31) + List.length xs10) * 1 ≤ maxN then
                                    ret ((copyL ((((((([(69 : Int), (0 : Int)] : List Int) ++ t27) ++ t28) ++ t29) ++ ([(IntKind.u8.wrap a4), (IntKind.u8.wrap a5), (0 : Int), (0 : Int)] : List Int)) ++ (bytesOf s2)) ++ (bytesOf s3)) 10 ((Int.toNat ((List.length ((((((([(69 : Int), (0 : Int)] : List Int) ++ t27) ++ t28) ++ t29) ++ ([(IntKind.u8.wrap a4), (IntKind.u8.wrap a5), (0 : Int), (0 : Int)] : List Int)) ++ (bytesOf s2)) ++ (bytesOf s3)) : Nat) : Int)) - 10) t31) ++ xs10)
                                  else none
                            else none
                          else none
                        else none
                      else none
                    else none
                  else none
              else none
          else none
def f124 (k : Nat) (a1 : Int) (s2 : ByteArray) (s3 : ByteArray) (a4 : Int) (a5 : Int) (a6 : Int) (a7 : Int) (b8 : Bool) (b9 : Bool) (xs10 : List Int) : Option ((List Int)) := f124.step k some a1 s2 s3 a4 a5 a6 a7 b8 b9 xs10
def f124.w {R : Type} : ((List Int)) → (Res env → Option R) → Option R := fun t32 K => K ⟨.v (.c (.own true 5 t32)), [[]]⟩
theorem f124.wn (x : ((List Int))) : ∃ res, ∀ {R : Type} (K : Res env → Option R), f124.w x K = K res := by
  exact ⟨_, fun _ => rfl⟩
def f124.hd (k : Nat) (ps_ : List (P2 env)) : Cl env :=
  gC Cl.no ps_ fun p_ ps_ => qG Cl.no p_ fun cs_ => gC Cl.no cs_ fun c_ cs_ => qS Cl.no c_ fun v_ => vI Cl.no .i64 v_ fun a1 => gC Cl.no cs_ fun c_ cs_ => qS Cl.no c_ fun v_ => vS Cl.no v_ fun s2 => gC Cl.no cs_ fun c_ cs_ => qS Cl.no c_ fun v_ => vS Cl.no v_ fun s3 => gC Cl.no cs_ fun c_ cs_ => qS Cl.no c_ fun v_ => vI Cl.no .i64 v_ fun a4 => gC Cl.no cs_ fun c_ cs_ => qS Cl.no c_ fun v_ => vI Cl.no .i64 v_ fun a5 => gC Cl.no cs_ fun c_ cs_ => qS Cl.no c_ fun v_ => vI Cl.no .i64 v_ fun a6 => gC Cl.no cs_ fun c_ cs_ => qS Cl.no c_ fun v_ => vI Cl.no .i64 v_ fun a7 => gC Cl.no cs_ fun c_ cs_ => qS Cl.no c_ fun v_ => vB Cl.no v_ fun b8 => gC Cl.no cs_ fun c_ cs_ => qS Cl.no c_ fun v_ => vB Cl.no v_ fun b9 => gC Cl.no cs_ fun c_ cs_ => qSl Cl.no 5 c_ fun xs10 => gE Cl.no cs_ <| gE Cl.no ps_ <| { α := (List Int), o := f124 k a1 s2 s3 a4 a5 a6 a7 b8 b9 xs10, w := f124.w, nat := fun x _ => f124.wn x }
def f124.e (k : Nat) : Entry env := ⟨fun ps => f124.hd k (coer [[.no, .no, .no, .no, .no, .no, .no, .no, .no, .rd 5]] ps), [], []⟩
def f124.X (k : Nat) : Ctx env := { C := lookE [(94, f94.e k), (168, f168.e k)], L := lookE [], J := lookE [], keep := lookD [], keepX := lookD [], span := lookN [], eff := fun n => memN n [20], prep := lookP [], np := 0 }
theorem f124.nat {R : Type} (k : Nat) (g : ((List Int)) → Option R) (a1 : Int) (s2 : ByteArray) (s3 : ByteArray) (a4 : Int) (a5 : Int) (a6 : Int) (a7 : Int) (b8 : Bool) (b9 : Bool) (xs10 : List Int) : f124.step k g a1 s2 s3 a4 a5 a6 a7 b8 b9 xs10 = (f124 k a1 s2 s3 a4 a5 a6 a7 b8 b9 xs10).bind g := by
  simp only [f124, f124.step, bind_ite, bind_sum, Option.bind_assoc, Option.bind_some, Option.bind_none]
theorem f124.ev (k : Nat) (a1 : Int) (s2 : ByteArray) (s3 : ByteArray) (a4 : Int) (a5 : Int) (a6 : Int) (a7 : Int) (b8 : Bool) (b9 : Bool) (xs10 : List Int) : evF (f124.X k) (bodyOf Try.f124) Try.f124.ntmps Try.f124.results.toList [.g [.s (.int .i64 a1), .s (.string s2), .s (.string s3), .s (.int .i64 a4), .s (.int .i64 a5), .s (.int .i64 a6), .s (.int .i64 a7), .s (.bool b8), .s (.bool b9), .sl 5 xs10]] = f124.step k (fun x => f124.w x some) a1 s2 s3 a4 a5 a6 a7 b8 b9 xs10 := by kernel_rfl
theorem f124.hok (k : Nat) : HOK (f124.X k) (bodyOf Try.f124) where
  l := allP_mem (by exact trivial)
  j := allP_mem (by exact trivial)
theorem f124.sound0 (k : Nat) : SoundC env Try.prog 124 (f124.hd k) := by
  intro ps_
  show GoodC _ _ _ ps_ (f124.hd k ps_)
  unfold f124.hd
  refine gC_ok (p := GoodC env Try.prog 124 _) goodC_no fun _ _ h => ?_
  subst h
  refine qG_ok (p := GoodC env Try.prog 124 _) goodC_no fun _ h => ?_
  subst h
  refine gC_ok (p := GoodC env Try.prog 124 _) goodC_no fun _ _ h => ?_
  subst h
  refine qS_ok (p := GoodC env Try.prog 124 _) goodC_no fun _ h => ?_
  subst h
  refine vI_ok (p := GoodC env Try.prog 124 _) goodC_no fun _ h => ?_
  subst h
  refine gC_ok (p := GoodC env Try.prog 124 _) goodC_no fun _ _ h => ?_
  subst h
  refine qS_ok (p := GoodC env Try.prog 124 _) goodC_no fun _ h => ?_
  subst h
  refine vS_ok (p := GoodC env Try.prog 124 _) goodC_no fun _ h => ?_
  subst h
  refine gC_ok (p := GoodC env Try.prog 124 _) goodC_no fun _ _ h => ?_
  subst h
  refine qS_ok (p := GoodC env Try.prog 124 _) goodC_no fun _ h => ?_
  subst h
  refine vS_ok (p := GoodC env Try.prog 124 _) goodC_no fun _ h => ?_
  subst h
  refine gC_ok (p := GoodC env Try.prog 124 _) goodC_no fun _ _ h => ?_
  subst h
  refine qS_ok (p := GoodC env Try.prog 124 _) goodC_no fun _ h => ?_
  subst h
  refine vI_ok (p := GoodC env Try.prog 124 _) goodC_no fun _ h => ?_
  subst h
  refine gC_ok (p := GoodC env Try.prog 124 _) goodC_no fun _ _ h => ?_
  subst h
  refine qS_ok (p := GoodC env Try.prog 124 _) goodC_no fun _ h => ?_
  subst h
  refine vI_ok (p := GoodC env Try.prog 124 _) goodC_no fun _ h => ?_
  subst h
  refine gC_ok (p := GoodC env Try.prog 124 _) goodC_no fun _ _ h => ?_
  subst h
  refine qS_ok (p := GoodC env Try.prog 124 _) goodC_no fun _ h => ?_
  subst h
  refine vI_ok (p := GoodC env Try.prog 124 _) goodC_no fun _ h => ?_
  subst h
  refine gC_ok (p := GoodC env Try.prog 124 _) goodC_no fun _ _ h => ?_
  subst h
  refine qS_ok (p := GoodC env Try.prog 124 _) goodC_no fun _ h => ?_
  subst h
  refine vI_ok (p := GoodC env Try.prog 124 _) goodC_no fun _ h => ?_
  subst h
  refine gC_ok (p := GoodC env Try.prog 124 _) goodC_no fun _ _ h => ?_
  subst h
  refine qS_ok (p := GoodC env Try.prog 124 _) goodC_no fun _ h => ?_
  subst h
  refine vB_ok (p := GoodC env Try.prog 124 _) goodC_no fun _ h => ?_
  subst h
  refine gC_ok (p := GoodC env Try.prog 124 _) goodC_no fun _ _ h => ?_
  subst h
  refine qS_ok (p := GoodC env Try.prog 124 _) goodC_no fun _ h => ?_
  subst h
  refine vB_ok (p := GoodC env Try.prog 124 _) goodC_no fun _ h => ?_
  subst h
  refine gC_ok (p := GoodC env Try.prog 124 _) goodC_no fun _ _ h => ?_
  subst h
  refine qSl_ok (p := GoodC env Try.prog 124 _) goodC_no fun _ h => ?_
  subst h
  refine gE_ok (p := GoodC env Try.prog 124 _) goodC_no fun h => ?_
  subst h
  refine gE_ok (p := GoodC env Try.prog 124 _) goodC_no fun h => ?_
  subst h
  exact fun_good (fun_sound envOK (cs_sound _ (by exact ⟨⟨f94.sound k, f94.fnok⟩, ⟨f168.sound k, f168.fnok⟩, trivial⟩)) (f124.hok k) Try.func124 rfl) ((f124.ev k _ _ _ _ _ _ _ _ _ _).trans (f124.nat k _ _ _ _ _ _ _ _ _ _ _))
theorem f124.sound (k : Nat) : SoundC env Try.prog 124 (f124.e k).F := soundC_coer (f124.sound0 k) [[.no, .no, .no, .no, .no, .no, .no, .no, .no, .rd 5]]
theorem f124.says (k : Nat) (a1 : Int) (s2 : ByteArray) (s3 : ByteArray) (a4 : Int) (a5 : Int) (a6 : Int) (a7 : Int) (b8 : Bool) (b9 : Bool) (xs10 : List Int) (t33 : (List Int)) (h_ : f124 k a1 s2 s3 a4 a5 a6 a7 b8 b9 xs10 = some t33) : SoundAt env Try.prog 124 [.g [.s (.int .i64 a1), .s (.string s2), .s (.string s3), .s (.int .i64 a4), .s (.int .i64 a5), .s (.int .i64 a6), .s (.int .i64 a7), .s (.bool b8), .s (.bool b9), .sl 5 xs10]] ⟨.v (.c (.own true 5 t33)), [[]]⟩ :=
  fun_sound envOK (cs_sound _ (by exact ⟨⟨f94.sound k, f94.fnok⟩, ⟨f168.sound k, f168.fnok⟩, trivial⟩)) (f124.hok k) Try.func124 rfl _ _ (((f124.ev k a1 s2 s3 a4 a5 a6 a7 b8 b9 xs10).trans (f124.nat k _ a1 s2 s3 a4 a5 a6 a7 b8 b9 xs10)).trans (by rw [h_]; rfl))
theorem f124.fnok : FnOK Try.prog 124 := fn_ok Try.func124 (by kernel_rfl) rfl
def f56.step {R : Type} (k : Nat) (ret : (Int ⊕ ((List Int) × Int)) → Option R) (a1 : Int) (s2 : ByteArray) (s3 : ByteArray) (a4 : Int) (a5 : Int) (a6 : Int) (a7 : Int) (b8 : Bool) (b9 : Bool) (xs10 : List Int) : Option R :=
  (f20 k a1 s2 s3 a4 a5 a6 a7 b8 b9 xs10).bind fun t11 => if (!t11) = true then
      ret (.inl (1 : Int))
    else
      (f124 k a1 s2 s3 a4 a5 a6 a7 b8 b9 xs10).bind fun t12 => ret (.inr (t12, (0 : Int)))
def f56 (k : Nat) (a1 : Int) (s2 : ByteArray) (s3 : ByteArray) (a4 : Int) (a5 : Int) (a6 : Int) (a7 : Int) (b8 : Bool) (b9 : Bool) (xs10 : List Int) : Option (Int ⊕ ((List Int) × Int)) := f56.step k some a1 s2 s3 a4 a5 a6 a7 b8 b9 xs10
def f56.w {R : Type} : (Int ⊕ ((List Int) × Int)) → (Res env → Option R) → Option R := fun x K => Sum.elim (fun t13 => K ⟨.tup [.c (.s (.slice none 0 0)), .c (.s (.int .i64 t13))], [[]]⟩) (fun t14 => K ⟨.tup [.c (.own true 5 t14.1), .c (.s (.int .i64 t14.2))], [[]]⟩) x
theorem f56.wn (x : (Int ⊕ ((List Int) × Int))) : ∃ res, ∀ {R : Type} (K : Res env → Option R), f56.w x K = K res := by
  rcases x with x | x <;> exact ⟨_, fun _ => rfl⟩
def f56.hd (k : Nat) (ps_ : List (P2 env)) : Cl env :=
  gC Cl.no ps_ fun p_ ps_ => qG Cl.no p_ fun cs_ => gC Cl.no cs_ fun c_ cs_ => qS Cl.no c_ fun v_ => vI Cl.no .i64 v_ fun a1 => gC Cl.no cs_ fun c_ cs_ => qS Cl.no c_ fun v_ => vS Cl.no v_ fun s2 => gC Cl.no cs_ fun c_ cs_ => qS Cl.no c_ fun v_ => vS Cl.no v_ fun s3 => gC Cl.no cs_ fun c_ cs_ => qS Cl.no c_ fun v_ => vI Cl.no .i64 v_ fun a4 => gC Cl.no cs_ fun c_ cs_ => qS Cl.no c_ fun v_ => vI Cl.no .i64 v_ fun a5 => gC Cl.no cs_ fun c_ cs_ => qS Cl.no c_ fun v_ => vI Cl.no .i64 v_ fun a6 => gC Cl.no cs_ fun c_ cs_ => qS Cl.no c_ fun v_ => vI Cl.no .i64 v_ fun a7 => gC Cl.no cs_ fun c_ cs_ => qS Cl.no c_ fun v_ => vB Cl.no v_ fun b8 => gC Cl.no cs_ fun c_ cs_ => qS Cl.no c_ fun v_ => vB Cl.no v_ fun b9 => gC Cl.no cs_ fun c_ cs_ => qSl Cl.no 5 c_ fun xs10 => gE Cl.no cs_ <| gE Cl.no ps_ <| { α := Int ⊕ ((List Int) × Int), o := f56 k a1 s2 s3 a4 a5 a6 a7 b8 b9 xs10, w := f56.w, nat := fun x _ => f56.wn x }
def f56.e (k : Nat) : Entry env := ⟨fun ps => f56.hd k (coer [[.no, .no, .no, .no, .no, .no, .no, .no, .no, .rd 5]] ps), [], []⟩
def f56.X (k : Nat) : Ctx env := { C := lookE [(20, f20.e k), (124, f124.e k)], L := lookE [], J := lookE [], keep := lookD [], keepX := lookD [], span := lookN [], eff := fun n => memN n [], prep := lookP [], np := 0 }
theorem f56.nat {R : Type} (k : Nat) (g : (Int ⊕ ((List Int) × Int)) → Option R) (a1 : Int) (s2 : ByteArray) (s3 : ByteArray) (a4 : Int) (a5 : Int) (a6 : Int) (a7 : Int) (b8 : Bool) (b9 : Bool) (xs10 : List Int) : f56.step k g a1 s2 s3 a4 a5 a6 a7 b8 b9 xs10 = (f56 k a1 s2 s3 a4 a5 a6 a7 b8 b9 xs10).bind g := by
  simp only [f56, f56.step, bind_ite, bind_sum, Option.bind_assoc, Option.bind_some, Option.bind_none]
theorem f56.ev (k : Nat) (a1 : Int) (s2 : ByteArray) (s3 : ByteArray) (a4 : Int) (a5 : Int) (a6 : Int) (a7 : Int) (b8 : Bool) (b9 : Bool) (xs10 : List Int) : evF (f56.X k) (bodyOf Try.f56) Try.f56.ntmps Try.f56.results.toList [.g [.s (.int .i64 a1), .s (.string s2), .s (.string s3), .s (.int .i64 a4), .s (.int .i64 a5), .s (.int .i64 a6), .s (.int .i64 a7), .s (.bool b8), .s (.bool b9), .sl 5 xs10]] = f56.step k (fun x => f56.w x some) a1 s2 s3 a4 a5 a6 a7 b8 b9 xs10 := by kernel_rfl
theorem f56.hok (k : Nat) : HOK (f56.X k) (bodyOf Try.f56) where
  l := allP_mem (by exact trivial)
  j := allP_mem (by exact trivial)
theorem f56.sound0 (k : Nat) : SoundC env Try.prog 56 (f56.hd k) := by
  intro ps_
  show GoodC _ _ _ ps_ (f56.hd k ps_)
  unfold f56.hd
  refine gC_ok (p := GoodC env Try.prog 56 _) goodC_no fun _ _ h => ?_
  subst h
  refine qG_ok (p := GoodC env Try.prog 56 _) goodC_no fun _ h => ?_
  subst h
  refine gC_ok (p := GoodC env Try.prog 56 _) goodC_no fun _ _ h => ?_
  subst h
  refine qS_ok (p := GoodC env Try.prog 56 _) goodC_no fun _ h => ?_
  subst h
  refine vI_ok (p := GoodC env Try.prog 56 _) goodC_no fun _ h => ?_
  subst h
  refine gC_ok (p := GoodC env Try.prog 56 _) goodC_no fun _ _ h => ?_
  subst h
  refine qS_ok (p := GoodC env Try.prog 56 _) goodC_no fun _ h => ?_
  subst h
  refine vS_ok (p := GoodC env Try.prog 56 _) goodC_no fun _ h => ?_
  subst h
  refine gC_ok (p := GoodC env Try.prog 56 _) goodC_no fun _ _ h => ?_
  subst h
  refine qS_ok (p := GoodC env Try.prog 56 _) goodC_no fun _ h => ?_
  subst h
  refine vS_ok (p := GoodC env Try.prog 56 _) goodC_no fun _ h => ?_
  subst h
  refine gC_ok (p := GoodC env Try.prog 56 _) goodC_no fun _ _ h => ?_
  subst h
  refine qS_ok (p := GoodC env Try.prog 56 _) goodC_no fun _ h => ?_
  subst h
  refine vI_ok (p := GoodC env Try.prog 56 _) goodC_no fun _ h => ?_
  subst h
  refine gC_ok (p := GoodC env Try.prog 56 _) goodC_no fun _ _ h => ?_
  subst h
  refine qS_ok (p := GoodC env Try.prog 56 _) goodC_no fun _ h => ?_
  subst h
  refine vI_ok (p := GoodC env Try.prog 56 _) goodC_no fun _ h => ?_
  subst h
  refine gC_ok (p := GoodC env Try.prog 56 _) goodC_no fun _ _ h => ?_
  subst h
  refine qS_ok (p := GoodC env Try.prog 56 _) goodC_no fun _ h => ?_
  subst h
  refine vI_ok (p := GoodC env Try.prog 56 _) goodC_no fun _ h => ?_
  subst h
  refine gC_ok (p := GoodC env Try.prog 56 _) goodC_no fun _ _ h => ?_
  subst h
  refine qS_ok (p := GoodC env Try.prog 56 _) goodC_no fun _ h => ?_
  subst h
  refine vI_ok (p := GoodC env Try.prog 56 _) goodC_no fun _ h => ?_
  subst h
  refine gC_ok (p := GoodC env Try.prog 56 _) goodC_no fun _ _ h => ?_
  subst h
  refine qS_ok (p := GoodC env Try.prog 56 _) goodC_no fun _ h => ?_
  subst h
  refine vB_ok (p := GoodC env Try.prog 56 _) goodC_no fun _ h => ?_
  subst h
  refine gC_ok (p := GoodC env Try.prog 56 _) goodC_no fun _ _ h => ?_
  subst h
  refine qS_ok (p := GoodC env Try.prog 56 _) goodC_no fun _ h => ?_
  subst h
  refine vB_ok (p := GoodC env Try.prog 56 _) goodC_no fun _ h => ?_
  subst h
  refine gC_ok (p := GoodC env Try.prog 56 _) goodC_no fun _ _ h => ?_
  subst h
  refine qSl_ok (p := GoodC env Try.prog 56 _) goodC_no fun _ h => ?_
  subst h
  refine gE_ok (p := GoodC env Try.prog 56 _) goodC_no fun h => ?_
  subst h
  refine gE_ok (p := GoodC env Try.prog 56 _) goodC_no fun h => ?_
  subst h
  exact fun_good (fun_sound envOK (cs_sound _ (by exact ⟨⟨f20.sound k, f20.fnok⟩, ⟨f124.sound k, f124.fnok⟩, trivial⟩)) (f56.hok k) Try.func56 rfl) ((f56.ev k _ _ _ _ _ _ _ _ _ _).trans (f56.nat k _ _ _ _ _ _ _ _ _ _ _))
theorem f56.sound (k : Nat) : SoundC env Try.prog 56 (f56.e k).F := soundC_coer (f56.sound0 k) [[.no, .no, .no, .no, .no, .no, .no, .no, .no, .rd 5]]
theorem f56.fnok : FnOK Try.prog 56 := fn_ok Try.func56 (by kernel_rfl) rfl
def f86.step {R : Type} (k : Nat) (ret : Bool → Option R) (a1 : Int) (a2 : Int) (a3 : Int) : Option R :=
  if (decide (a1 ≥ a2)) = true then
    ret (decide (a1 ≤ a3))
  else
    ret false
def f86 (k : Nat) (a1 : Int) (a2 : Int) (a3 : Int) : Option Bool := f86.step k some a1 a2 a3
def f86.w {R : Type} : Bool → (Res env → Option R) → Option R := fun t4 K => K ⟨.v (.c (.s (.bool t4))), [[], [], []]⟩
theorem f86.wn (x : Bool) : ∃ res, ∀ {R : Type} (K : Res env → Option R), f86.w x K = K res := by
  exact ⟨_, fun _ => rfl⟩
def f86.hd (k : Nat) (ps_ : List (P2 env)) : Cl env :=
  gC Cl.no ps_ fun p_ ps_ => qC Cl.no p_ fun c_ => qS Cl.no c_ fun v_ => vI Cl.no .i64 v_ fun a1 => gC Cl.no ps_ fun p_ ps_ => qC Cl.no p_ fun c_ => qS Cl.no c_ fun v_ => vI Cl.no .i64 v_ fun a2 => gC Cl.no ps_ fun p_ ps_ => qC Cl.no p_ fun c_ => qS Cl.no c_ fun v_ => vI Cl.no .i64 v_ fun a3 => gE Cl.no ps_ <| { α := Bool, o := f86 k a1 a2 a3, w := f86.w, nat := fun x _ => f86.wn x }
def f86.e (k : Nat) : Entry env := ⟨f86.hd k, [], []⟩
def f86.X (k : Nat) : Ctx env := { C := lookE [], L := lookE [], J := lookE [], keep := lookD [], keepX := lookD [], span := lookN [], eff := fun n => memN n [], prep := lookP [], np := 0 }
theorem f86.nat {R : Type} (k : Nat) (g : Bool → Option R) (a1 : Int) (a2 : Int) (a3 : Int) : f86.step k g a1 a2 a3 = (f86 k a1 a2 a3).bind g := by
  simp only [f86, f86.step, bind_ite, bind_sum, Option.bind_assoc, Option.bind_some, Option.bind_none]
theorem f86.ev (k : Nat) (a1 : Int) (a2 : Int) (a3 : Int) : evF (f86.X k) (bodyOf Try.f86) Try.f86.ntmps Try.f86.results.toList [.v (.c (.s (.int .i64 a1))), .v (.c (.s (.int .i64 a2))), .v (.c (.s (.int .i64 a3)))] = f86.step k (fun x => f86.w x some) a1 a2 a3 := by kernel_rfl
theorem f86.hok (k : Nat) : HOK (f86.X k) (bodyOf Try.f86) where
  l := allP_mem (by exact trivial)
  j := allP_mem (by exact trivial)
theorem f86.sound (k : Nat) : SoundC env Try.prog 86 ((f86.e k).F) := by
  intro ps_
  show GoodC _ _ _ ps_ (f86.hd k ps_)
  unfold f86.hd
  refine gC_ok (p := GoodC env Try.prog 86 _) goodC_no fun _ _ h => ?_
  subst h
  refine qC_ok (p := GoodC env Try.prog 86 _) goodC_no fun _ h => ?_
  subst h
  refine qS_ok (p := GoodC env Try.prog 86 _) goodC_no fun _ h => ?_
  subst h
  refine vI_ok (p := GoodC env Try.prog 86 _) goodC_no fun _ h => ?_
  subst h
  refine gC_ok (p := GoodC env Try.prog 86 _) goodC_no fun _ _ h => ?_
  subst h
  refine qC_ok (p := GoodC env Try.prog 86 _) goodC_no fun _ h => ?_
  subst h
  refine qS_ok (p := GoodC env Try.prog 86 _) goodC_no fun _ h => ?_
  subst h
  refine vI_ok (p := GoodC env Try.prog 86 _) goodC_no fun _ h => ?_
  subst h
  refine gC_ok (p := GoodC env Try.prog 86 _) goodC_no fun _ _ h => ?_
  subst h
  refine qC_ok (p := GoodC env Try.prog 86 _) goodC_no fun _ h => ?_
  subst h
  refine qS_ok (p := GoodC env Try.prog 86 _) goodC_no fun _ h => ?_
  subst h
  refine vI_ok (p := GoodC env Try.prog 86 _) goodC_no fun _ h => ?_
  subst h
  refine gE_ok (p := GoodC env Try.prog 86 _) goodC_no fun h => ?_
  subst h
  exact fun_good (fun_sound envOK (cs_sound _ (by exact trivial)) (f86.hok k) Try.func86 rfl) ((f86.ev k _ _ _).trans (f86.nat k _ _ _ _))
theorem f86.says (k : Nat) (a1 : Int) (a2 : Int) (a3 : Int) (t5 : Bool) (h_ : f86 k a1 a2 a3 = some t5) : SoundAt env Try.prog 86 [.v (.c (.s (.int .i64 a1))), .v (.c (.s (.int .i64 a2))), .v (.c (.s (.int .i64 a3)))] ⟨.v (.c (.s (.bool t5))), [[], [], []]⟩ :=
  fun_sound envOK (cs_sound _ (by exact trivial)) (f86.hok k) Try.func86 rfl _ _ (((f86.ev k a1 a2 a3).trans (f86.nat k _ a1 a2 a3)).trans (by rw [h_]; rfl))
theorem f86.fnok : FnOK Try.prog 86 := fn_ok Try.func86 (by kernel_rfl) rfl
def f85.step {R : Type} (k : Nat) (ret : Bool → Option R) (a1 : Int) (s2 : ByteArray) (s3 : ByteArray) (a4 : Int) (a5 : Int) (a6 : Int) (a7 : Int) (b8 : Bool) (b9 : Bool) (xs10 : List Int) : Option R :=
  if (decide ((((List.length xs10) : Nat) : Int) > (1500 : Int))) = false then
    (f86 k a4 (0 : Int) (255 : Int)).bind fun t11 => if (!t11) = false then
        (f86 k a5 (0 : Int) (255 : Int)).bind fun t12 => if (!t12) = true then
            ret false
          else
            if (decide (a1 = (4 : Int))) = true then
              if (decide ((((ByteArray.size s2) : Nat) : Int) = (4 : Int))) = true then
                if (decide ((((ByteArray.size s3) : Nat) : Int) = (4 : Int))) = true then
                  (f86 k a6 (0 : Int) (65535 : Int)).bind fun t13 => if t13 = true then
                      (f86 k a7 (0 : Int) (8191 : Int)).bind fun t14 => if t14 = true then
                          if b9 = true then
                            if b8 = false then
                              if (!(decide (a7 > (0 : Int)))) = true then
                                if (!b8) = false then
                                  if (decide ((Int.tmod (((List.length xs10) : Nat) : Int) (8 : Int)) = (0 : Int))) = true then
                                    if (decide ((((List.length xs10) : Nat) : Int) > (0 : Int))) = true then
                                      ret (decide ((IntKind.i64.wrap ((IntKind.i64.wrap ((8 : Int) * a7)) + (((List.length xs10) : Nat) : Int))) ≤ (65515 : Int)))
                                    else
                                      ret false
                                  else
                                    ret false
                                else
                                  ret (decide ((IntKind.i64.wrap ((IntKind.i64.wrap ((8 : Int) * a7)) + (((List.length xs10) : Nat) : Int))) ≤ (65515 : Int)))
                              else
                                ret false
                            else
                              ret false
                          else
                            if (!b8) = false then
                              if (decide ((Int.tmod (((List.length xs10) : Nat) : Int) (8 : Int)) = (0 : Int))) = true then
                                if (decide ((((List.length xs10) : Nat) : Int) > (0 : Int))) = true then
                                  ret (decide ((IntKind.i64.wrap ((IntKind.i64.wrap ((8 : Int) * a7)) + (((List.length xs10) : Nat) : Int))) ≤ (65515 : Int)))
                                else
                                  ret false
                              else
                                ret false
                            else
                              ret (decide ((IntKind.i64.wrap ((IntKind.i64.wrap ((8 : Int) * a7)) + (((List.length xs10) : Nat) : Int))) ≤ (65515 : Int)))
                        else
                          ret false
                    else
                      ret false
                else
                  ret false
              else
                ret false
            else
              if (decide (a1 = (6 : Int))) = true then
                if (decide ((((ByteArray.size s2) : Nat) : Int) = (16 : Int))) = true then
                  if (decide ((((ByteArray.size s3) : Nat) : Int) = (16 : Int))) = true then
                    if (decide (a6 = (0 : Int))) = true then
                      if (decide (a7 = (0 : Int))) = true then
                        if (!b8) = true then
                          ret (!b9)
                        else
                          ret false
                      else
                        ret false
                    else
                      ret false
                  else
                    ret false
                else
                  ret false
              else
                ret false
      else
        ret false
  else
    ret false
def f85 (k : Nat) (a1 : Int) (s2 : ByteArray) (s3 : ByteArray) (a4 : Int) (a5 : Int) (a6 : Int) (a7 : Int) (b8 : Bool) (b9 : Bool) (xs10 : List Int) : Option Bool := f85.step k some a1 s2 s3 a4 a5 a6 a7 b8 b9 xs10
def f85.w {R : Type} : Bool → (Res env → Option R) → Option R := fun t15 K => K ⟨.v (.c (.s (.bool t15))), [[]]⟩
theorem f85.wn (x : Bool) : ∃ res, ∀ {R : Type} (K : Res env → Option R), f85.w x K = K res := by
  exact ⟨_, fun _ => rfl⟩
def f85.hd (k : Nat) (ps_ : List (P2 env)) : Cl env :=
  gC Cl.no ps_ fun p_ ps_ => qG Cl.no p_ fun cs_ => gC Cl.no cs_ fun c_ cs_ => qS Cl.no c_ fun v_ => vI Cl.no .i64 v_ fun a1 => gC Cl.no cs_ fun c_ cs_ => qS Cl.no c_ fun v_ => vS Cl.no v_ fun s2 => gC Cl.no cs_ fun c_ cs_ => qS Cl.no c_ fun v_ => vS Cl.no v_ fun s3 => gC Cl.no cs_ fun c_ cs_ => qS Cl.no c_ fun v_ => vI Cl.no .i64 v_ fun a4 => gC Cl.no cs_ fun c_ cs_ => qS Cl.no c_ fun v_ => vI Cl.no .i64 v_ fun a5 => gC Cl.no cs_ fun c_ cs_ => qS Cl.no c_ fun v_ => vI Cl.no .i64 v_ fun a6 => gC Cl.no cs_ fun c_ cs_ => qS Cl.no c_ fun v_ => vI Cl.no .i64 v_ fun a7 => gC Cl.no cs_ fun c_ cs_ => qS Cl.no c_ fun v_ => vB Cl.no v_ fun b8 => gC Cl.no cs_ fun c_ cs_ => qS Cl.no c_ fun v_ => vB Cl.no v_ fun b9 => gC Cl.no cs_ fun c_ cs_ => qSl Cl.no 5 c_ fun xs10 => gE Cl.no cs_ <| gE Cl.no ps_ <| { α := Bool, o := f85 k a1 s2 s3 a4 a5 a6 a7 b8 b9 xs10, w := f85.w, nat := fun x _ => f85.wn x }
def f85.e (k : Nat) : Entry env := ⟨fun ps => f85.hd k (coer [[.no, .no, .no, .no, .no, .no, .no, .no, .no, .rd 5]] ps), [], []⟩
def f85.X (k : Nat) : Ctx env := { C := lookE [(86, f86.e k)], L := lookE [], J := lookE [], keep := lookD [], keepX := lookD [], span := lookN [], eff := fun n => memN n [], prep := lookP [], np := 0 }
theorem f85.nat {R : Type} (k : Nat) (g : Bool → Option R) (a1 : Int) (s2 : ByteArray) (s3 : ByteArray) (a4 : Int) (a5 : Int) (a6 : Int) (a7 : Int) (b8 : Bool) (b9 : Bool) (xs10 : List Int) : f85.step k g a1 s2 s3 a4 a5 a6 a7 b8 b9 xs10 = (f85 k a1 s2 s3 a4 a5 a6 a7 b8 b9 xs10).bind g := by
  simp only [f85, f85.step, bind_ite, bind_sum, Option.bind_assoc, Option.bind_some, Option.bind_none]
theorem f85.ev (k : Nat) (a1 : Int) (s2 : ByteArray) (s3 : ByteArray) (a4 : Int) (a5 : Int) (a6 : Int) (a7 : Int) (b8 : Bool) (b9 : Bool) (xs10 : List Int) : evF (f85.X k) (bodyOf Try.f85) Try.f85.ntmps Try.f85.results.toList [.g [.s (.int .i64 a1), .s (.string s2), .s (.string s3), .s (.int .i64 a4), .s (.int .i64 a5), .s (.int .i64 a6), .s (.int .i64 a7), .s (.bool b8), .s (.bool b9), .sl 5 xs10]] = f85.step k (fun x => f85.w x some) a1 s2 s3 a4 a5 a6 a7 b8 b9 xs10 := by kernel_rfl
theorem f85.hok (k : Nat) : HOK (f85.X k) (bodyOf Try.f85) where
  l := allP_mem (by exact trivial)
  j := allP_mem (by exact trivial)
theorem f85.sound0 (k : Nat) : SoundC env Try.prog 85 (f85.hd k) := by
  intro ps_
  show GoodC _ _ _ ps_ (f85.hd k ps_)
  unfold f85.hd
  refine gC_ok (p := GoodC env Try.prog 85 _) goodC_no fun _ _ h => ?_
  subst h
  refine qG_ok (p := GoodC env Try.prog 85 _) goodC_no fun _ h => ?_
  subst h
  refine gC_ok (p := GoodC env Try.prog 85 _) goodC_no fun _ _ h => ?_
  subst h
  refine qS_ok (p := GoodC env Try.prog 85 _) goodC_no fun _ h => ?_
  subst h
  refine vI_ok (p := GoodC env Try.prog 85 _) goodC_no fun _ h => ?_
  subst h
  refine gC_ok (p := GoodC env Try.prog 85 _) goodC_no fun _ _ h => ?_
  subst h
  refine qS_ok (p := GoodC env Try.prog 85 _) goodC_no fun _ h => ?_
  subst h
  refine vS_ok (p := GoodC env Try.prog 85 _) goodC_no fun _ h => ?_
  subst h
  refine gC_ok (p := GoodC env Try.prog 85 _) goodC_no fun _ _ h => ?_
  subst h
  refine qS_ok (p := GoodC env Try.prog 85 _) goodC_no fun _ h => ?_
  subst h
  refine vS_ok (p := GoodC env Try.prog 85 _) goodC_no fun _ h => ?_
  subst h
  refine gC_ok (p := GoodC env Try.prog 85 _) goodC_no fun _ _ h => ?_
  subst h
  refine qS_ok (p := GoodC env Try.prog 85 _) goodC_no fun _ h => ?_
  subst h
  refine vI_ok (p := GoodC env Try.prog 85 _) goodC_no fun _ h => ?_
  subst h
  refine gC_ok (p := GoodC env Try.prog 85 _) goodC_no fun _ _ h => ?_
  subst h
  refine qS_ok (p := GoodC env Try.prog 85 _) goodC_no fun _ h => ?_
  subst h
  refine vI_ok (p := GoodC env Try.prog 85 _) goodC_no fun _ h => ?_
  subst h
  refine gC_ok (p := GoodC env Try.prog 85 _) goodC_no fun _ _ h => ?_
  subst h
  refine qS_ok (p := GoodC env Try.prog 85 _) goodC_no fun _ h => ?_
  subst h
  refine vI_ok (p := GoodC env Try.prog 85 _) goodC_no fun _ h => ?_
  subst h
  refine gC_ok (p := GoodC env Try.prog 85 _) goodC_no fun _ _ h => ?_
  subst h
  refine qS_ok (p := GoodC env Try.prog 85 _) goodC_no fun _ h => ?_
  subst h
  refine vI_ok (p := GoodC env Try.prog 85 _) goodC_no fun _ h => ?_
  subst h
  refine gC_ok (p := GoodC env Try.prog 85 _) goodC_no fun _ _ h => ?_
  subst h
  refine qS_ok (p := GoodC env Try.prog 85 _) goodC_no fun _ h => ?_
  subst h
  refine vB_ok (p := GoodC env Try.prog 85 _) goodC_no fun _ h => ?_
  subst h
  refine gC_ok (p := GoodC env Try.prog 85 _) goodC_no fun _ _ h => ?_
  subst h
  refine qS_ok (p := GoodC env Try.prog 85 _) goodC_no fun _ h => ?_
  subst h
  refine vB_ok (p := GoodC env Try.prog 85 _) goodC_no fun _ h => ?_
  subst h
  refine gC_ok (p := GoodC env Try.prog 85 _) goodC_no fun _ _ h => ?_
  subst h
  refine qSl_ok (p := GoodC env Try.prog 85 _) goodC_no fun _ h => ?_
  subst h
  refine gE_ok (p := GoodC env Try.prog 85 _) goodC_no fun h => ?_
  subst h
  refine gE_ok (p := GoodC env Try.prog 85 _) goodC_no fun h => ?_
  subst h
  exact fun_good (fun_sound envOK (cs_sound _ (by exact ⟨⟨f86.sound k, f86.fnok⟩, trivial⟩)) (f85.hok k) Try.func85 rfl) ((f85.ev k _ _ _ _ _ _ _ _ _ _).trans (f85.nat k _ _ _ _ _ _ _ _ _ _ _))
theorem f85.sound (k : Nat) : SoundC env Try.prog 85 (f85.e k).F := soundC_coer (f85.sound0 k) [[.no, .no, .no, .no, .no, .no, .no, .no, .no, .rd 5]]
theorem f85.says (k : Nat) (a1 : Int) (s2 : ByteArray) (s3 : ByteArray) (a4 : Int) (a5 : Int) (a6 : Int) (a7 : Int) (b8 : Bool) (b9 : Bool) (xs10 : List Int) (t16 : Bool) (h_ : f85 k a1 s2 s3 a4 a5 a6 a7 b8 b9 xs10 = some t16) : SoundAt env Try.prog 85 [.g [.s (.int .i64 a1), .s (.string s2), .s (.string s3), .s (.int .i64 a4), .s (.int .i64 a5), .s (.int .i64 a6), .s (.int .i64 a7), .s (.bool b8), .s (.bool b9), .sl 5 xs10]] ⟨.v (.c (.s (.bool t16))), [[]]⟩ :=
  fun_sound envOK (cs_sound _ (by exact ⟨⟨f86.sound k, f86.fnok⟩, trivial⟩)) (f85.hok k) Try.func85 rfl _ _ (((f85.ev k a1 s2 s3 a4 a5 a6 a7 b8 b9 xs10).trans (f85.nat k _ a1 s2 s3 a4 a5 a6 a7 b8 b9 xs10)).trans (by rw [h_]; rfl))
theorem f85.fnok : FnOK Try.prog 85 := fn_ok Try.func85 (by kernel_rfl) rfl
def f169.step {R : Type} (k : Nat) (ret : ((List Int)) → Option R) (a1 : Int) : Option R :=
  ret ([(IntKind.u8.wrap (IntKind.i64.wrap (Int.tdiv a1 (256 : Int)))), (IntKind.u8.wrap (Int.tmod a1 (256 : Int)))] : List Int)
def f169 (k : Nat) (a1 : Int) : Option ((List Int)) := f169.step k some a1
def f169.w {R : Type} : ((List Int)) → (Res env → Option R) → Option R := fun t2 K => K ⟨.v (.c (.own true 5 t2)), [[]]⟩
theorem f169.wn (x : ((List Int))) : ∃ res, ∀ {R : Type} (K : Res env → Option R), f169.w x K = K res := by
  exact ⟨_, fun _ => rfl⟩
def f169.hd (k : Nat) (ps_ : List (P2 env)) : Cl env :=
  gC Cl.no ps_ fun p_ ps_ => qC Cl.no p_ fun c_ => qS Cl.no c_ fun v_ => vI Cl.no .i64 v_ fun a1 => gE Cl.no ps_ <| { α := (List Int), o := f169 k a1, w := f169.w, nat := fun x _ => f169.wn x }
def f169.e (k : Nat) : Entry env := ⟨f169.hd k, [], []⟩
def f169.X (k : Nat) : Ctx env := { C := lookE [], L := lookE [], J := lookE [], keep := lookD [], keepX := lookD [], span := lookN [], eff := fun n => memN n [], prep := lookP [], np := 0 }
theorem f169.nat {R : Type} (k : Nat) (g : ((List Int)) → Option R) (a1 : Int) : f169.step k g a1 = (f169 k a1).bind g := by
  simp only [f169, f169.step, bind_ite, bind_sum, Option.bind_assoc, Option.bind_some, Option.bind_none]
theorem f169.ev (k : Nat) (a1 : Int) : evF (f169.X k) (bodyOf Try.f169) Try.f169.ntmps Try.f169.results.toList [.v (.c (.s (.int .i64 a1)))] = f169.step k (fun x => f169.w x some) a1 := by kernel_rfl
theorem f169.hok (k : Nat) : HOK (f169.X k) (bodyOf Try.f169) where
  l := allP_mem (by exact trivial)
  j := allP_mem (by exact trivial)
theorem f169.sound (k : Nat) : SoundC env Try.prog 169 ((f169.e k).F) := by
  intro ps_
  show GoodC _ _ _ ps_ (f169.hd k ps_)
  unfold f169.hd
  refine gC_ok (p := GoodC env Try.prog 169 _) goodC_no fun _ _ h => ?_
  subst h
  refine qC_ok (p := GoodC env Try.prog 169 _) goodC_no fun _ h => ?_
  subst h
  refine qS_ok (p := GoodC env Try.prog 169 _) goodC_no fun _ h => ?_
  subst h
  refine vI_ok (p := GoodC env Try.prog 169 _) goodC_no fun _ h => ?_
  subst h
  refine gE_ok (p := GoodC env Try.prog 169 _) goodC_no fun h => ?_
  subst h
  exact fun_good (fun_sound envOK (cs_sound _ (by exact trivial)) (f169.hok k) Try.func169 rfl) ((f169.ev k _).trans (f169.nat k _ _))
theorem f169.says (k : Nat) (a1 : Int) (t3 : (List Int)) (h_ : f169 k a1 = some t3) : SoundAt env Try.prog 169 [.v (.c (.s (.int .i64 a1)))] ⟨.v (.c (.own true 5 t3)), [[]]⟩ :=
  fun_sound envOK (cs_sound _ (by exact trivial)) (f169.hok k) Try.func169 rfl _ _ (((f169.ev k a1).trans (f169.nat k _ a1)).trans (by rw [h_]; rfl))
theorem f169.fnok : FnOK Try.prog 169 := fn_ok Try.func169 (by kernel_rfl) rfl
def f99.step {R : Type} (k : Nat) (ret : Int → Option R) (b1 : Bool) (a2 : Int) : Option R :=
  if b1 = true then
    ret a2
  else
    ret (0 : Int)
def f99 (k : Nat) (b1 : Bool) (a2 : Int) : Option Int := f99.step k some b1 a2
def f99.w {R : Type} : Int → (Res env → Option R) → Option R := fun t3 K => K ⟨.v (.c (.s (.int .i64 t3))), [[], []]⟩
theorem f99.wn (x : Int) : ∃ res, ∀ {R : Type} (K : Res env → Option R), f99.w x K = K res := by
  exact ⟨_, fun _ => rfl⟩
def f99.hd (k : Nat) (ps_ : List (P2 env)) : Cl env :=
  gC Cl.no ps_ fun p_ ps_ => qC Cl.no p_ fun c_ => qS Cl.no c_ fun v_ => vB Cl.no v_ fun b1 => gC Cl.no ps_ fun p_ ps_ => qC Cl.no p_ fun c_ => qS Cl.no c_ fun v_ => vI Cl.no .i64 v_ fun a2 => gE Cl.no ps_ <| { α := Int, o := f99 k b1 a2, w := f99.w, nat := fun x _ => f99.wn x }
def f99.e (k : Nat) : Entry env := ⟨f99.hd k, [], []⟩
def f99.X (k : Nat) : Ctx env := { C := lookE [], L := lookE [], J := lookE [], keep := lookD [], keepX := lookD [], span := lookN [], eff := fun n => memN n [], prep := lookP [], np := 0 }
theorem f99.nat {R : Type} (k : Nat) (g : Int → Option R) (b1 : Bool) (a2 : Int) : f99.step k g b1 a2 = (f99 k b1 a2).bind g := by
  simp only [f99, f99.step, bind_ite, bind_sum, Option.bind_assoc, Option.bind_some, Option.bind_none]
theorem f99.ev (k : Nat) (b1 : Bool) (a2 : Int) : evF (f99.X k) (bodyOf Try.f99) Try.f99.ntmps Try.f99.results.toList [.v (.c (.s (.bool b1))), .v (.c (.s (.int .i64 a2)))] = f99.step k (fun x => f99.w x some) b1 a2 := by kernel_rfl
theorem f99.hok (k : Nat) : HOK (f99.X k) (bodyOf Try.f99) where
  l := allP_mem (by exact trivial)
  j := allP_mem (by exact trivial)
theorem f99.sound (k : Nat) : SoundC env Try.prog 99 ((f99.e k).F) := by
  intro ps_
  show GoodC _ _ _ ps_ (f99.hd k ps_)
  unfold f99.hd
  refine gC_ok (p := GoodC env Try.prog 99 _) goodC_no fun _ _ h => ?_
  subst h
  refine qC_ok (p := GoodC env Try.prog 99 _) goodC_no fun _ h => ?_
  subst h
  refine qS_ok (p := GoodC env Try.prog 99 _) goodC_no fun _ h => ?_
  subst h
  refine vB_ok (p := GoodC env Try.prog 99 _) goodC_no fun _ h => ?_
  subst h
  refine gC_ok (p := GoodC env Try.prog 99 _) goodC_no fun _ _ h => ?_
  subst h
  refine qC_ok (p := GoodC env Try.prog 99 _) goodC_no fun _ h => ?_
  subst h
  refine qS_ok (p := GoodC env Try.prog 99 _) goodC_no fun _ h => ?_
  subst h
  refine vI_ok (p := GoodC env Try.prog 99 _) goodC_no fun _ h => ?_
  subst h
  refine gE_ok (p := GoodC env Try.prog 99 _) goodC_no fun h => ?_
  subst h
  exact fun_good (fun_sound envOK (cs_sound _ (by exact trivial)) (f99.hok k) Try.func99 rfl) ((f99.ev k _ _).trans (f99.nat k _ _ _))
theorem f99.says (k : Nat) (b1 : Bool) (a2 : Int) (t4 : Int) (h_ : f99 k b1 a2 = some t4) : SoundAt env Try.prog 99 [.v (.c (.s (.bool b1))), .v (.c (.s (.int .i64 a2)))] ⟨.v (.c (.s (.int .i64 t4))), [[], []]⟩ :=
  fun_sound envOK (cs_sound _ (by exact trivial)) (f99.hok k) Try.func99 rfl _ _ (((f99.ev k b1 a2).trans (f99.nat k _ b1 a2)).trans (by rw [h_]; rfl))
theorem f99.fnok : FnOK Try.prog 99 := fn_ok Try.func99 (by kernel_rfl) rfl
def f151.l3.step {R : Type} (k : Nat) (rec_ : (List Int) → Int → Int → Option R) (ret : Int → Option R) (xs2 : List Int) (a3 : Int) (a4 : Int) : Option R :=
  if (decide (a4 < (((List.length xs2) : Nat) : Int))) = true then
    if (decide ((Int.tmod a4 (2 : Int)) = (0 : Int))) = true then
      if (0 : Int) ≤ a4 then
        if a4 < ((List.length xs2 : Nat) : Int) then
          rec_ xs2 (IntKind.i64.wrap (a3 + (IntKind.i64.wrap ((IntKind.i64.wrap (List.getD xs2 (Int.toNat a4) (0 : Int))) * (256 : Int))))) (IntKind.i64.wrap (a4 + (1 : Int)))
        else none
      else none
    else
      if (0 : Int) ≤ a4 then
        if a4 < ((List.length xs2 : Nat) : Int) then
          rec_ xs2 (IntKind.i64.wrap (a3 + (IntKind.i64.wrap (List.getD xs2 (Int.toNat a4) (0 : Int))))) (IntKind.i64.wrap (a4 + (1 : Int)))
        else none
      else none
  else
    ret a3
def f151.l3 (k : Nat) : Nat → (List Int) → Int → Int → Option Int
  | 0, _, _, _ => none
  | j + 1, xs2, a3, a4 => f151.l3.step k (fun xs2 a3 a4 => f151.l3 k j xs2 a3 a4) some xs2 a3 a4
def f151.l3.w {R : Type} : Int → (Exit → St env → Option R) → Option R := fun t8 K => K (.exit 0) ⟨fullT [3] 0 38 [.v (.c (.s (.int .i64 t8)))], [], 353⟩
def f151.l3.st (xs2 : List Int) (a3 : Int) (a4 : Int) : St env := ⟨fullT [0, 3, 4] 0 38 [.v (.c (.imm 5 xs2)), .v (.c (.s (.int .i64 a3))), .v (.c (.s (.int .i64 a4)))], [], 49⟩
def f151.l8.step {R : Type} (k : Nat) (rec_ : Int → Option R) (ret : Int → Option R) (a6 : Int) : Option R :=
  if (decide (a6 > (65535 : Int))) = true then
    rec_ (IntKind.i64.wrap ((Int.tmod a6 (65536 : Int)) + (IntKind.i64.wrap (Int.tdiv a6 (65536 : Int)))))
  else
    ret a6
def f151.l8 (k : Nat) : Nat → Int → Option Int
  | 0, _ => none
  | j + 1, a6 => f151.l8.step k (fun a6 => f151.l8 k j a6) some a6
def f151.l8.w {R : Type} : Int → (Exit → St env → Option R) → Option R := fun t9 K => K (.exit 2) ⟨fullT [3] 0 38 [.v (.c (.s (.int .i64 t9)))], [], 481⟩
def f151.l8.st (a6 : Int) : St env := ⟨fullT [3] 0 38 [.v (.c (.s (.int .i64 a6)))], [], 353⟩
def f151.l3.hd (k : Nat) (ts_ : List (AV env)) (mm_ : Mem env) (n_ : Nat) : LCl env :=
  gTs LCl.no [0, 3, 4] 38 ts_ fun l_ => gV LCl.no l_ fun a_ l_ => rImm LCl.no 5 a_ fun xs2 => gV LCl.no l_ fun a_ l_ => rV LCl.no a_ fun v_ => vI LCl.no .i64 v_ fun a3 => gV LCl.no l_ fun a_ l_ => rV LCl.no a_ fun v_ => vI LCl.no .i64 v_ fun a4 => gE LCl.no l_ <| gE LCl.no mm_ <| gN LCl.no 49 n_ { α := Int, o := f151.l3 k k xs2 a3 a4, w := f151.l3.w }
def f151.l8.hd (k : Nat) (ts_ : List (AV env)) (mm_ : Mem env) (n_ : Nat) : LCl env :=
  gTs LCl.no [3] 38 ts_ fun l_ => gV LCl.no l_ fun a_ l_ => rV LCl.no a_ fun v_ => vI LCl.no .i64 v_ fun a6 => gE LCl.no l_ <| gE LCl.no mm_ <| gN LCl.no 353 n_ { α := Int, o := f151.l8 k k a6, w := f151.l8.w }
def f151.step {R : Type} (k : Nat) (ret : Int → Option R) (xs1 : List Int) : Option R :=
  (f151.l3 k k xs1 (0 : Int) (0 : Int)).bind fun t5 => (f151.l8 k k t5).bind fun t7 => ret (IntKind.i64.wrap ((65535 : Int) - t7))
def f151 (k : Nat) (xs1 : List Int) : Option Int := f151.step k some xs1
def f151.w {R : Type} : Int → (Res env → Option R) → Option R := fun t10 K => K ⟨.v (.c (.s (.int .i64 t10))), [[]]⟩
theorem f151.wn (x : Int) : ∃ res, ∀ {R : Type} (K : Res env → Option R), f151.w x K = K res := by
  exact ⟨_, fun _ => rfl⟩
def f151.hd (k : Nat) (ps_ : List (P2 env)) : Cl env :=
  gC Cl.no ps_ fun p_ ps_ => qC Cl.no p_ fun c_ => qSl Cl.no 5 c_ fun xs1 => gE Cl.no ps_ <| { α := Int, o := f151 k xs1, w := f151.w, nat := fun x _ => f151.wn x }
def f151.e (k : Nat) : Entry env := ⟨fun ps => f151.hd k (coer [[.rd 5]] ps), [], []⟩
def f151.X (k : Nat) : Ctx env := { C := lookE [], L := lookE [(3, fun S => f151.l3.hd k S.ts S.m S.n), (8, fun S => f151.l8.hd k S.ts S.m S.n)], J := lookE [], keep := lookD [(3, [0, 3, 4]), (8, [3])], keepX := lookD [(3, [3]), (8, [3])], span := lookN [(3, 304), (8, 128)], eff := fun n => memN n [], prep := lookP [], np := 0 }
theorem f151.l3.nat {R : Type} (k : Nat) (rec_ : (List Int) → Int → Int → Option Int) (g : Int → Option R) (xs2 : List Int) (a3 : Int) (a4 : Int) : (f151.l3.step k rec_ some xs2 a3 a4).bind g = f151.l3.step k (fun xs2 a3 a4 => (rec_ xs2 a3 a4).bind g) g xs2 a3 a4 := by
  simp only [f151.l3.step, bind_ite, bind_sum, Option.bind_assoc, Option.bind_some, Option.bind_none]
theorem f151.l3.good (k : Nat) (xs2 : List Int) (a3 : Int) (a4 : Int) : GoodL (f151.X k) (nthC 0 (loopsOf (bodyOf Try.f151))) (f151.l3.st xs2 a3 a4) { α := Int, o := f151.l3 k k xs2 a3 a4, w := f151.l3.w } :=
  loop_good (ι := (List Int) × Int × Int) (α := Int) (fun i => f151.l3.st i.1 i.2.1 i.2.2) (fun j i => f151.l3 k j i.1 i.2.1 i.2.2) f151.l3.w (fun rec_ ret i => f151.l3.step k (fun xs2 a3 a4 => rec_ (xs2, a3, a4)) ret i.1 i.2.1 i.2.2)
    (fun _ => rfl) (fun _ _ => rfl) (fun rec_ g i => f151.l3.nat k _ g i.1 i.2.1 i.2.2) (fun {R} i0 i rec_ K => by kernel_rfl) k (xs2, a3, a4)
theorem f151.l3.all (k : Nat) (S : St env) : GoodL (f151.X k) (nthC 0 (loopsOf (bodyOf Try.f151))) S (f151.l3.hd k S.ts S.m S.n) := by
  obtain ⟨ts_, m_, n_⟩ := S
  show GoodL _ _ _ (f151.l3.hd k ts_ m_ n_)
  unfold f151.l3.hd
  refine gTs_ok (p := GoodL _ _ _) goodL_no fun _ h => ?_
  subst h
  refine gV_ok (p := GoodL _ _ _) goodL_no fun _ _ h => ?_
  subst h
  refine rImm_ok (p := GoodL _ _ _) goodL_no fun _ h => ?_
  subst h
  refine gV_ok (p := GoodL _ _ _) goodL_no fun _ _ h => ?_
  subst h
  refine rV_ok (p := GoodL _ _ _) goodL_no fun _ h => ?_
  subst h
  refine vI_ok (p := GoodL _ _ _) goodL_no fun _ h => ?_
  subst h
  refine gV_ok (p := GoodL _ _ _) goodL_no fun _ _ h => ?_
  subst h
  refine rV_ok (p := GoodL _ _ _) goodL_no fun _ h => ?_
  subst h
  refine vI_ok (p := GoodL _ _ _) goodL_no fun _ h => ?_
  subst h
  refine gE_ok (p := GoodL _ _ _) goodL_no fun h => ?_
  subst h
  refine gE_ok (p := GoodL _ _ _) goodL_no fun h => ?_
  subst h
  refine gN_ok (p := GoodL _ _ _) goodL_no fun h => ?_
  subst h
  exact f151.l3.good k _ _ _
theorem f151.l8.nat {R : Type} (k : Nat) (rec_ : Int → Option Int) (g : Int → Option R) (a6 : Int) : (f151.l8.step k rec_ some a6).bind g = f151.l8.step k (fun a6 => (rec_ a6).bind g) g a6 := by
  simp only [f151.l8.step, bind_ite, bind_sum, Option.bind_assoc, Option.bind_some, Option.bind_none]
theorem f151.l8.good (k : Nat) (a6 : Int) : GoodL (f151.X k) (nthC 1 (loopsOf (bodyOf Try.f151))) (f151.l8.st a6) { α := Int, o := f151.l8 k k a6, w := f151.l8.w } :=
  loop_good (ι := Int) (α := Int) (fun i => f151.l8.st i) (fun j i => f151.l8 k j i) f151.l8.w (fun rec_ ret i => f151.l8.step k (fun a6 => rec_ a6) ret i)
    (fun _ => rfl) (fun _ _ => rfl) (fun rec_ g i => f151.l8.nat k _ g i) (fun {R} i0 i rec_ K => by kernel_rfl) k a6
theorem f151.l8.all (k : Nat) (S : St env) : GoodL (f151.X k) (nthC 1 (loopsOf (bodyOf Try.f151))) S (f151.l8.hd k S.ts S.m S.n) := by
  obtain ⟨ts_, m_, n_⟩ := S
  show GoodL _ _ _ (f151.l8.hd k ts_ m_ n_)
  unfold f151.l8.hd
  refine gTs_ok (p := GoodL _ _ _) goodL_no fun _ h => ?_
  subst h
  refine gV_ok (p := GoodL _ _ _) goodL_no fun _ _ h => ?_
  subst h
  refine rV_ok (p := GoodL _ _ _) goodL_no fun _ h => ?_
  subst h
  refine vI_ok (p := GoodL _ _ _) goodL_no fun _ h => ?_
  subst h
  refine gE_ok (p := GoodL _ _ _) goodL_no fun h => ?_
  subst h
  refine gE_ok (p := GoodL _ _ _) goodL_no fun h => ?_
  subst h
  refine gN_ok (p := GoodL _ _ _) goodL_no fun h => ?_
  subst h
  exact f151.l8.good k _
theorem f151.nat {R : Type} (k : Nat) (g : Int → Option R) (xs1 : List Int) : f151.step k g xs1 = (f151 k xs1).bind g := by
  simp only [f151, f151.step, bind_ite, bind_sum, Option.bind_assoc, Option.bind_some, Option.bind_none]
theorem f151.ev (k : Nat) (xs1 : List Int) : evF (f151.X k) (bodyOf Try.f151) Try.f151.ntmps Try.f151.results.toList [.v (.c (.sl 5 xs1))] = f151.step k (fun x => f151.w x some) xs1 := by kernel_rfl
theorem f151.hok (k : Nat) : HOK (f151.X k) (bodyOf Try.f151) where
  l := allP_mem (by exact ⟨ls_of (h0 := fun S => f151.l3.hd k S.ts S.m S.n) (by kernel_rfl) (f151.l3.all k), ls_of (h0 := fun S => f151.l8.hd k S.ts S.m S.n) (by kernel_rfl) (f151.l8.all k), trivial⟩)
  j := allP_mem (by exact trivial)
theorem f151.sound0 (k : Nat) : SoundC env Try.prog 151 (f151.hd k) := by
  intro ps_
  show GoodC _ _ _ ps_ (f151.hd k ps_)
  unfold f151.hd
  refine gC_ok (p := GoodC env Try.prog 151 _) goodC_no fun _ _ h => ?_
  subst h
  refine qC_ok (p := GoodC env Try.prog 151 _) goodC_no fun _ h => ?_
  subst h
  refine qSl_ok (p := GoodC env Try.prog 151 _) goodC_no fun _ h => ?_
  subst h
  refine gE_ok (p := GoodC env Try.prog 151 _) goodC_no fun h => ?_
  subst h
  exact fun_good (fun_sound envOK (cs_sound _ (by exact trivial)) (f151.hok k) Try.func151 rfl) ((f151.ev k _).trans (f151.nat k _ _))
theorem f151.sound (k : Nat) : SoundC env Try.prog 151 (f151.e k).F := soundC_coer (f151.sound0 k) [[.rd 5]]
theorem f151.says (k : Nat) (xs1 : List Int) (t11 : Int) (h_ : f151 k xs1 = some t11) : SoundAt env Try.prog 151 [.v (.c (.sl 5 xs1))] ⟨.v (.c (.s (.int .i64 t11))), [[]]⟩ :=
  fun_sound envOK (cs_sound _ (by exact trivial)) (f151.hok k) Try.func151 rfl _ _ (((f151.ev k xs1).trans (f151.nat k _ xs1)).trans (by rw [h_]; rfl))
theorem f151.fnok : FnOK Try.prog 151 := fn_ok Try.func151 (by kernel_rfl) rfl
def f125.step {R : Type} (k : Nat) (ret : ((List Int)) → Option R) (a1 : Int) (s2 : ByteArray) (s3 : ByteArray) (a4 : Int) (a5 : Int) (a6 : Int) (a7 : Int) (b8 : Bool) (b9 : Bool) (xs10 : List Int) : Option R :=
  if (decide (a1 = (6 : Int))) = true then
    (f169 k (((List.length xs10) : Nat) : Int)).bind fun t11 => if (List.length ([(96 : Int), (0 : Int), (0 : Int), (0 : Int)] : List Int) + List.length t11) * 1 ≤ maxN then
        if (List.length (([(96 : Int), (0 : Int), (0 : Int), (0 : Int)] : List Int) ++ t11) + List.length ([(IntKind.u8.wrap a5), (IntKind.u8.wrap a4)] : List Int)) * 1 ≤ maxN then
          if List.length ((([(96 : Int), (0 : Int), (0 : Int), (0 : Int)] : List Int) ++ t11) ++ ([(IntKind.u8.wrap a5), (IntKind.u8.wrap a4)] : List Int)) + List.length (bytesOf s2) ≤ maxN then
            if List.length (((([(96 : Int), (0 : Int), (0 : Int), (0 : Int)] : List Int) ++ t11) ++ ([(IntKind.u8.wrap a5), (IntKind.u8.wrap a4)] : List Int)) ++ (bytesOf s2)) + List.length (bytesOf s3) ≤ maxN then
              if (List.length ((((([(96 : Int), (0 : Int), (0 : Int), (0 : Int)] : List Int) ++ t11) ++ ([(IntKind.u8.wrap a5), (IntKind.u8.wrap a4)] : List Int)) ++ (bytesOf s2)) ++ (bytesOf s3)) + List.length xs10) * 1 ≤ maxN then
                ret (((((([(96 : Int), (0 : Int), (0 : Int), (0 : Int)] : List Int) ++ t11) ++ ([(IntKind.u8.wrap a5), (IntKind.u8.wrap a4)] : List Int)) ++ (bytesOf s2)) ++ (bytesOf s3)) ++ xs10)
              else none
            else none
          else none
        else none
      else none
  else
    (f169 k (IntKind.i64.wrap ((20 : Int) + (((List.length xs10) : Nat) : Int)))).bind fun t12 => if (List.length ([(69 : Int), (0 : Int)] : List Int) + List.length t12) * 1 ≤ maxN then
        (f169 k a6).bind fun t13 => if (List.length (([(69 : Int), (0 : Int)] : List Int) ++ t12) + List.length t13) * 1 ≤ maxN then
            (f99 k b9 (16384 : Int)).bind fun t14 => (f99 k b8 (8192 : Int)).bind fun t15 => (f169 k (IntKind.i64.wrap ((IntKind.i64.wrap (t14 + t15)) + a7))).bind fun t16 => if (List.length ((([(69 : Int), (0 : Int)] : List Int) ++ t12) ++ t13) + List.length t16) * 1 ≤ maxN then
                    if (List.length (((([(69 : Int), (0 : Int)] : List Int) ++ t12) ++ t13) ++ t16) + List.length ([(IntKind.u8.wrap a4), (IntKind.u8.wrap a5), (0 : Int), (0 : Int)] : List Int)) * 1 ≤ maxN then
                      if List.length ((((([(69 : Int), (0 : Int)] : List Int) ++ t12) ++ t13) ++ t16) ++ ([(IntKind.u8.wrap a4), (IntKind.u8.wrap a5), (0 : Int), (0 : Int)] : List Int)) + List.length (bytesOf s2) ≤ maxN then
                        if List.length (((((([(69 : Int), (0 : Int)] : List Int) ++ t12) ++ t13) ++ t16) ++ ([(IntKind.u8.wrap a4), (IntKind.u8.wrap a5), (0 : Int), (0 : Int)] : List Int)) ++ (bytesOf s2)) + List.length (bytesOf s3) ≤ maxN then
                          (f151 k ((((((([(69 : Int), (0 : Int)] : List Int) ++ t12) ++ t13) ++ t16) ++ ([(IntKind.u8.wrap a4), (IntKind.u8.wrap a5), (0 : Int), (0 : Int)] : List Int)) ++ (bytesOf s2)) ++ (bytesOf s3))).bind fun t17 => if (10 : Int) < ((List.length ((((((([(69 : Int), (0 : Int)] : List Int) ++ t12) ++ t13) ++ t16) ++ ([(IntKind.u8.wrap a4), (IntKind.u8.wrap a5), (0 : Int), (0 : Int)] : List Int)) ++ (bytesOf s2)) ++ (bytesOf s3)) : Nat) : Int) then
                              if (11 : Int) < ((List.length (List.set ((((((([(69 : Int), (0 : Int)] : List Int) ++ t12) ++ t13) ++ t16) ++ ([(IntKind.u8.wrap a4), (IntKind.u8.wrap a5), (0 : Int), (0 : Int)] : List Int)) ++ (bytesOf s2)) ++ (bytesOf s3)) 10 (IntKind.u8.wrap (IntKind.i64.wrap (Int.tdiv t17 (256 : Int))))) : Nat) : Int) then
                                if (List.length (List.set (List.set ((((((([(69 : Int), (0 : Int)] : List Int) ++ t12) ++ t13) ++ t16) ++ ([(IntKind.u8.wrap a4), (IntKind.u8.wrap a5), (0 : Int), (0 : Int)] : List Int)) ++ (bytesOf s2)) ++ (bytesOf s3)) 10 (IntKind.u8.wrap (IntKind.i64.wrap (Int.tdiv t17 (256 : Int))))) 11 (IntKind.u8.wrap (Int.tmod t17 (256 : Int)))) + List.length xs10) * 1 ≤ maxN then
                                  ret ((List.set (List.set ((((((([(69 : Int), (0 : Int)] : List Int) ++ t12) ++ t13) ++ t16) ++ ([(IntKind.u8.wrap a4), (IntKind.u8.wrap a5), (0 : Int), (0 : Int)] : List Int)) ++ (bytesOf s2)) ++ (bytesOf s3)) 10 (IntKind.u8.wrap (IntKind.i64.wrap (Int.tdiv t17 (256 : Int))))) 11 (IntKind.u8.wrap (Int.tmod t17 (256 : Int)))) ++ xs10)
                                else none
                              else none
                            else none
                        else none
                      else none
                    else none
                  else none
          else none
      else none
def f125 (k : Nat) (a1 : Int) (s2 : ByteArray) (s3 : ByteArray) (a4 : Int) (a5 : Int) (a6 : Int) (a7 : Int) (b8 : Bool) (b9 : Bool) (xs10 : List Int) : Option ((List Int)) := f125.step k some a1 s2 s3 a4 a5 a6 a7 b8 b9 xs10
def f125.w {R : Type} : ((List Int)) → (Res env → Option R) → Option R := fun t18 K => K ⟨.v (.c (.own true 5 t18)), [[]]⟩
theorem f125.wn (x : ((List Int))) : ∃ res, ∀ {R : Type} (K : Res env → Option R), f125.w x K = K res := by
  exact ⟨_, fun _ => rfl⟩
def f125.hd (k : Nat) (ps_ : List (P2 env)) : Cl env :=
  gC Cl.no ps_ fun p_ ps_ => qG Cl.no p_ fun cs_ => gC Cl.no cs_ fun c_ cs_ => qS Cl.no c_ fun v_ => vI Cl.no .i64 v_ fun a1 => gC Cl.no cs_ fun c_ cs_ => qS Cl.no c_ fun v_ => vS Cl.no v_ fun s2 => gC Cl.no cs_ fun c_ cs_ => qS Cl.no c_ fun v_ => vS Cl.no v_ fun s3 => gC Cl.no cs_ fun c_ cs_ => qS Cl.no c_ fun v_ => vI Cl.no .i64 v_ fun a4 => gC Cl.no cs_ fun c_ cs_ => qS Cl.no c_ fun v_ => vI Cl.no .i64 v_ fun a5 => gC Cl.no cs_ fun c_ cs_ => qS Cl.no c_ fun v_ => vI Cl.no .i64 v_ fun a6 => gC Cl.no cs_ fun c_ cs_ => qS Cl.no c_ fun v_ => vI Cl.no .i64 v_ fun a7 => gC Cl.no cs_ fun c_ cs_ => qS Cl.no c_ fun v_ => vB Cl.no v_ fun b8 => gC Cl.no cs_ fun c_ cs_ => qS Cl.no c_ fun v_ => vB Cl.no v_ fun b9 => gC Cl.no cs_ fun c_ cs_ => qSl Cl.no 5 c_ fun xs10 => gE Cl.no cs_ <| gE Cl.no ps_ <| { α := (List Int), o := f125 k a1 s2 s3 a4 a5 a6 a7 b8 b9 xs10, w := f125.w, nat := fun x _ => f125.wn x }
def f125.e (k : Nat) : Entry env := ⟨fun ps => f125.hd k (coer [[.no, .no, .no, .no, .no, .no, .no, .no, .no, .rd 5]] ps), [], []⟩
def f125.X (k : Nat) : Ctx env := { C := lookE [(99, f99.e k), (151, f151.e k), (169, f169.e k)], L := lookE [], J := lookE [], keep := lookD [], keepX := lookD [], span := lookN [], eff := fun n => memN n [4, 8, 10], prep := lookP [], np := 0 }
theorem f125.nat {R : Type} (k : Nat) (g : ((List Int)) → Option R) (a1 : Int) (s2 : ByteArray) (s3 : ByteArray) (a4 : Int) (a5 : Int) (a6 : Int) (a7 : Int) (b8 : Bool) (b9 : Bool) (xs10 : List Int) : f125.step k g a1 s2 s3 a4 a5 a6 a7 b8 b9 xs10 = (f125 k a1 s2 s3 a4 a5 a6 a7 b8 b9 xs10).bind g := by
  simp only [f125, f125.step, bind_ite, bind_sum, Option.bind_assoc, Option.bind_some, Option.bind_none]
theorem f125.ev (k : Nat) (a1 : Int) (s2 : ByteArray) (s3 : ByteArray) (a4 : Int) (a5 : Int) (a6 : Int) (a7 : Int) (b8 : Bool) (b9 : Bool) (xs10 : List Int) : evF (f125.X k) (bodyOf Try.f125) Try.f125.ntmps Try.f125.results.toList [.g [.s (.int .i64 a1), .s (.string s2), .s (.string s3), .s (.int .i64 a4), .s (.int .i64 a5), .s (.int .i64 a6), .s (.int .i64 a7), .s (.bool b8), .s (.bool b9), .sl 5 xs10]] = f125.step k (fun x => f125.w x some) a1 s2 s3 a4 a5 a6 a7 b8 b9 xs10 := by kernel_rfl
theorem f125.hok (k : Nat) : HOK (f125.X k) (bodyOf Try.f125) where
  l := allP_mem (by exact trivial)
  j := allP_mem (by exact trivial)
theorem f125.sound0 (k : Nat) : SoundC env Try.prog 125 (f125.hd k) := by
  intro ps_
  show GoodC _ _ _ ps_ (f125.hd k ps_)
  unfold f125.hd
  refine gC_ok (p := GoodC env Try.prog 125 _) goodC_no fun _ _ h => ?_
  subst h
  refine qG_ok (p := GoodC env Try.prog 125 _) goodC_no fun _ h => ?_
  subst h
  refine gC_ok (p := GoodC env Try.prog 125 _) goodC_no fun _ _ h => ?_
  subst h
  refine qS_ok (p := GoodC env Try.prog 125 _) goodC_no fun _ h => ?_
  subst h
  refine vI_ok (p := GoodC env Try.prog 125 _) goodC_no fun _ h => ?_
  subst h
  refine gC_ok (p := GoodC env Try.prog 125 _) goodC_no fun _ _ h => ?_
  subst h
  refine qS_ok (p := GoodC env Try.prog 125 _) goodC_no fun _ h => ?_
  subst h
  refine vS_ok (p := GoodC env Try.prog 125 _) goodC_no fun _ h => ?_
  subst h
  refine gC_ok (p := GoodC env Try.prog 125 _) goodC_no fun _ _ h => ?_
  subst h
  refine qS_ok (p := GoodC env Try.prog 125 _) goodC_no fun _ h => ?_
  subst h
  refine vS_ok (p := GoodC env Try.prog 125 _) goodC_no fun _ h => ?_
  subst h
  refine gC_ok (p := GoodC env Try.prog 125 _) goodC_no fun _ _ h => ?_
  subst h
  refine qS_ok (p := GoodC env Try.prog 125 _) goodC_no fun _ h => ?_
  subst h
  refine vI_ok (p := GoodC env Try.prog 125 _) goodC_no fun _ h => ?_
  subst h
  refine gC_ok (p := GoodC env Try.prog 125 _) goodC_no fun _ _ h => ?_
  subst h
  refine qS_ok (p := GoodC env Try.prog 125 _) goodC_no fun _ h => ?_
  subst h
  refine vI_ok (p := GoodC env Try.prog 125 _) goodC_no fun _ h => ?_
  subst h
  refine gC_ok (p := GoodC env Try.prog 125 _) goodC_no fun _ _ h => ?_
  subst h
  refine qS_ok (p := GoodC env Try.prog 125 _) goodC_no fun _ h => ?_
  subst h
  refine vI_ok (p := GoodC env Try.prog 125 _) goodC_no fun _ h => ?_
  subst h
  refine gC_ok (p := GoodC env Try.prog 125 _) goodC_no fun _ _ h => ?_
  subst h
  refine qS_ok (p := GoodC env Try.prog 125 _) goodC_no fun _ h => ?_
  subst h
  refine vI_ok (p := GoodC env Try.prog 125 _) goodC_no fun _ h => ?_
  subst h
  refine gC_ok (p := GoodC env Try.prog 125 _) goodC_no fun _ _ h => ?_
  subst h
  refine qS_ok (p := GoodC env Try.prog 125 _) goodC_no fun _ h => ?_
  subst h
  refine vB_ok (p := GoodC env Try.prog 125 _) goodC_no fun _ h => ?_
  subst h
  refine gC_ok (p := GoodC env Try.prog 125 _) goodC_no fun _ _ h => ?_
  subst h
  refine qS_ok (p := GoodC env Try.prog 125 _) goodC_no fun _ h => ?_
  subst h
  refine vB_ok (p := GoodC env Try.prog 125 _) goodC_no fun _ h => ?_
  subst h
  refine gC_ok (p := GoodC env Try.prog 125 _) goodC_no fun _ _ h => ?_
  subst h
  refine qSl_ok (p := GoodC env Try.prog 125 _) goodC_no fun _ h => ?_
  subst h
  refine gE_ok (p := GoodC env Try.prog 125 _) goodC_no fun h => ?_
  subst h
  refine gE_ok (p := GoodC env Try.prog 125 _) goodC_no fun h => ?_
  subst h
  exact fun_good (fun_sound envOK (cs_sound _ (by exact ⟨⟨f99.sound k, f99.fnok⟩, ⟨f151.sound k, f151.fnok⟩, ⟨f169.sound k, f169.fnok⟩, trivial⟩)) (f125.hok k) Try.func125 rfl) ((f125.ev k _ _ _ _ _ _ _ _ _ _).trans (f125.nat k _ _ _ _ _ _ _ _ _ _ _))
theorem f125.sound (k : Nat) : SoundC env Try.prog 125 (f125.e k).F := soundC_coer (f125.sound0 k) [[.no, .no, .no, .no, .no, .no, .no, .no, .no, .rd 5]]
theorem f125.says (k : Nat) (a1 : Int) (s2 : ByteArray) (s3 : ByteArray) (a4 : Int) (a5 : Int) (a6 : Int) (a7 : Int) (b8 : Bool) (b9 : Bool) (xs10 : List Int) (t19 : (List Int)) (h_ : f125 k a1 s2 s3 a4 a5 a6 a7 b8 b9 xs10 = some t19) : SoundAt env Try.prog 125 [.g [.s (.int .i64 a1), .s (.string s2), .s (.string s3), .s (.int .i64 a4), .s (.int .i64 a5), .s (.int .i64 a6), .s (.int .i64 a7), .s (.bool b8), .s (.bool b9), .sl 5 xs10]] ⟨.v (.c (.own true 5 t19)), [[]]⟩ :=
  fun_sound envOK (cs_sound _ (by exact ⟨⟨f99.sound k, f99.fnok⟩, ⟨f151.sound k, f151.fnok⟩, ⟨f169.sound k, f169.fnok⟩, trivial⟩)) (f125.hok k) Try.func125 rfl _ _ (((f125.ev k a1 s2 s3 a4 a5 a6 a7 b8 b9 xs10).trans (f125.nat k _ a1 s2 s3 a4 a5 a6 a7 b8 b9 xs10)).trans (by rw [h_]; rfl))
theorem f125.fnok : FnOK Try.prog 125 := fn_ok Try.func125 (by kernel_rfl) rfl
def f57.step {R : Type} (k : Nat) (ret : ((List Int) × Int) → Option R) (a1 : Int) (s2 : ByteArray) (s3 : ByteArray) (a4 : Int) (a5 : Int) (a6 : Int) (a7 : Int) (b8 : Bool) (b9 : Bool) (xs10 : List Int) : Option R :=
  (f85 k a1 s2 s3 a4 a5 a6 a7 b8 b9 xs10).bind fun t11 => if (!t11) = true then
      ret (([] : List Int), (1 : Int))
    else
      (f125 k a1 s2 s3 a4 a5 a6 a7 b8 b9 xs10).bind fun t12 => ret (t12, (0 : Int))
def f57 (k : Nat) (a1 : Int) (s2 : ByteArray) (s3 : ByteArray) (a4 : Int) (a5 : Int) (a6 : Int) (a7 : Int) (b8 : Bool) (b9 : Bool) (xs10 : List Int) : Option ((List Int) × Int) := f57.step k some a1 s2 s3 a4 a5 a6 a7 b8 b9 xs10
def f57.w {R : Type} : ((List Int) × Int) → (Res env → Option R) → Option R := fun t13 K => K ⟨.tup [.c (.own true 5 t13.1), .c (.s (.int .i64 t13.2))], [[]]⟩
theorem f57.wn (x : ((List Int) × Int)) : ∃ res, ∀ {R : Type} (K : Res env → Option R), f57.w x K = K res := by
  exact ⟨_, fun _ => rfl⟩
def f57.hd (k : Nat) (ps_ : List (P2 env)) : Cl env :=
  gC Cl.no ps_ fun p_ ps_ => qG Cl.no p_ fun cs_ => gC Cl.no cs_ fun c_ cs_ => qS Cl.no c_ fun v_ => vI Cl.no .i64 v_ fun a1 => gC Cl.no cs_ fun c_ cs_ => qS Cl.no c_ fun v_ => vS Cl.no v_ fun s2 => gC Cl.no cs_ fun c_ cs_ => qS Cl.no c_ fun v_ => vS Cl.no v_ fun s3 => gC Cl.no cs_ fun c_ cs_ => qS Cl.no c_ fun v_ => vI Cl.no .i64 v_ fun a4 => gC Cl.no cs_ fun c_ cs_ => qS Cl.no c_ fun v_ => vI Cl.no .i64 v_ fun a5 => gC Cl.no cs_ fun c_ cs_ => qS Cl.no c_ fun v_ => vI Cl.no .i64 v_ fun a6 => gC Cl.no cs_ fun c_ cs_ => qS Cl.no c_ fun v_ => vI Cl.no .i64 v_ fun a7 => gC Cl.no cs_ fun c_ cs_ => qS Cl.no c_ fun v_ => vB Cl.no v_ fun b8 => gC Cl.no cs_ fun c_ cs_ => qS Cl.no c_ fun v_ => vB Cl.no v_ fun b9 => gC Cl.no cs_ fun c_ cs_ => qSl Cl.no 5 c_ fun xs10 => gE Cl.no cs_ <| gE Cl.no ps_ <| { α := (List Int) × Int, o := f57 k a1 s2 s3 a4 a5 a6 a7 b8 b9 xs10, w := f57.w, nat := fun x _ => f57.wn x }
def f57.e (k : Nat) : Entry env := ⟨fun ps => f57.hd k (coer [[.no, .no, .no, .no, .no, .no, .no, .no, .no, .rd 5]] ps), [], []⟩
def f57.X (k : Nat) : Ctx env := { C := lookE [(85, f85.e k), (125, f125.e k)], L := lookE [], J := lookE [], keep := lookD [], keepX := lookD [], span := lookN [], eff := fun n => memN n [], prep := lookP [], np := 0 }
theorem f57.nat {R : Type} (k : Nat) (g : ((List Int) × Int) → Option R) (a1 : Int) (s2 : ByteArray) (s3 : ByteArray) (a4 : Int) (a5 : Int) (a6 : Int) (a7 : Int) (b8 : Bool) (b9 : Bool) (xs10 : List Int) : f57.step k g a1 s2 s3 a4 a5 a6 a7 b8 b9 xs10 = (f57 k a1 s2 s3 a4 a5 a6 a7 b8 b9 xs10).bind g := by
  simp only [f57, f57.step, bind_ite, bind_sum, Option.bind_assoc, Option.bind_some, Option.bind_none]
theorem f57.ev (k : Nat) (a1 : Int) (s2 : ByteArray) (s3 : ByteArray) (a4 : Int) (a5 : Int) (a6 : Int) (a7 : Int) (b8 : Bool) (b9 : Bool) (xs10 : List Int) : evF (f57.X k) (bodyOf Try.f57) Try.f57.ntmps Try.f57.results.toList [.g [.s (.int .i64 a1), .s (.string s2), .s (.string s3), .s (.int .i64 a4), .s (.int .i64 a5), .s (.int .i64 a6), .s (.int .i64 a7), .s (.bool b8), .s (.bool b9), .sl 5 xs10]] = f57.step k (fun x => f57.w x some) a1 s2 s3 a4 a5 a6 a7 b8 b9 xs10 := by kernel_rfl
theorem f57.hok (k : Nat) : HOK (f57.X k) (bodyOf Try.f57) where
  l := allP_mem (by exact trivial)
  j := allP_mem (by exact trivial)
theorem f57.sound0 (k : Nat) : SoundC env Try.prog 57 (f57.hd k) := by
  intro ps_
  show GoodC _ _ _ ps_ (f57.hd k ps_)
  unfold f57.hd
  refine gC_ok (p := GoodC env Try.prog 57 _) goodC_no fun _ _ h => ?_
  subst h
  refine qG_ok (p := GoodC env Try.prog 57 _) goodC_no fun _ h => ?_
  subst h
  refine gC_ok (p := GoodC env Try.prog 57 _) goodC_no fun _ _ h => ?_
  subst h
  refine qS_ok (p := GoodC env Try.prog 57 _) goodC_no fun _ h => ?_
  subst h
  refine vI_ok (p := GoodC env Try.prog 57 _) goodC_no fun _ h => ?_
  subst h
  refine gC_ok (p := GoodC env Try.prog 57 _) goodC_no fun _ _ h => ?_
  subst h
  refine qS_ok (p := GoodC env Try.prog 57 _) goodC_no fun _ h => ?_
  subst h
  refine vS_ok (p := GoodC env Try.prog 57 _) goodC_no fun _ h => ?_
  subst h
  refine gC_ok (p := GoodC env Try.prog 57 _) goodC_no fun _ _ h => ?_
  subst h
  refine qS_ok (p := GoodC env Try.prog 57 _) goodC_no fun _ h => ?_
  subst h
  refine vS_ok (p := GoodC env Try.prog 57 _) goodC_no fun _ h => ?_
  subst h
  refine gC_ok (p := GoodC env Try.prog 57 _) goodC_no fun _ _ h => ?_
  subst h
  refine qS_ok (p := GoodC env Try.prog 57 _) goodC_no fun _ h => ?_
  subst h
  refine vI_ok (p := GoodC env Try.prog 57 _) goodC_no fun _ h => ?_
  subst h
  refine gC_ok (p := GoodC env Try.prog 57 _) goodC_no fun _ _ h => ?_
  subst h
  refine qS_ok (p := GoodC env Try.prog 57 _) goodC_no fun _ h => ?_
  subst h
  refine vI_ok (p := GoodC env Try.prog 57 _) goodC_no fun _ h => ?_
  subst h
  refine gC_ok (p := GoodC env Try.prog 57 _) goodC_no fun _ _ h => ?_
  subst h
  refine qS_ok (p := GoodC env Try.prog 57 _) goodC_no fun _ h => ?_
  subst h
  refine vI_ok (p := GoodC env Try.prog 57 _) goodC_no fun _ h => ?_
  subst h
  refine gC_ok (p := GoodC env Try.prog 57 _) goodC_no fun _ _ h => ?_
  subst h
  refine qS_ok (p := GoodC env Try.prog 57 _) goodC_no fun _ h => ?_
  subst h
  refine vI_ok (p := GoodC env Try.prog 57 _) goodC_no fun _ h => ?_
  subst h
  refine gC_ok (p := GoodC env Try.prog 57 _) goodC_no fun _ _ h => ?_
  subst h
  refine qS_ok (p := GoodC env Try.prog 57 _) goodC_no fun _ h => ?_
  subst h
  refine vB_ok (p := GoodC env Try.prog 57 _) goodC_no fun _ h => ?_
  subst h
  refine gC_ok (p := GoodC env Try.prog 57 _) goodC_no fun _ _ h => ?_
  subst h
  refine qS_ok (p := GoodC env Try.prog 57 _) goodC_no fun _ h => ?_
  subst h
  refine vB_ok (p := GoodC env Try.prog 57 _) goodC_no fun _ h => ?_
  subst h
  refine gC_ok (p := GoodC env Try.prog 57 _) goodC_no fun _ _ h => ?_
  subst h
  refine qSl_ok (p := GoodC env Try.prog 57 _) goodC_no fun _ h => ?_
  subst h
  refine gE_ok (p := GoodC env Try.prog 57 _) goodC_no fun h => ?_
  subst h
  refine gE_ok (p := GoodC env Try.prog 57 _) goodC_no fun h => ?_
  subst h
  exact fun_good (fun_sound envOK (cs_sound _ (by exact ⟨⟨f85.sound k, f85.fnok⟩, ⟨f125.sound k, f125.fnok⟩, trivial⟩)) (f57.hok k) Try.func57 rfl) ((f57.ev k _ _ _ _ _ _ _ _ _ _).trans (f57.nat k _ _ _ _ _ _ _ _ _ _ _))
theorem f57.sound (k : Nat) : SoundC env Try.prog 57 (f57.e k).F := soundC_coer (f57.sound0 k) [[.no, .no, .no, .no, .no, .no, .no, .no, .no, .rd 5]]
theorem f57.says (k : Nat) (a1 : Int) (s2 : ByteArray) (s3 : ByteArray) (a4 : Int) (a5 : Int) (a6 : Int) (a7 : Int) (b8 : Bool) (b9 : Bool) (xs10 : List Int) (t14 : (List Int) × Int) (h_ : f57 k a1 s2 s3 a4 a5 a6 a7 b8 b9 xs10 = some t14) : SoundAt env Try.prog 57 [.g [.s (.int .i64 a1), .s (.string s2), .s (.string s3), .s (.int .i64 a4), .s (.int .i64 a5), .s (.int .i64 a6), .s (.int .i64 a7), .s (.bool b8), .s (.bool b9), .sl 5 xs10]] ⟨.tup [.c (.own true 5 t14.1), .c (.s (.int .i64 t14.2))], [[]]⟩ :=
  fun_sound envOK (cs_sound _ (by exact ⟨⟨f85.sound k, f85.fnok⟩, ⟨f125.sound k, f125.fnok⟩, trivial⟩)) (f57.hok k) Try.func57 rfl _ _ (((f57.ev k a1 s2 s3 a4 a5 a6 a7 b8 b9 xs10).trans (f57.nat k _ a1 s2 s3 a4 a5 a6 a7 b8 b9 xs10)).trans (by rw [h_]; rfl))
theorem f57.fnok : FnOK Try.prog 57 := fn_ok Try.func57 (by kernel_rfl) rfl
def f93.step {R : Type} (k : Nat) (ret : Int → Option R) (xs1 : List Int) (a2 : Int) : Option R :=
  if (0 : Int) ≤ a2 then
    if a2 < ((List.length xs1 : Nat) : Int) then
      if (0 : Int) ≤ (IntKind.i64.wrap (a2 + (1 : Int))) then
        if (IntKind.i64.wrap (a2 + (1 : Int))) < ((List.length xs1 : Nat) : Int) then
          ret (bitsV .or .i64 (IntKind.i64.wrap ((IntKind.i64.wrap (List.getD xs1 (Int.toNat a2) (0 : Int))) * (2 ^ (min (8 : Int).toNat IntKind.i64.bits)))) (IntKind.i64.wrap (List.getD xs1 (Int.toNat (IntKind.i64.wrap (a2 + (1 : Int)))) (0 : Int))))
        else none
      else none
    else none
  else none
def f93 (k : Nat) (xs1 : List Int) (a2 : Int) : Option Int := f93.step k some xs1 a2
def f93.w {R : Type} : Int → (Res env → Option R) → Option R := fun t3 K => K ⟨.v (.c (.s (.int .i64 t3))), [[], []]⟩
theorem f93.wn (x : Int) : ∃ res, ∀ {R : Type} (K : Res env → Option R), f93.w x K = K res := by
  exact ⟨_, fun _ => rfl⟩
def f93.hd (k : Nat) (ps_ : List (P2 env)) : Cl env :=
  gC Cl.no ps_ fun p_ ps_ => qC Cl.no p_ fun c_ => qSl Cl.no 5 c_ fun xs1 => gC Cl.no ps_ fun p_ ps_ => qC Cl.no p_ fun c_ => qS Cl.no c_ fun v_ => vI Cl.no .i64 v_ fun a2 => gE Cl.no ps_ <| { α := Int, o := f93 k xs1 a2, w := f93.w, nat := fun x _ => f93.wn x }
def f93.e (k : Nat) : Entry env := ⟨fun ps => f93.hd k (coer [[.rd 5], [.no]] ps), [], []⟩
def f93.X (k : Nat) : Ctx env := { C := lookE [], L := lookE [], J := lookE [], keep := lookD [], keepX := lookD [], span := lookN [], eff := fun n => memN n [], prep := lookP [], np := 0 }
theorem f93.nat {R : Type} (k : Nat) (g : Int → Option R) (xs1 : List Int) (a2 : Int) : f93.step k g xs1 a2 = (f93 k xs1 a2).bind g := by
  simp only [f93, f93.step, bind_ite, bind_sum, Option.bind_assoc, Option.bind_some, Option.bind_none]
theorem f93.ev (k : Nat) (xs1 : List Int) (a2 : Int) : evF (f93.X k) (bodyOf Try.f93) Try.f93.ntmps Try.f93.results.toList [.v (.c (.sl 5 xs1)), .v (.c (.s (.int .i64 a2)))] = f93.step k (fun x => f93.w x some) xs1 a2 := by kernel_rfl
theorem f93.hok (k : Nat) : HOK (f93.X k) (bodyOf Try.f93) where
  l := allP_mem (by exact trivial)
  j := allP_mem (by exact trivial)
theorem f93.sound0 (k : Nat) : SoundC env Try.prog 93 (f93.hd k) := by
  intro ps_
  show GoodC _ _ _ ps_ (f93.hd k ps_)
  unfold f93.hd
  refine gC_ok (p := GoodC env Try.prog 93 _) goodC_no fun _ _ h => ?_
  subst h
  refine qC_ok (p := GoodC env Try.prog 93 _) goodC_no fun _ h => ?_
  subst h
  refine qSl_ok (p := GoodC env Try.prog 93 _) goodC_no fun _ h => ?_
  subst h
  refine gC_ok (p := GoodC env Try.prog 93 _) goodC_no fun _ _ h => ?_
  subst h
  refine qC_ok (p := GoodC env Try.prog 93 _) goodC_no fun _ h => ?_
  subst h
  refine qS_ok (p := GoodC env Try.prog 93 _) goodC_no fun _ h => ?_
  subst h
  refine vI_ok (p := GoodC env Try.prog 93 _) goodC_no fun _ h => ?_
  subst h
  refine gE_ok (p := GoodC env Try.prog 93 _) goodC_no fun h => ?_
  subst h
  exact fun_good (fun_sound envOK (cs_sound _ (by exact trivial)) (f93.hok k) Try.func93 rfl) ((f93.ev k _ _).trans (f93.nat k _ _ _))
theorem f93.sound (k : Nat) : SoundC env Try.prog 93 (f93.e k).F := soundC_coer (f93.sound0 k) [[.rd 5], [.no]]
theorem f93.says (k : Nat) (xs1 : List Int) (a2 : Int) (t4 : Int) (h_ : f93 k xs1 a2 = some t4) : SoundAt env Try.prog 93 [.v (.c (.sl 5 xs1)), .v (.c (.s (.int .i64 a2)))] ⟨.v (.c (.s (.int .i64 t4))), [[], []]⟩ :=
  fun_sound envOK (cs_sound _ (by exact trivial)) (f93.hok k) Try.func93 rfl _ _ (((f93.ev k xs1 a2).trans (f93.nat k _ xs1 a2)).trans (by rw [h_]; rfl))
theorem f93.fnok : FnOK Try.prog 93 := fn_ok Try.func93 (by kernel_rfl) rfl
def f92.step {R : Type} (k : Nat) (ret : ((Int × ByteArray × ByteArray × Int × Int × Int × Int × Bool × Bool × Int) ⊕ (Int × ByteArray × ByteArray × Int × Int × Int × Int × Bool × Bool × (List Int) × Int)) → Option R) (xs1 : List Int) : Option R :=
  if (decide ((((List.length xs1) : Nat) : Int) < (40 : Int))) = false then
    (f93 k xs1 (4 : Int)).bind fun t2 => if (decide (t2 ≠ (IntKind.i64.wrap ((((List.length xs1) : Nat) : Int) - (40 : Int))))) = true then
        ret (.inl ((0 : Int), ByteArray.empty, ByteArray.empty, (0 : Int), (0 : Int), (0 : Int), (0 : Int), false, false, (3 : Int)))
      else
        if (24 : Int) ≤ ((List.length xs1 : Nat) : Int) then
          if (40 : Int) ≤ ((List.length xs1 : Nat) : Int) then
            if (7 : Int) < ((List.length xs1 : Nat) : Int) then
              if (6 : Int) < ((List.length xs1 : Nat) : Int) then
                if (40 : Int) ≤ ((List.length xs1 : Nat) : Int) then
                  if ((List.length xs1 : Nat) : Int) ≤ ((List.length xs1 : Nat) : Int) then
                    if (List.length ([] : List Int) + List.length (List.drop 40 (List.take (Int.toNat ((List.length xs1 : Nat) : Int)) xs1))) * 1 ≤ maxN then
                      (f20 k (6 : Int) (strOf (List.drop 8 (List.take 24 xs1))) (strOf (List.drop 24 (List.take 40 xs1))) (IntKind.i64.wrap (List.getD xs1 7 (0 : Int))) (IntKind.i64.wrap (List.getD xs1 6 (0 : Int))) (0 : Int) (0 : Int) false false (([] : List Int) ++ (List.drop 40 (List.take (Int.toNat ((List.length xs1 : Nat) : Int)) xs1)))).bind fun t3 => if (!t3) = true then
                          ret (.inl ((0 : Int), ByteArray.empty, ByteArray.empty, (0 : Int), (0 : Int), (0 : Int), (0 : Int), false, false, (1 : Int)))
                        else
                          ret (.inr ((6 : Int), (strOf (List.drop 8 (List.take 24 xs1))), (strOf (List.drop 24 (List.take 40 xs1))), (IntKind.i64.wrap (List.getD xs1 7 (0 : Int))), (IntKind.i64.wrap (List.getD xs1 6 (0 : Int))), (0 : Int), (0 : Int), false, false, (([] : List Int) ++ (List.drop 40 (List.take (Int.toNat ((List.length xs1 : Nat) : Int)) xs1))), (0 : Int)))
                    else none
                  else none
                else none
              else none
            else none
          else none
        else none
  else
    ret (.inl ((0 : Int), ByteArray.empty, ByteArray.empty, (0 : Int), (0 : Int), (0 : Int), (0 : Int), false, false, (3 : Int)))
def f92 (k : Nat) (xs1 : List Int) : Option ((Int × ByteArray × ByteArray × Int × Int × Int × Int × Bool × Bool × Int) ⊕ (Int × ByteArray × ByteArray × Int × Int × Int × Int × Bool × Bool × (List Int) × Int)) := f92.step k some xs1
def f92.w {R : Type} : ((Int × ByteArray × ByteArray × Int × Int × Int × Int × Bool × Bool × Int) ⊕ (Int × ByteArray × ByteArray × Int × Int × Int × Int × Bool × Bool × (List Int) × Int)) → (Res env → Option R) → Option R := fun x K => Sum.elim (fun t4 => K ⟨.tup [.g [.s (.int .i64 t4.1), .s (.string t4.2.1), .s (.string t4.2.2.1), .s (.int .i64 t4.2.2.2.1), .s (.int .i64 t4.2.2.2.2.1), .s (.int .i64 t4.2.2.2.2.2.1), .s (.int .i64 t4.2.2.2.2.2.2.1), .s (.bool t4.2.2.2.2.2.2.2.1), .s (.bool t4.2.2.2.2.2.2.2.2.1), .s (.slice none 0 0)], .c (.s (.int .i64 t4.2.2.2.2.2.2.2.2.2))], [[]]⟩) (fun t5 => K ⟨.tup [.g [.s (.int .i64 t5.1), .s (.string t5.2.1), .s (.string t5.2.2.1), .s (.int .i64 t5.2.2.2.1), .s (.int .i64 t5.2.2.2.2.1), .s (.int .i64 t5.2.2.2.2.2.1), .s (.int .i64 t5.2.2.2.2.2.2.1), .s (.bool t5.2.2.2.2.2.2.2.1), .s (.bool t5.2.2.2.2.2.2.2.2.1), .own true 5 t5.2.2.2.2.2.2.2.2.2.1], .c (.s (.int .i64 t5.2.2.2.2.2.2.2.2.2.2))], [[]]⟩) x
theorem f92.wn (x : ((Int × ByteArray × ByteArray × Int × Int × Int × Int × Bool × Bool × Int) ⊕ (Int × ByteArray × ByteArray × Int × Int × Int × Int × Bool × Bool × (List Int) × Int))) : ∃ res, ∀ {R : Type} (K : Res env → Option R), f92.w x K = K res := by
  rcases x with x | x <;> exact ⟨_, fun _ => rfl⟩
def f92.hd (k : Nat) (ps_ : List (P2 env)) : Cl env :=
  gC Cl.no ps_ fun p_ ps_ => qC Cl.no p_ fun c_ => qSl Cl.no 5 c_ fun xs1 => gE Cl.no ps_ <| { α := (Int × ByteArray × ByteArray × Int × Int × Int × Int × Bool × Bool × Int) ⊕ (Int × ByteArray × ByteArray × Int × Int × Int × Int × Bool × Bool × (List Int) × Int), o := f92 k xs1, w := f92.w, nat := fun x _ => f92.wn x }
def f92.e (k : Nat) : Entry env := ⟨fun ps => f92.hd k (coer [[.rd 5]] ps), [], []⟩
def f92.X (k : Nat) : Ctx env := { C := lookE [(20, f20.e k), (93, f93.e k)], L := lookE [], J := lookE [], keep := lookD [], keepX := lookD [], span := lookN [], eff := fun n => memN n [3], prep := lookP [], np := 0 }
theorem f92.nat {R : Type} (k : Nat) (g : ((Int × ByteArray × ByteArray × Int × Int × Int × Int × Bool × Bool × Int) ⊕ (Int × ByteArray × ByteArray × Int × Int × Int × Int × Bool × Bool × (List Int) × Int)) → Option R) (xs1 : List Int) : f92.step k g xs1 = (f92 k xs1).bind g := by
  simp only [f92, f92.step, bind_ite, bind_sum, Option.bind_assoc, Option.bind_some, Option.bind_none]
theorem f92.ev (k : Nat) (xs1 : List Int) : evF (f92.X k) (bodyOf Try.f92) Try.f92.ntmps Try.f92.results.toList [.v (.c (.sl 5 xs1))] = f92.step k (fun x => f92.w x some) xs1 := by kernel_rfl
theorem f92.hok (k : Nat) : HOK (f92.X k) (bodyOf Try.f92) where
  l := allP_mem (by exact trivial)
  j := allP_mem (by exact trivial)
theorem f92.sound0 (k : Nat) : SoundC env Try.prog 92 (f92.hd k) := by
  intro ps_
  show GoodC _ _ _ ps_ (f92.hd k ps_)
  unfold f92.hd
  refine gC_ok (p := GoodC env Try.prog 92 _) goodC_no fun _ _ h => ?_
  subst h
  refine qC_ok (p := GoodC env Try.prog 92 _) goodC_no fun _ h => ?_
  subst h
  refine qSl_ok (p := GoodC env Try.prog 92 _) goodC_no fun _ h => ?_
  subst h
  refine gE_ok (p := GoodC env Try.prog 92 _) goodC_no fun h => ?_
  subst h
  exact fun_good (fun_sound envOK (cs_sound _ (by exact ⟨⟨f20.sound k, f20.fnok⟩, ⟨f93.sound k, f93.fnok⟩, trivial⟩)) (f92.hok k) Try.func92 rfl) ((f92.ev k _).trans (f92.nat k _ _))
theorem f92.sound (k : Nat) : SoundC env Try.prog 92 (f92.e k).F := soundC_coer (f92.sound0 k) [[.rd 5]]
theorem f92.fnok : FnOK Try.prog 92 := fn_ok Try.func92 (by kernel_rfl) rfl
def f31.step {R : Type} (k : Nat) (ret : ((Int × ByteArray × ByteArray × Int × Int × Int × Int × Bool × Bool × Int) ⊕ (Int × ByteArray × ByteArray × Int × Int × Int × Int × Bool × Bool × (List Int) × Int)) → Option R) (xs1 : List Int) : Option R :=
  if (decide ((((List.length xs1) : Nat) : Int) > (65536 : Int))) = true then
    ret (.inl ((0 : Int), ByteArray.empty, ByteArray.empty, (0 : Int), (0 : Int), (0 : Int), (0 : Int), false, false, (2 : Int)))
  else
    if (decide ((((List.length xs1) : Nat) : Int) > (0 : Int))) = true then
      if (0 : Int) < ((List.length xs1 : Nat) : Int) then
        if (decide ((Int.fdiv (List.getD xs1 0 (0 : Int)) (2 ^ (min (4 : Int).toNat IntKind.u8.bits))) = (6 : Int))) = true then
          (f92 k xs1).bind (Sum.elim (fun t2 => ret (.inl (t2.1, t2.2.1, t2.2.2.1, t2.2.2.2.1, t2.2.2.2.2.1, t2.2.2.2.2.2.1, t2.2.2.2.2.2.2.1, t2.2.2.2.2.2.2.2.1, t2.2.2.2.2.2.2.2.2.1, t2.2.2.2.2.2.2.2.2.2))) (fun t3 => ret (.inr (t3.1, t3.2.1, t3.2.2.1, t3.2.2.2.1, t3.2.2.2.2.1, t3.2.2.2.2.2.1, t3.2.2.2.2.2.2.1, t3.2.2.2.2.2.2.2.1, t3.2.2.2.2.2.2.2.2.1, t3.2.2.2.2.2.2.2.2.2.1, t3.2.2.2.2.2.2.2.2.2.2))))
        else
          if (decide ((((List.length xs1) : Nat) : Int) < (20 : Int))) = false then
            if (0 : Int) < ((List.length xs1 : Nat) : Int) then
              if (decide ((List.getD xs1 0 (0 : Int)) ≠ (69 : Int))) = false then
                (f93 k xs1 (2 : Int)).bind fun t4 => if (decide (t4 ≠ (((List.length xs1) : Nat) : Int))) = true then
                    ret (.inl ((0 : Int), ByteArray.empty, ByteArray.empty, (0 : Int), (0 : Int), (0 : Int), (0 : Int), false, false, (3 : Int)))
                  else
                    if (20 : Int) ≤ ((List.length xs1 : Nat) : Int) then
                      (f94 k (List.drop 0 (List.take 20 xs1))).bind fun t5 => if (decide (t5 ≠ (0 : Int))) = true then
                          ret (.inl ((0 : Int), ByteArray.empty, ByteArray.empty, (0 : Int), (0 : Int), (0 : Int), (0 : Int), false, false, (8 : Int)))
                        else
                          (f93 k xs1 (6 : Int)).bind fun t6 => if (16 : Int) ≤ ((List.length xs1 : Nat) : Int) then
                              if (20 : Int) ≤ ((List.length xs1 : Nat) : Int) then
                                if (8 : Int) < ((List.length xs1 : Nat) : Int) then
                                  if (9 : Int) < ((List.length xs1 : Nat) : Int) then
                                    (f93 k xs1 (4 : Int)).bind fun t7 => if (20 : Int) ≤ ((List.length xs1 : Nat) : Int) then
                                        if ((List.length xs1 : Nat) : Int) ≤ ((List.length xs1 : Nat) : Int) then
                                          if (List.length ([] : List Int) + List.length (List.drop 20 (List.take (Int.toNat ((List.length xs1 : Nat) : Int)) xs1))) * 1 ≤ maxN then
                                            if (decide ((bitsV .and .i64 t6 (32768 : Int)) ≠ (0 : Int))) = false then
                                              (f20 k (4 : Int) (strOf (List.drop 12 (List.take 16 xs1))) (strOf (List.drop 16 (List.take 20 xs1))) (IntKind.i64.wrap (List.getD xs1 8 (0 : Int))) (IntKind.i64.wrap (List.getD xs1 9 (0 : Int))) t7 (bitsV .and .i64 t6 (8191 : Int)) (decide ((bitsV .and .i64 t6 (8192 : Int)) ≠ (0 : Int))) (decide ((bitsV .and .i64 t6 (16384 : Int)) ≠ (0 : Int))) (([] : List Int) ++ (List.drop 20 (List.take (Int.toNat ((List.length xs1 : Nat) : Int)) xs1)))).bind fun t8 => if (!t8) = true then
                                                  ret (.inl ((0 : Int), ByteArray.empty, ByteArray.empty, (0 : Int), (0 : Int), (0 : Int), (0 : Int), false, false, (1 : Int)))
                                                else
                                                  ret (.inr ((4 : Int), (strOf (List.drop 12 (List.take 16 xs1))), (strOf (List.drop 16 (List.take 20 xs1))), (IntKind.i64.wrap (List.getD xs1 8 (0 : Int))), (IntKind.i64.wrap (List.getD xs1 9 (0 : Int))), t7, (bitsV .and .i64 t6 (8191 : Int)), (decide ((bitsV .and .i64 t6 (8192 : Int)) ≠ (0 : Int))), (decide ((bitsV .and .i64 t6 (16384 : Int)) ≠ (0 : Int))), (([] : List Int) ++ (List.drop 20 (List.take (Int.toNat ((List.length xs1 : Nat) : Int)) xs1))), (0 : Int)))
                                            else
                                              ret (.inl ((0 : Int), ByteArray.empty, ByteArray.empty, (0 : Int), (0 : Int), (0 : Int), (0 : Int), false, false, (1 : Int)))
                                          else none
                                        else none
                                      else none
                                  else none
                                else none
                              else none
                            else none
                    else none
              else
                ret (.inl ((0 : Int), ByteArray.empty, ByteArray.empty, (0 : Int), (0 : Int), (0 : Int), (0 : Int), false, false, (3 : Int)))
            else none
          else
            ret (.inl ((0 : Int), ByteArray.empty, ByteArray.empty, (0 : Int), (0 : Int), (0 : Int), (0 : Int), false, false, (3 : Int)))
      else none
    else
      if (decide ((((List.length xs1) : Nat) : Int) < (20 : Int))) = false then
        if (0 : Int) < ((List.length xs1 : Nat) : Int) then
          if (decide ((List.getD xs1 0 (0 : Int)) ≠ (69 : Int))) = false then
            (f93 k xs1 (2 : Int)).bind fun t9 => if (decide (t9 ≠ (((List.length xs1) : Nat) : Int))) = true then
                ret (.inl ((0 : Int), ByteArray.empty, ByteArray.empty, (0 : Int), (0 : Int), (0 : Int), (0 : Int), false, false, (3 : Int)))
              else
                if (20 : Int) ≤ ((List.length xs1 : Nat) : Int) then
                  (f94 k (List.drop 0 (List.take 20 xs1))).bind fun t10 => if (decide (t10 ≠ (0 : Int))) = true then
                      ret (.inl ((0 : Int), ByteArray.empty, ByteArray.empty, (0 : Int), (0 : Int), (0 : Int), (0 : Int), false, false, (8 : Int)))
                    else
                      (f93 k xs1 (6 : Int)).bind fun t11 => if (16 : Int) ≤ ((List.length xs1 : Nat) : Int) then
                          if (20 : Int) ≤ ((List.length xs1 : Nat) : Int) then
                            if (8 : Int) < ((List.length xs1 : Nat) : Int) then
                              if (9 : Int) < ((List.length xs1 : Nat) : Int) then
                                (f93 k xs1 (4 : Int)).bind fun t12 => if (20 : Int) ≤ ((List.length xs1 : Nat) : Int) then
                                    if ((List.length xs1 : Nat) : Int) ≤ ((List.length xs1 : Nat) : Int) then
                                      if (List.length ([] : List Int) + List.length (List.drop 20 (List.take (Int.toNat ((List.length xs1 : Nat) : Int)) xs1))) * 1 ≤ maxN then
                                        if (decide ((bitsV .and .i64 t11 (32768 : Int)) ≠ (0 : Int))) = false then
                                          (f20 k (4 : Int) (strOf (List.drop 12 (List.take 16 xs1))) (strOf (List.drop 16 (List.take 20 xs1))) (IntKind.i64.wrap (List.getD xs1 8 (0 : Int))) (IntKind.i64.wrap (List.getD xs1 9 (0 : Int))) t12 (bitsV .and .i64 t11 (8191 : Int)) (decide ((bitsV .and .i64 t11 (8192 : Int)) ≠ (0 : Int))) (decide ((bitsV .and .i64 t11 (16384 : Int)) ≠ (0 : Int))) (([] : List Int) ++ (List.drop 20 (List.take (Int.toNat ((List.length xs1 : Nat) : Int)) xs1)))).bind fun t13 => if (!t13) = true then
                                              ret (.inl ((0 : Int), ByteArray.empty, ByteArray.empty, (0 : Int), (0 : Int), (0 : Int), (0 : Int), false, false, (1 : Int)))
                                            else
                                              ret (.inr ((4 : Int), (strOf (List.drop 12 (List.take 16 xs1))), (strOf (List.drop 16 (List.take 20 xs1))), (IntKind.i64.wrap (List.getD xs1 8 (0 : Int))), (IntKind.i64.wrap (List.getD xs1 9 (0 : Int))), t12, (bitsV .and .i64 t11 (8191 : Int)), (decide ((bitsV .and .i64 t11 (8192 : Int)) ≠ (0 : Int))), (decide ((bitsV .and .i64 t11 (16384 : Int)) ≠ (0 : Int))), (([] : List Int) ++ (List.drop 20 (List.take (Int.toNat ((List.length xs1 : Nat) : Int)) xs1))), (0 : Int)))
                                        else
                                          ret (.inl ((0 : Int), ByteArray.empty, ByteArray.empty, (0 : Int), (0 : Int), (0 : Int), (0 : Int), false, false, (1 : Int)))
                                      else none
                                    else none
                                  else none
                              else none
                            else none
                          else none
                        else none
                else none
          else
            ret (.inl ((0 : Int), ByteArray.empty, ByteArray.empty, (0 : Int), (0 : Int), (0 : Int), (0 : Int), false, false, (3 : Int)))
        else none
      else
        ret (.inl ((0 : Int), ByteArray.empty, ByteArray.empty, (0 : Int), (0 : Int), (0 : Int), (0 : Int), false, false, (3 : Int)))
def f31 (k : Nat) (xs1 : List Int) : Option ((Int × ByteArray × ByteArray × Int × Int × Int × Int × Bool × Bool × Int) ⊕ (Int × ByteArray × ByteArray × Int × Int × Int × Int × Bool × Bool × (List Int) × Int)) := f31.step k some xs1
def f31.w {R : Type} : ((Int × ByteArray × ByteArray × Int × Int × Int × Int × Bool × Bool × Int) ⊕ (Int × ByteArray × ByteArray × Int × Int × Int × Int × Bool × Bool × (List Int) × Int)) → (Res env → Option R) → Option R := fun x K => Sum.elim (fun t14 => K ⟨.tup [.g [.s (.int .i64 t14.1), .s (.string t14.2.1), .s (.string t14.2.2.1), .s (.int .i64 t14.2.2.2.1), .s (.int .i64 t14.2.2.2.2.1), .s (.int .i64 t14.2.2.2.2.2.1), .s (.int .i64 t14.2.2.2.2.2.2.1), .s (.bool t14.2.2.2.2.2.2.2.1), .s (.bool t14.2.2.2.2.2.2.2.2.1), .s (.slice none 0 0)], .c (.s (.int .i64 t14.2.2.2.2.2.2.2.2.2))], [[]]⟩) (fun t15 => K ⟨.tup [.g [.s (.int .i64 t15.1), .s (.string t15.2.1), .s (.string t15.2.2.1), .s (.int .i64 t15.2.2.2.1), .s (.int .i64 t15.2.2.2.2.1), .s (.int .i64 t15.2.2.2.2.2.1), .s (.int .i64 t15.2.2.2.2.2.2.1), .s (.bool t15.2.2.2.2.2.2.2.1), .s (.bool t15.2.2.2.2.2.2.2.2.1), .own true 5 t15.2.2.2.2.2.2.2.2.2.1], .c (.s (.int .i64 t15.2.2.2.2.2.2.2.2.2.2))], [[]]⟩) x
theorem f31.wn (x : ((Int × ByteArray × ByteArray × Int × Int × Int × Int × Bool × Bool × Int) ⊕ (Int × ByteArray × ByteArray × Int × Int × Int × Int × Bool × Bool × (List Int) × Int))) : ∃ res, ∀ {R : Type} (K : Res env → Option R), f31.w x K = K res := by
  rcases x with x | x <;> exact ⟨_, fun _ => rfl⟩
def f31.hd (k : Nat) (ps_ : List (P2 env)) : Cl env :=
  gC Cl.no ps_ fun p_ ps_ => qC Cl.no p_ fun c_ => qSl Cl.no 5 c_ fun xs1 => gE Cl.no ps_ <| { α := (Int × ByteArray × ByteArray × Int × Int × Int × Int × Bool × Bool × Int) ⊕ (Int × ByteArray × ByteArray × Int × Int × Int × Int × Bool × Bool × (List Int) × Int), o := f31 k xs1, w := f31.w, nat := fun x _ => f31.wn x }
def f31.e (k : Nat) : Entry env := ⟨fun ps => f31.hd k (coer [[.rd 5]] ps), [], []⟩
def f31.X (k : Nat) : Ctx env := { C := lookE [(20, f20.e k), (92, f92.e k), (93, f93.e k), (94, f94.e k)], L := lookE [], J := lookE [], keep := lookD [], keepX := lookD [], span := lookN [], eff := fun n => memN n [10], prep := lookP [], np := 0 }
theorem f31.nat {R : Type} (k : Nat) (g : ((Int × ByteArray × ByteArray × Int × Int × Int × Int × Bool × Bool × Int) ⊕ (Int × ByteArray × ByteArray × Int × Int × Int × Int × Bool × Bool × (List Int) × Int)) → Option R) (xs1 : List Int) : f31.step k g xs1 = (f31 k xs1).bind g := by
  simp only [f31, f31.step, bind_ite, bind_sum, Option.bind_assoc, Option.bind_some, Option.bind_none]
theorem f31.ev (k : Nat) (xs1 : List Int) : evF (f31.X k) (bodyOf Try.f31) Try.f31.ntmps Try.f31.results.toList [.v (.c (.sl 5 xs1))] = f31.step k (fun x => f31.w x some) xs1 := by kernel_rfl
theorem f31.hok (k : Nat) : HOK (f31.X k) (bodyOf Try.f31) where
  l := allP_mem (by exact trivial)
  j := allP_mem (by exact trivial)
theorem f31.sound0 (k : Nat) : SoundC env Try.prog 31 (f31.hd k) := by
  intro ps_
  show GoodC _ _ _ ps_ (f31.hd k ps_)
  unfold f31.hd
  refine gC_ok (p := GoodC env Try.prog 31 _) goodC_no fun _ _ h => ?_
  subst h
  refine qC_ok (p := GoodC env Try.prog 31 _) goodC_no fun _ h => ?_
  subst h
  refine qSl_ok (p := GoodC env Try.prog 31 _) goodC_no fun _ h => ?_
  subst h
  refine gE_ok (p := GoodC env Try.prog 31 _) goodC_no fun h => ?_
  subst h
  exact fun_good (fun_sound envOK (cs_sound _ (by exact ⟨⟨f20.sound k, f20.fnok⟩, ⟨f92.sound k, f92.fnok⟩, ⟨f93.sound k, f93.fnok⟩, ⟨f94.sound k, f94.fnok⟩, trivial⟩)) (f31.hok k) Try.func31 rfl) ((f31.ev k _).trans (f31.nat k _ _))
theorem f31.sound (k : Nat) : SoundC env Try.prog 31 (f31.e k).F := soundC_coer (f31.sound0 k) [[.rd 5]]
theorem f31.fnok : FnOK Try.prog 31 := fn_ok Try.func31 (by kernel_rfl) rfl
def f126.step {R : Type} (k : Nat) (ret : ((List Int)) → Option R) (xs1 : List Int) : Option R :=
  (f81 k xs1).bind fun t2 => (f123 k t2.1 t2.2.1 t2.2.2).bind fun t3 => (f125 k t3.1 t3.2.1 t3.2.2.1 t3.2.2.2.1 t3.2.2.2.2.1 t3.2.2.2.2.2.1 t3.2.2.2.2.2.2.1 t3.2.2.2.2.2.2.2.1 t3.2.2.2.2.2.2.2.2.1 t3.2.2.2.2.2.2.2.2.2.1).bind fun t4 => (f145 k t3.2.2.2.2.2.2.2.2.2.2.1 t3.2.2.2.2.2.2.2.2.2.2.2.1 t3.2.2.2.2.2.2.2.2.2.2.2.2 (5 : Int)).bind fun t5 => if (decide (t5.1 = (0 : Int))) = true then
            (f145 k t5.2.1 t5.2.2.1 t5.2.2.2 (if (44 : Int) < (((List.length t4) : Nat) : Int) then (44 : Int) else (((List.length t4) : Nat) : Int))).bind fun t6 => (f145 k t6.2.1 t6.2.2.1 t6.2.2.2 (256 : Int)).bind fun t7 => if (0 : Int) ≤ t6.1 then
                  if t6.1 < ((List.length t4 : Nat) : Int) then
                    ret (List.set t4 (Int.toNat t6.1) (IntKind.u8.wrap t7.1))
                  else none
                else none
          else
            if (decide (t5.1 = (1 : Int))) = true then
              (f145 k t5.2.1 t5.2.2.1 t5.2.2.2 (((List.length t4) : Nat) : Int)).bind fun t8 => if (0 : Int) ≤ t8.1 then
                  if t8.1 ≤ ((List.length t4 : Nat) : Int) then
                    ret (List.take ((Int.toNat t8.1) - 0) t4)
                  else none
                else none
            else
              if (decide (t5.1 = (2 : Int))) = true then
                if (List.length t4 + List.length ([(0 : Int)] : List Int)) * 1 ≤ maxN then
                  ret (t4 ++ ([(0 : Int)] : List Int))
                else none
              else
                if (decide (t5.1 = (3 : Int))) = true then
                  (f145 k t5.2.1 t5.2.2.1 t5.2.2.2 (20 : Int)).bind fun t9 => (f145 k t9.2.1 t9.2.2.1 t9.2.2.2 (256 : Int)).bind fun t10 => if (0 : Int) ≤ t9.1 then
                        if t9.1 < ((List.length t4 : Nat) : Int) then
                          if (decide ((((List.length (List.set t4 (Int.toNat t9.1) (IntKind.u8.wrap t10.1))) : Nat) : Int) ≥ (20 : Int))) = true then
                            if (0 : Int) < ((List.length (List.set t4 (Int.toNat t9.1) (IntKind.u8.wrap t10.1)) : Nat) : Int) then
                              if (decide ((IntKind.u8.wrap (Int.tdiv (List.getD (List.set t4 (Int.toNat t9.1) (IntKind.u8.wrap t10.1)) 0 (0 : Int)) (16 : Int))) = (4 : Int))) = true then
                                if (10 : Int) < ((List.length (List.set t4 (Int.toNat t9.1) (IntKind.u8.wrap t10.1)) : Nat) : Int) then
                                  if (11 : Int) < ((List.length (List.set (List.set t4 (Int.toNat t9.1) (IntKind.u8.wrap t10.1)) 10 (0 : Int)) : Nat) : Int) then
                                    if (20 : Int) ≤ ((List.length (List.set (List.set (List.set t4 (Int.toNat t9.1) (IntKind.u8.wrap t10.1)) 10 (0 : Int)) 11 (0 : Int)) : Nat) : Int) then
                                      (f151 k (List.take (20 - 0) (List.drop 0 (List.set (List.set (List.set t4 (Int.toNat t9.1) (IntKind.u8.wrap t10.1)) 10 (0 : Int)) 11 (0 : Int))))).bind fun t11 => if (10 : Int) < ((List.length (List.set (List.set (List.set t4 (Int.toNat t9.1) (IntKind.u8.wrap t10.1)) 10 (0 : Int)) 11 (0 : Int)) : Nat) : Int) then
                                          if (11 : Int) < ((List.length (List.set (List.set (List.set (List.set t4 (Int.toNat t9.1) (IntKind.u8.wrap t10.1)) 10 (0 : Int)) 11 (0 : Int)) 10 (IntKind.u8.wrap (IntKind.i64.wrap (Int.tdiv t11 (256 : Int))))) : Nat) : Int) then
                                            ret (List.set (List.set (List.set (List.set (List.set t4 (Int.toNat t9.1) (IntKind.u8.wrap t10.1)) 10 (0 : Int)) 11 (0 : Int)) 10 (IntKind.u8.wrap (IntKind.i64.wrap (Int.tdiv t11 (256 : Int))))) 11 (IntKind.u8.wrap (Int.tmod t11 (256 : Int))))
                                          else none
                                        else none
                                    else none
                                  else none
                                else none
                              else
                                ret (List.set t4 (Int.toNat t9.1) (IntKind.u8.wrap t10.1))
                            else none
                          else
                            ret (List.set t4 (Int.toNat t9.1) (IntKind.u8.wrap t10.1))
                        else none
                      else none
                else
                  ret t4
def f126 (k : Nat) (xs1 : List Int) : Option ((List Int)) := f126.step k some xs1
def f126.w {R : Type} : ((List Int)) → (Res env → Option R) → Option R := fun t12 K => K ⟨.v (.c (.own true 5 t12)), [[]]⟩
theorem f126.wn (x : ((List Int))) : ∃ res, ∀ {R : Type} (K : Res env → Option R), f126.w x K = K res := by
  exact ⟨_, fun _ => rfl⟩
def f126.hd (k : Nat) (ps_ : List (P2 env)) : Cl env :=
  gC Cl.no ps_ fun p_ ps_ => qC Cl.no p_ fun c_ => qSl Cl.no 5 c_ fun xs1 => gE Cl.no ps_ <| { α := (List Int), o := f126 k xs1, w := f126.w, nat := fun x _ => f126.wn x }
def f126.e (k : Nat) : Entry env := ⟨fun ps => f126.hd k (coer [[.rd 5]] ps), [], []⟩
def f126.X (k : Nat) : Ctx env := { C := lookE [(81, f81.e k), (123, f123.e k), (125, f125.e k), (145, f145.e k), (151, f151.e k)], L := lookE [], J := lookE [], keep := lookD [], keepX := lookD [], span := lookN [], eff := fun n => memN n [], prep := lookP [], np := 0 }
theorem f126.nat {R : Type} (k : Nat) (g : ((List Int)) → Option R) (xs1 : List Int) : f126.step k g xs1 = (f126 k xs1).bind g := by
  simp only [f126, f126.step, bind_ite, bind_sum, Option.bind_assoc, Option.bind_some, Option.bind_none]
theorem f126.ev (k : Nat) (xs1 : List Int) : evF (f126.X k) (bodyOf Try.f126) Try.f126.ntmps Try.f126.results.toList [.v (.c (.sl 5 xs1))] = f126.step k (fun x => f126.w x some) xs1 := by kernel_rfl
theorem f126.hok (k : Nat) : HOK (f126.X k) (bodyOf Try.f126) where
  l := allP_mem (by exact trivial)
  j := allP_mem (by exact trivial)
theorem f126.sound0 (k : Nat) : SoundC env Try.prog 126 (f126.hd k) := by
  intro ps_
  show GoodC _ _ _ ps_ (f126.hd k ps_)
  unfold f126.hd
  refine gC_ok (p := GoodC env Try.prog 126 _) goodC_no fun _ _ h => ?_
  subst h
  refine qC_ok (p := GoodC env Try.prog 126 _) goodC_no fun _ h => ?_
  subst h
  refine qSl_ok (p := GoodC env Try.prog 126 _) goodC_no fun _ h => ?_
  subst h
  refine gE_ok (p := GoodC env Try.prog 126 _) goodC_no fun h => ?_
  subst h
  exact fun_good (fun_sound envOK (cs_sound _ (by exact ⟨⟨f81.sound k, f81.fnok⟩, ⟨f123.sound k, f123.fnok⟩, ⟨f125.sound k, f125.fnok⟩, ⟨f145.sound k, f145.fnok⟩, ⟨f151.sound k, f151.fnok⟩, trivial⟩)) (f126.hok k) Try.func126 rfl) ((f126.ev k _).trans (f126.nat k _ _))
theorem f126.sound (k : Nat) : SoundC env Try.prog 126 (f126.e k).F := soundC_coer (f126.sound0 k) [[.rd 5]]
theorem f126.says (k : Nat) (xs1 : List Int) (t13 : (List Int)) (h_ : f126 k xs1 = some t13) : SoundAt env Try.prog 126 [.v (.c (.sl 5 xs1))] ⟨.v (.c (.own true 5 t13)), [[]]⟩ :=
  fun_sound envOK (cs_sound _ (by exact ⟨⟨f81.sound k, f81.fnok⟩, ⟨f123.sound k, f123.fnok⟩, ⟨f125.sound k, f125.fnok⟩, ⟨f145.sound k, f145.fnok⟩, ⟨f151.sound k, f151.fnok⟩, trivial⟩)) (f126.hok k) Try.func126 rfl _ _ (((f126.ev k xs1).trans (f126.nat k _ xs1)).trans (by rw [h_]; rfl))
theorem f126.fnok : FnOK Try.prog 126 := fn_ok Try.func126 (by kernel_rfl) rfl
def f58.step {R : Type} (k : Nat) (ret : ((List Int)) → Option R) (xs1 : List Int) : Option R :=
  (f126 k xs1).bind fun t2 => ret t2
def f58 (k : Nat) (xs1 : List Int) : Option ((List Int)) := f58.step k some xs1
def f58.w {R : Type} : ((List Int)) → (Res env → Option R) → Option R := fun t3 K => K ⟨.v (.c (.own true 5 t3)), [[]]⟩
theorem f58.wn (x : ((List Int))) : ∃ res, ∀ {R : Type} (K : Res env → Option R), f58.w x K = K res := by
  exact ⟨_, fun _ => rfl⟩
def f58.hd (k : Nat) (ps_ : List (P2 env)) : Cl env :=
  gC Cl.no ps_ fun p_ ps_ => qC Cl.no p_ fun c_ => qSl Cl.no 5 c_ fun xs1 => gE Cl.no ps_ <| { α := (List Int), o := f58 k xs1, w := f58.w, nat := fun x _ => f58.wn x }
def f58.e (k : Nat) : Entry env := ⟨fun ps => f58.hd k (coer [[.rd 5]] ps), [], []⟩
def f58.X (k : Nat) : Ctx env := { C := lookE [(126, f126.e k)], L := lookE [], J := lookE [], keep := lookD [], keepX := lookD [], span := lookN [], eff := fun n => memN n [], prep := lookP [], np := 0 }
theorem f58.nat {R : Type} (k : Nat) (g : ((List Int)) → Option R) (xs1 : List Int) : f58.step k g xs1 = (f58 k xs1).bind g := by
  simp only [f58, f58.step, bind_ite, bind_sum, Option.bind_assoc, Option.bind_some, Option.bind_none]
theorem f58.ev (k : Nat) (xs1 : List Int) : evF (f58.X k) (bodyOf Try.f58) Try.f58.ntmps Try.f58.results.toList [.v (.c (.sl 5 xs1))] = f58.step k (fun x => f58.w x some) xs1 := by kernel_rfl
theorem f58.hok (k : Nat) : HOK (f58.X k) (bodyOf Try.f58) where
  l := allP_mem (by exact trivial)
  j := allP_mem (by exact trivial)
theorem f58.sound0 (k : Nat) : SoundC env Try.prog 58 (f58.hd k) := by
  intro ps_
  show GoodC _ _ _ ps_ (f58.hd k ps_)
  unfold f58.hd
  refine gC_ok (p := GoodC env Try.prog 58 _) goodC_no fun _ _ h => ?_
  subst h
  refine qC_ok (p := GoodC env Try.prog 58 _) goodC_no fun _ h => ?_
  subst h
  refine qSl_ok (p := GoodC env Try.prog 58 _) goodC_no fun _ h => ?_
  subst h
  refine gE_ok (p := GoodC env Try.prog 58 _) goodC_no fun h => ?_
  subst h
  exact fun_good (fun_sound envOK (cs_sound _ (by exact ⟨⟨f126.sound k, f126.fnok⟩, trivial⟩)) (f58.hok k) Try.func58 rfl) ((f58.ev k _).trans (f58.nat k _ _))
theorem f58.sound (k : Nat) : SoundC env Try.prog 58 (f58.e k).F := soundC_coer (f58.sound0 k) [[.rd 5]]
theorem f58.says (k : Nat) (xs1 : List Int) (t4 : (List Int)) (h_ : f58 k xs1 = some t4) : SoundAt env Try.prog 58 [.v (.c (.sl 5 xs1))] ⟨.v (.c (.own true 5 t4)), [[]]⟩ :=
  fun_sound envOK (cs_sound _ (by exact ⟨⟨f126.sound k, f126.fnok⟩, trivial⟩)) (f58.hok k) Try.func58 rfl _ _ (((f58.ev k xs1).trans (f58.nat k _ xs1)).trans (by rw [h_]; rfl))
theorem f58.fnok : FnOK Try.prog 58 := fn_ok Try.func58 (by kernel_rfl) rfl
def f150.step {R : Type} (k : Nat) (ret : Int → Option R) (xs1 : List Int) (a2 : Int) : Option R :=
  if (0 : Int) ≤ a2 then
    if a2 < ((List.length xs1 : Nat) : Int) then
      if (0 : Int) ≤ (IntKind.i64.wrap (a2 + (1 : Int))) then
        if (IntKind.i64.wrap (a2 + (1 : Int))) < ((List.length xs1 : Nat) : Int) then
          ret (IntKind.i64.wrap ((IntKind.i64.wrap ((IntKind.i64.wrap (List.getD xs1 (Int.toNat a2) (0 : Int))) * (256 : Int))) + (IntKind.i64.wrap (List.getD xs1 (Int.toNat (IntKind.i64.wrap (a2 + (1 : Int)))) (0 : Int)))))
        else none
      else none
    else none
  else none
def f150 (k : Nat) (xs1 : List Int) (a2 : Int) : Option Int := f150.step k some xs1 a2
def f150.w {R : Type} : Int → (Res env → Option R) → Option R := fun t3 K => K ⟨.v (.c (.s (.int .i64 t3))), [[], []]⟩
theorem f150.wn (x : Int) : ∃ res, ∀ {R : Type} (K : Res env → Option R), f150.w x K = K res := by
  exact ⟨_, fun _ => rfl⟩
def f150.hd (k : Nat) (ps_ : List (P2 env)) : Cl env :=
  gC Cl.no ps_ fun p_ ps_ => qC Cl.no p_ fun c_ => qSl Cl.no 5 c_ fun xs1 => gC Cl.no ps_ fun p_ ps_ => qC Cl.no p_ fun c_ => qS Cl.no c_ fun v_ => vI Cl.no .i64 v_ fun a2 => gE Cl.no ps_ <| { α := Int, o := f150 k xs1 a2, w := f150.w, nat := fun x _ => f150.wn x }
def f150.e (k : Nat) : Entry env := ⟨fun ps => f150.hd k (coer [[.rd 5], [.no]] ps), [], []⟩
def f150.X (k : Nat) : Ctx env := { C := lookE [], L := lookE [], J := lookE [], keep := lookD [], keepX := lookD [], span := lookN [], eff := fun n => memN n [], prep := lookP [], np := 0 }
theorem f150.nat {R : Type} (k : Nat) (g : Int → Option R) (xs1 : List Int) (a2 : Int) : f150.step k g xs1 a2 = (f150 k xs1 a2).bind g := by
  simp only [f150, f150.step, bind_ite, bind_sum, Option.bind_assoc, Option.bind_some, Option.bind_none]
theorem f150.ev (k : Nat) (xs1 : List Int) (a2 : Int) : evF (f150.X k) (bodyOf Try.f150) Try.f150.ntmps Try.f150.results.toList [.v (.c (.sl 5 xs1)), .v (.c (.s (.int .i64 a2)))] = f150.step k (fun x => f150.w x some) xs1 a2 := by kernel_rfl
theorem f150.hok (k : Nat) : HOK (f150.X k) (bodyOf Try.f150) where
  l := allP_mem (by exact trivial)
  j := allP_mem (by exact trivial)
theorem f150.sound0 (k : Nat) : SoundC env Try.prog 150 (f150.hd k) := by
  intro ps_
  show GoodC _ _ _ ps_ (f150.hd k ps_)
  unfold f150.hd
  refine gC_ok (p := GoodC env Try.prog 150 _) goodC_no fun _ _ h => ?_
  subst h
  refine qC_ok (p := GoodC env Try.prog 150 _) goodC_no fun _ h => ?_
  subst h
  refine qSl_ok (p := GoodC env Try.prog 150 _) goodC_no fun _ h => ?_
  subst h
  refine gC_ok (p := GoodC env Try.prog 150 _) goodC_no fun _ _ h => ?_
  subst h
  refine qC_ok (p := GoodC env Try.prog 150 _) goodC_no fun _ h => ?_
  subst h
  refine qS_ok (p := GoodC env Try.prog 150 _) goodC_no fun _ h => ?_
  subst h
  refine vI_ok (p := GoodC env Try.prog 150 _) goodC_no fun _ h => ?_
  subst h
  refine gE_ok (p := GoodC env Try.prog 150 _) goodC_no fun h => ?_
  subst h
  exact fun_good (fun_sound envOK (cs_sound _ (by exact trivial)) (f150.hok k) Try.func150 rfl) ((f150.ev k _ _).trans (f150.nat k _ _ _))
theorem f150.sound (k : Nat) : SoundC env Try.prog 150 (f150.e k).F := soundC_coer (f150.sound0 k) [[.rd 5], [.no]]
theorem f150.says (k : Nat) (xs1 : List Int) (a2 : Int) (t4 : Int) (h_ : f150 k xs1 a2 = some t4) : SoundAt env Try.prog 150 [.v (.c (.sl 5 xs1)), .v (.c (.s (.int .i64 a2)))] ⟨.v (.c (.s (.int .i64 t4))), [[], []]⟩ :=
  fun_sound envOK (cs_sound _ (by exact trivial)) (f150.hok k) Try.func150 rfl _ _ (((f150.ev k xs1 a2).trans (f150.nat k _ xs1 a2)).trans (by rw [h_]; rfl))
theorem f150.fnok : FnOK Try.prog 150 := fn_ok Try.func150 (by kernel_rfl) rfl
def f91.step {R : Type} (k : Nat) (ret : ((Int × ByteArray × ByteArray × Int × Int × Int × Int × Bool × Bool × Int) ⊕ (Int × ByteArray × ByteArray × Int × Int × Int × Int × Bool × Bool × (List Int) × Int)) → Option R) (xs1 : List Int) : Option R :=
  if (decide ((((List.length xs1) : Nat) : Int) = (0 : Int))) = true then
    ret (.inl ((0 : Int), ByteArray.empty, ByteArray.empty, (0 : Int), (0 : Int), (0 : Int), (0 : Int), false, false, (3 : Int)))
  else
    if (0 : Int) < ((List.length xs1 : Nat) : Int) then
      if (decide ((IntKind.u8.wrap (Int.tdiv (List.getD xs1 0 (0 : Int)) (16 : Int))) = (6 : Int))) = true then
        if (decide ((((List.length xs1) : Nat) : Int) < (40 : Int))) = false then
          (f150 k xs1 (4 : Int)).bind fun t2 => if (decide ((((List.length xs1) : Nat) : Int) ≠ (IntKind.i64.wrap ((40 : Int) + t2)))) = true then
              ret (.inl ((0 : Int), ByteArray.empty, ByteArray.empty, (0 : Int), (0 : Int), (0 : Int), (0 : Int), false, false, (3 : Int)))
            else
              if (6 : Int) < ((List.length xs1 : Nat) : Int) then
                if (7 : Int) < ((List.length xs1 : Nat) : Int) then
                  if (24 : Int) ≤ ((List.length xs1 : Nat) : Int) then
                    if (40 : Int) ≤ ((List.length xs1 : Nat) : Int) then
                      if (40 : Int) ≤ ((List.length xs1 : Nat) : Int) then
                        if ((List.length xs1 : Nat) : Int) ≤ ((List.length xs1 : Nat) : Int) then
                          if (List.length ([] : List Int) + List.length (List.drop 40 (List.take (Int.toNat ((List.length xs1 : Nat) : Int)) xs1))) * 1 ≤ maxN then
                            (f85 k (6 : Int) (strOf (List.drop 8 (List.take 24 xs1))) (strOf (List.drop 24 (List.take 40 xs1))) (IntKind.i64.wrap (List.getD xs1 7 (0 : Int))) (IntKind.i64.wrap (List.getD xs1 6 (0 : Int))) (0 : Int) (0 : Int) false false (([] : List Int) ++ (List.drop 40 (List.take (Int.toNat ((List.length xs1 : Nat) : Int)) xs1)))).bind fun t3 => if (!t3) = true then
                                ret (.inl ((0 : Int), ByteArray.empty, ByteArray.empty, (0 : Int), (0 : Int), (0 : Int), (0 : Int), false, false, (1 : Int)))
                              else
                                ret (.inr ((6 : Int), (strOf (List.drop 8 (List.take 24 xs1))), (strOf (List.drop 24 (List.take 40 xs1))), (IntKind.i64.wrap (List.getD xs1 7 (0 : Int))), (IntKind.i64.wrap (List.getD xs1 6 (0 : Int))), (0 : Int), (0 : Int), false, false, (([] : List Int) ++ (List.drop 40 (List.take (Int.toNat ((List.length xs1 : Nat) : Int)) xs1))), (0 : Int)))
                          else none
                        else none
                      else none
                    else none
                  else none
                else none
              else none
        else
          ret (.inl ((0 : Int), ByteArray.empty, ByteArray.empty, (0 : Int), (0 : Int), (0 : Int), (0 : Int), false, false, (3 : Int)))
      else
        if (0 : Int) < ((List.length xs1 : Nat) : Int) then
          if (decide ((List.getD xs1 0 (0 : Int)) ≠ (69 : Int))) = false then
            if (decide ((((List.length xs1) : Nat) : Int) < (20 : Int))) = false then
              (f150 k xs1 (2 : Int)).bind fun t4 => if (decide ((((List.length xs1) : Nat) : Int) ≠ t4)) = true then
                  ret (.inl ((0 : Int), ByteArray.empty, ByteArray.empty, (0 : Int), (0 : Int), (0 : Int), (0 : Int), false, false, (3 : Int)))
                else
                  if (20 : Int) ≤ ((List.length xs1 : Nat) : Int) then
                    (f151 k (List.drop 0 (List.take 20 xs1))).bind fun t5 => if (decide (t5 ≠ (0 : Int))) = true then
                        ret (.inl ((0 : Int), ByteArray.empty, ByteArray.empty, (0 : Int), (0 : Int), (0 : Int), (0 : Int), false, false, (8 : Int)))
                      else
                        (f150 k xs1 (6 : Int)).bind fun t6 => (f150 k xs1 (4 : Int)).bind fun t7 => if (8 : Int) < ((List.length xs1 : Nat) : Int) then
                              if (9 : Int) < ((List.length xs1 : Nat) : Int) then
                                if (16 : Int) ≤ ((List.length xs1 : Nat) : Int) then
                                  if (20 : Int) ≤ ((List.length xs1 : Nat) : Int) then
                                    if (20 : Int) ≤ ((List.length xs1 : Nat) : Int) then
                                      if ((List.length xs1 : Nat) : Int) ≤ ((List.length xs1 : Nat) : Int) then
                                        if (List.length ([] : List Int) + List.length (List.drop 20 (List.take (Int.toNat ((List.length xs1 : Nat) : Int)) xs1))) * 1 ≤ maxN then
                                          if (decide (t6 ≥ (32768 : Int))) = false then
                                            (f85 k (4 : Int) (strOf (List.drop 12 (List.take 16 xs1))) (strOf (List.drop 16 (List.take 20 xs1))) (IntKind.i64.wrap (List.getD xs1 8 (0 : Int))) (IntKind.i64.wrap (List.getD xs1 9 (0 : Int))) t7 (Int.tmod t6 (8192 : Int)) (decide ((Int.tmod (IntKind.i64.wrap (Int.tdiv t6 (8192 : Int))) (2 : Int)) = (1 : Int))) (decide ((Int.tmod (IntKind.i64.wrap (Int.tdiv t6 (16384 : Int))) (2 : Int)) = (1 : Int))) (([] : List Int) ++ (List.drop 20 (List.take (Int.toNat ((List.length xs1 : Nat) : Int)) xs1)))).bind fun t8 => if (!t8) = true then
                                                ret (.inl ((0 : Int), ByteArray.empty, ByteArray.empty, (0 : Int), (0 : Int), (0 : Int), (0 : Int), false, false, (1 : Int)))
                                              else
                                                ret (.inr ((4 : Int), (strOf (List.drop 12 (List.take 16 xs1))), (strOf (List.drop 16 (List.take 20 xs1))), (IntKind.i64.wrap (List.getD xs1 8 (0 : Int))), (IntKind.i64.wrap (List.getD xs1 9 (0 : Int))), t7, (Int.tmod t6 (8192 : Int)), (decide ((Int.tmod (IntKind.i64.wrap (Int.tdiv t6 (8192 : Int))) (2 : Int)) = (1 : Int))), (decide ((Int.tmod (IntKind.i64.wrap (Int.tdiv t6 (16384 : Int))) (2 : Int)) = (1 : Int))), (([] : List Int) ++ (List.drop 20 (List.take (Int.toNat ((List.length xs1 : Nat) : Int)) xs1))), (0 : Int)))
                                          else
                                            ret (.inl ((0 : Int), ByteArray.empty, ByteArray.empty, (0 : Int), (0 : Int), (0 : Int), (0 : Int), false, false, (1 : Int)))
                                        else none
                                      else none
                                    else none
                                  else none
                                else none
                              else none
                            else none
                  else none
            else
              ret (.inl ((0 : Int), ByteArray.empty, ByteArray.empty, (0 : Int), (0 : Int), (0 : Int), (0 : Int), false, false, (3 : Int)))
          else
            ret (.inl ((0 : Int), ByteArray.empty, ByteArray.empty, (0 : Int), (0 : Int), (0 : Int), (0 : Int), false, false, (3 : Int)))
        else none
    else none
def f91 (k : Nat) (xs1 : List Int) : Option ((Int × ByteArray × ByteArray × Int × Int × Int × Int × Bool × Bool × Int) ⊕ (Int × ByteArray × ByteArray × Int × Int × Int × Int × Bool × Bool × (List Int) × Int)) := f91.step k some xs1
def f91.w {R : Type} : ((Int × ByteArray × ByteArray × Int × Int × Int × Int × Bool × Bool × Int) ⊕ (Int × ByteArray × ByteArray × Int × Int × Int × Int × Bool × Bool × (List Int) × Int)) → (Res env → Option R) → Option R := fun x K => Sum.elim (fun t9 => K ⟨.tup [.g [.s (.int .i64 t9.1), .s (.string t9.2.1), .s (.string t9.2.2.1), .s (.int .i64 t9.2.2.2.1), .s (.int .i64 t9.2.2.2.2.1), .s (.int .i64 t9.2.2.2.2.2.1), .s (.int .i64 t9.2.2.2.2.2.2.1), .s (.bool t9.2.2.2.2.2.2.2.1), .s (.bool t9.2.2.2.2.2.2.2.2.1), .s (.slice none 0 0)], .c (.s (.int .i64 t9.2.2.2.2.2.2.2.2.2))], [[]]⟩) (fun t10 => K ⟨.tup [.g [.s (.int .i64 t10.1), .s (.string t10.2.1), .s (.string t10.2.2.1), .s (.int .i64 t10.2.2.2.1), .s (.int .i64 t10.2.2.2.2.1), .s (.int .i64 t10.2.2.2.2.2.1), .s (.int .i64 t10.2.2.2.2.2.2.1), .s (.bool t10.2.2.2.2.2.2.2.1), .s (.bool t10.2.2.2.2.2.2.2.2.1), .own true 5 t10.2.2.2.2.2.2.2.2.2.1], .c (.s (.int .i64 t10.2.2.2.2.2.2.2.2.2.2))], [[]]⟩) x
theorem f91.wn (x : ((Int × ByteArray × ByteArray × Int × Int × Int × Int × Bool × Bool × Int) ⊕ (Int × ByteArray × ByteArray × Int × Int × Int × Int × Bool × Bool × (List Int) × Int))) : ∃ res, ∀ {R : Type} (K : Res env → Option R), f91.w x K = K res := by
  rcases x with x | x <;> exact ⟨_, fun _ => rfl⟩
def f91.hd (k : Nat) (ps_ : List (P2 env)) : Cl env :=
  gC Cl.no ps_ fun p_ ps_ => qC Cl.no p_ fun c_ => qSl Cl.no 5 c_ fun xs1 => gE Cl.no ps_ <| { α := (Int × ByteArray × ByteArray × Int × Int × Int × Int × Bool × Bool × Int) ⊕ (Int × ByteArray × ByteArray × Int × Int × Int × Int × Bool × Bool × (List Int) × Int), o := f91 k xs1, w := f91.w, nat := fun x _ => f91.wn x }
def f91.e (k : Nat) : Entry env := ⟨fun ps => f91.hd k (coer [[.rd 5]] ps), [], []⟩
def f91.X (k : Nat) : Ctx env := { C := lookE [(85, f85.e k), (150, f150.e k), (151, f151.e k)], L := lookE [], J := lookE [], keep := lookD [], keepX := lookD [], span := lookN [], eff := fun n => memN n [7, 16], prep := lookP [], np := 0 }
theorem f91.nat {R : Type} (k : Nat) (g : ((Int × ByteArray × ByteArray × Int × Int × Int × Int × Bool × Bool × Int) ⊕ (Int × ByteArray × ByteArray × Int × Int × Int × Int × Bool × Bool × (List Int) × Int)) → Option R) (xs1 : List Int) : f91.step k g xs1 = (f91 k xs1).bind g := by
  simp only [f91, f91.step, bind_ite, bind_sum, Option.bind_assoc, Option.bind_some, Option.bind_none]
theorem f91.ev (k : Nat) (xs1 : List Int) : evF (f91.X k) (bodyOf Try.f91) Try.f91.ntmps Try.f91.results.toList [.v (.c (.sl 5 xs1))] = f91.step k (fun x => f91.w x some) xs1 := by kernel_rfl
theorem f91.hok (k : Nat) : HOK (f91.X k) (bodyOf Try.f91) where
  l := allP_mem (by exact trivial)
  j := allP_mem (by exact trivial)
theorem f91.sound0 (k : Nat) : SoundC env Try.prog 91 (f91.hd k) := by
  intro ps_
  show GoodC _ _ _ ps_ (f91.hd k ps_)
  unfold f91.hd
  refine gC_ok (p := GoodC env Try.prog 91 _) goodC_no fun _ _ h => ?_
  subst h
  refine qC_ok (p := GoodC env Try.prog 91 _) goodC_no fun _ h => ?_
  subst h
  refine qSl_ok (p := GoodC env Try.prog 91 _) goodC_no fun _ h => ?_
  subst h
  refine gE_ok (p := GoodC env Try.prog 91 _) goodC_no fun h => ?_
  subst h
  exact fun_good (fun_sound envOK (cs_sound _ (by exact ⟨⟨f85.sound k, f85.fnok⟩, ⟨f150.sound k, f150.fnok⟩, ⟨f151.sound k, f151.fnok⟩, trivial⟩)) (f91.hok k) Try.func91 rfl) ((f91.ev k _).trans (f91.nat k _ _))
theorem f91.sound (k : Nat) : SoundC env Try.prog 91 (f91.e k).F := soundC_coer (f91.sound0 k) [[.rd 5]]
theorem f91.fnok : FnOK Try.prog 91 := fn_ok Try.func91 (by kernel_rfl) rfl
def f29.step {R : Type} (k : Nat) (ret : ((Int × ByteArray × ByteArray × Int × Int × Int × Int × Bool × Bool × Int) ⊕ (Int × ByteArray × ByteArray × Int × Int × Int × Int × Bool × Bool × (List Int) × Int)) → Option R) (xs1 : List Int) : Option R :=
  if (decide ((((List.length xs1) : Nat) : Int) > (65536 : Int))) = true then
    ret (.inl ((0 : Int), ByteArray.empty, ByteArray.empty, (0 : Int), (0 : Int), (0 : Int), (0 : Int), false, false, (2 : Int)))
  else
    (f91 k xs1).bind (Sum.elim (fun t2 => ret (.inl (t2.1, t2.2.1, t2.2.2.1, t2.2.2.2.1, t2.2.2.2.2.1, t2.2.2.2.2.2.1, t2.2.2.2.2.2.2.1, t2.2.2.2.2.2.2.2.1, t2.2.2.2.2.2.2.2.2.1, t2.2.2.2.2.2.2.2.2.2))) (fun t3 => ret (.inr (t3.1, t3.2.1, t3.2.2.1, t3.2.2.2.1, t3.2.2.2.2.1, t3.2.2.2.2.2.1, t3.2.2.2.2.2.2.1, t3.2.2.2.2.2.2.2.1, t3.2.2.2.2.2.2.2.2.1, t3.2.2.2.2.2.2.2.2.2.1, t3.2.2.2.2.2.2.2.2.2.2))))
def f29 (k : Nat) (xs1 : List Int) : Option ((Int × ByteArray × ByteArray × Int × Int × Int × Int × Bool × Bool × Int) ⊕ (Int × ByteArray × ByteArray × Int × Int × Int × Int × Bool × Bool × (List Int) × Int)) := f29.step k some xs1
def f29.w {R : Type} : ((Int × ByteArray × ByteArray × Int × Int × Int × Int × Bool × Bool × Int) ⊕ (Int × ByteArray × ByteArray × Int × Int × Int × Int × Bool × Bool × (List Int) × Int)) → (Res env → Option R) → Option R := fun x K => Sum.elim (fun t4 => K ⟨.tup [.g [.s (.int .i64 t4.1), .s (.string t4.2.1), .s (.string t4.2.2.1), .s (.int .i64 t4.2.2.2.1), .s (.int .i64 t4.2.2.2.2.1), .s (.int .i64 t4.2.2.2.2.2.1), .s (.int .i64 t4.2.2.2.2.2.2.1), .s (.bool t4.2.2.2.2.2.2.2.1), .s (.bool t4.2.2.2.2.2.2.2.2.1), .s (.slice none 0 0)], .c (.s (.int .i64 t4.2.2.2.2.2.2.2.2.2))], [[]]⟩) (fun t5 => K ⟨.tup [.g [.s (.int .i64 t5.1), .s (.string t5.2.1), .s (.string t5.2.2.1), .s (.int .i64 t5.2.2.2.1), .s (.int .i64 t5.2.2.2.2.1), .s (.int .i64 t5.2.2.2.2.2.1), .s (.int .i64 t5.2.2.2.2.2.2.1), .s (.bool t5.2.2.2.2.2.2.2.1), .s (.bool t5.2.2.2.2.2.2.2.2.1), .own true 5 t5.2.2.2.2.2.2.2.2.2.1], .c (.s (.int .i64 t5.2.2.2.2.2.2.2.2.2.2))], [[]]⟩) x
theorem f29.wn (x : ((Int × ByteArray × ByteArray × Int × Int × Int × Int × Bool × Bool × Int) ⊕ (Int × ByteArray × ByteArray × Int × Int × Int × Int × Bool × Bool × (List Int) × Int))) : ∃ res, ∀ {R : Type} (K : Res env → Option R), f29.w x K = K res := by
  rcases x with x | x <;> exact ⟨_, fun _ => rfl⟩
def f29.hd (k : Nat) (ps_ : List (P2 env)) : Cl env :=
  gC Cl.no ps_ fun p_ ps_ => qC Cl.no p_ fun c_ => qSl Cl.no 5 c_ fun xs1 => gE Cl.no ps_ <| { α := (Int × ByteArray × ByteArray × Int × Int × Int × Int × Bool × Bool × Int) ⊕ (Int × ByteArray × ByteArray × Int × Int × Int × Int × Bool × Bool × (List Int) × Int), o := f29 k xs1, w := f29.w, nat := fun x _ => f29.wn x }
def f29.e (k : Nat) : Entry env := ⟨fun ps => f29.hd k (coer [[.rd 5]] ps), [], []⟩
def f29.X (k : Nat) : Ctx env := { C := lookE [(91, f91.e k)], L := lookE [], J := lookE [], keep := lookD [], keepX := lookD [], span := lookN [], eff := fun n => memN n [], prep := lookP [], np := 0 }
theorem f29.nat {R : Type} (k : Nat) (g : ((Int × ByteArray × ByteArray × Int × Int × Int × Int × Bool × Bool × Int) ⊕ (Int × ByteArray × ByteArray × Int × Int × Int × Int × Bool × Bool × (List Int) × Int)) → Option R) (xs1 : List Int) : f29.step k g xs1 = (f29 k xs1).bind g := by
  simp only [f29, f29.step, bind_ite, bind_sum, Option.bind_assoc, Option.bind_some, Option.bind_none]
theorem f29.ev (k : Nat) (xs1 : List Int) : evF (f29.X k) (bodyOf Try.f29) Try.f29.ntmps Try.f29.results.toList [.v (.c (.sl 5 xs1))] = f29.step k (fun x => f29.w x some) xs1 := by kernel_rfl
theorem f29.hok (k : Nat) : HOK (f29.X k) (bodyOf Try.f29) where
  l := allP_mem (by exact trivial)
  j := allP_mem (by exact trivial)
theorem f29.sound0 (k : Nat) : SoundC env Try.prog 29 (f29.hd k) := by
  intro ps_
  show GoodC _ _ _ ps_ (f29.hd k ps_)
  unfold f29.hd
  refine gC_ok (p := GoodC env Try.prog 29 _) goodC_no fun _ _ h => ?_
  subst h
  refine qC_ok (p := GoodC env Try.prog 29 _) goodC_no fun _ h => ?_
  subst h
  refine qSl_ok (p := GoodC env Try.prog 29 _) goodC_no fun _ h => ?_
  subst h
  refine gE_ok (p := GoodC env Try.prog 29 _) goodC_no fun h => ?_
  subst h
  exact fun_good (fun_sound envOK (cs_sound _ (by exact ⟨⟨f91.sound k, f91.fnok⟩, trivial⟩)) (f29.hok k) Try.func29 rfl) ((f29.ev k _).trans (f29.nat k _ _))
theorem f29.sound (k : Nat) : SoundC env Try.prog 29 (f29.e k).F := soundC_coer (f29.sound0 k) [[.rd 5]]
theorem f29.fnok : FnOK Try.prog 29 := fn_ok Try.func29 (by kernel_rfl) rfl
def f19.step {R : Type} (k : Nat) (ret : Bool → Option R) (a1 : Int) (s2 : ByteArray) (s3 : ByteArray) (a4 : Int) (a5 : Int) (a6 : Int) (a7 : Int) (b8 : Bool) (b9 : Bool) (xs10 : List Int) (a11 : Int) (s12 : ByteArray) (s13 : ByteArray) (a14 : Int) (a15 : Int) (a16 : Int) (a17 : Int) (b18 : Bool) (b19 : Bool) (xs20 : List Int) : Option R :=
  if (decide (a1 = a11)) = true then
    if (decide (ByteArray.toList s2 = ByteArray.toList s12)) = true then
      if (decide (ByteArray.toList s3 = ByteArray.toList s13)) = true then
        if (decide (a4 = a14)) = true then
          if (decide (a5 = a15)) = true then
            if (decide (a6 = a16)) = true then
              if (decide (a7 = a17)) = true then
                if (b8 == b18) = true then
                  if (b9 == b19) = true then
                    ret (decide (ByteArray.toList (strOf xs10) = ByteArray.toList (strOf xs20)))
                  else
                    ret false
                else
                  ret false
              else
                ret false
            else
              ret false
          else
            ret false
        else
          ret false
      else
        ret false
    else
      ret false
  else
    ret false
def f19 (k : Nat) (a1 : Int) (s2 : ByteArray) (s3 : ByteArray) (a4 : Int) (a5 : Int) (a6 : Int) (a7 : Int) (b8 : Bool) (b9 : Bool) (xs10 : List Int) (a11 : Int) (s12 : ByteArray) (s13 : ByteArray) (a14 : Int) (a15 : Int) (a16 : Int) (a17 : Int) (b18 : Bool) (b19 : Bool) (xs20 : List Int) : Option Bool := f19.step k some a1 s2 s3 a4 a5 a6 a7 b8 b9 xs10 a11 s12 s13 a14 a15 a16 a17 b18 b19 xs20
def f19.w {R : Type} : Bool → (Res env → Option R) → Option R := fun t21 K => K ⟨.v (.c (.s (.bool t21))), [[], []]⟩
theorem f19.wn (x : Bool) : ∃ res, ∀ {R : Type} (K : Res env → Option R), f19.w x K = K res := by
  exact ⟨_, fun _ => rfl⟩
def f19.hd (k : Nat) (ps_ : List (P2 env)) : Cl env :=
  gC Cl.no ps_ fun p_ ps_ => qG Cl.no p_ fun cs_ => gC Cl.no cs_ fun c_ cs_ => qS Cl.no c_ fun v_ => vI Cl.no .i64 v_ fun a1 => gC Cl.no cs_ fun c_ cs_ => qS Cl.no c_ fun v_ => vS Cl.no v_ fun s2 => gC Cl.no cs_ fun c_ cs_ => qS Cl.no c_ fun v_ => vS Cl.no v_ fun s3 => gC Cl.no cs_ fun c_ cs_ => qS Cl.no c_ fun v_ => vI Cl.no .i64 v_ fun a4 => gC Cl.no cs_ fun c_ cs_ => qS Cl.no c_ fun v_ => vI Cl.no .i64 v_ fun a5 => gC Cl.no cs_ fun c_ cs_ => qS Cl.no c_ fun v_ => vI Cl.no .i64 v_ fun a6 => gC Cl.no cs_ fun c_ cs_ => qS Cl.no c_ fun v_ => vI Cl.no .i64 v_ fun a7 => gC Cl.no cs_ fun c_ cs_ => qS Cl.no c_ fun v_ => vB Cl.no v_ fun b8 => gC Cl.no cs_ fun c_ cs_ => qS Cl.no c_ fun v_ => vB Cl.no v_ fun b9 => gC Cl.no cs_ fun c_ cs_ => qSl Cl.no 5 c_ fun xs10 => gE Cl.no cs_ <| gC Cl.no ps_ fun p_ ps_ => qG Cl.no p_ fun cs_ => gC Cl.no cs_ fun c_ cs_ => qS Cl.no c_ fun v_ => vI Cl.no .i64 v_ fun a11 => gC Cl.no cs_ fun c_ cs_ => qS Cl.no c_ fun v_ => vS Cl.no v_ fun s12 => gC Cl.no cs_ fun c_ cs_ => qS Cl.no c_ fun v_ => vS Cl.no v_ fun s13 => gC Cl.no cs_ fun c_ cs_ => qS Cl.no c_ fun v_ => vI Cl.no .i64 v_ fun a14 => gC Cl.no cs_ fun c_ cs_ => qS Cl.no c_ fun v_ => vI Cl.no .i64 v_ fun a15 => gC Cl.no cs_ fun c_ cs_ => qS Cl.no c_ fun v_ => vI Cl.no .i64 v_ fun a16 => gC Cl.no cs_ fun c_ cs_ => qS Cl.no c_ fun v_ => vI Cl.no .i64 v_ fun a17 => gC Cl.no cs_ fun c_ cs_ => qS Cl.no c_ fun v_ => vB Cl.no v_ fun b18 => gC Cl.no cs_ fun c_ cs_ => qS Cl.no c_ fun v_ => vB Cl.no v_ fun b19 => gC Cl.no cs_ fun c_ cs_ => qSl Cl.no 5 c_ fun xs20 => gE Cl.no cs_ <| gE Cl.no ps_ <| { α := Bool, o := f19 k a1 s2 s3 a4 a5 a6 a7 b8 b9 xs10 a11 s12 s13 a14 a15 a16 a17 b18 b19 xs20, w := f19.w, nat := fun x _ => f19.wn x }
def f19.e (k : Nat) : Entry env := ⟨fun ps => f19.hd k (coer [[.no, .no, .no, .no, .no, .no, .no, .no, .no, .rd 5], [.no, .no, .no, .no, .no, .no, .no, .no, .no, .rd 5]] ps), [], []⟩
def f19.X (k : Nat) : Ctx env := { C := lookE [], L := lookE [], J := lookE [], keep := lookD [], keepX := lookD [], span := lookN [], eff := fun n => memN n [], prep := lookP [], np := 0 }
theorem f19.nat {R : Type} (k : Nat) (g : Bool → Option R) (a1 : Int) (s2 : ByteArray) (s3 : ByteArray) (a4 : Int) (a5 : Int) (a6 : Int) (a7 : Int) (b8 : Bool) (b9 : Bool) (xs10 : List Int) (a11 : Int) (s12 : ByteArray) (s13 : ByteArray) (a14 : Int) (a15 : Int) (a16 : Int) (a17 : Int) (b18 : Bool) (b19 : Bool) (xs20 : List Int) : f19.step k g a1 s2 s3 a4 a5 a6 a7 b8 b9 xs10 a11 s12 s13 a14 a15 a16 a17 b18 b19 xs20 = (f19 k a1 s2 s3 a4 a5 a6 a7 b8 b9 xs10 a11 s12 s13 a14 a15 a16 a17 b18 b19 xs20).bind g := by
  simp only [f19, f19.step, bind_ite, bind_sum, Option.bind_assoc, Option.bind_some, Option.bind_none]
theorem f19.ev (k : Nat) (a1 : Int) (s2 : ByteArray) (s3 : ByteArray) (a4 : Int) (a5 : Int) (a6 : Int) (a7 : Int) (b8 : Bool) (b9 : Bool) (xs10 : List Int) (a11 : Int) (s12 : ByteArray) (s13 : ByteArray) (a14 : Int) (a15 : Int) (a16 : Int) (a17 : Int) (b18 : Bool) (b19 : Bool) (xs20 : List Int) : evF (f19.X k) (bodyOf Try.f19) Try.f19.ntmps Try.f19.results.toList [.g [.s (.int .i64 a1), .s (.string s2), .s (.string s3), .s (.int .i64 a4), .s (.int .i64 a5), .s (.int .i64 a6), .s (.int .i64 a7), .s (.bool b8), .s (.bool b9), .sl 5 xs10], .g [.s (.int .i64 a11), .s (.string s12), .s (.string s13), .s (.int .i64 a14), .s (.int .i64 a15), .s (.int .i64 a16), .s (.int .i64 a17), .s (.bool b18), .s (.bool b19), .sl 5 xs20]] = f19.step k (fun x => f19.w x some) a1 s2 s3 a4 a5 a6 a7 b8 b9 xs10 a11 s12 s13 a14 a15 a16 a17 b18 b19 xs20 := by kernel_rfl
theorem f19.hok (k : Nat) : HOK (f19.X k) (bodyOf Try.f19) where
  l := allP_mem (by exact trivial)
  j := allP_mem (by exact trivial)
theorem f19.sound0 (k : Nat) : SoundC env Try.prog 19 (f19.hd k) := by
  intro ps_
  show GoodC _ _ _ ps_ (f19.hd k ps_)
  unfold f19.hd
  refine gC_ok (p := GoodC env Try.prog 19 _) goodC_no fun _ _ h => ?_
  subst h
  refine qG_ok (p := GoodC env Try.prog 19 _) goodC_no fun _ h => ?_
  subst h
  refine gC_ok (p := GoodC env Try.prog 19 _) goodC_no fun _ _ h => ?_
  subst h
  refine qS_ok (p := GoodC env Try.prog 19 _) goodC_no fun _ h => ?_
  subst h
  refine vI_ok (p := GoodC env Try.prog 19 _) goodC_no fun _ h => ?_
  subst h
  refine gC_ok (p := GoodC env Try.prog 19 _) goodC_no fun _ _ h => ?_
  subst h
  refine qS_ok (p := GoodC env Try.prog 19 _) goodC_no fun _ h => ?_
  subst h
  refine vS_ok (p := GoodC env Try.prog 19 _) goodC_no fun _ h => ?_
  subst h
  refine gC_ok (p := GoodC env Try.prog 19 _) goodC_no fun _ _ h => ?_
  subst h
  refine qS_ok (p := GoodC env Try.prog 19 _) goodC_no fun _ h => ?_
  subst h
  refine vS_ok (p := GoodC env Try.prog 19 _) goodC_no fun _ h => ?_
  subst h
  refine gC_ok (p := GoodC env Try.prog 19 _) goodC_no fun _ _ h => ?_
  subst h
  refine qS_ok (p := GoodC env Try.prog 19 _) goodC_no fun _ h => ?_
  subst h
  refine vI_ok (p := GoodC env Try.prog 19 _) goodC_no fun _ h => ?_
  subst h
  refine gC_ok (p := GoodC env Try.prog 19 _) goodC_no fun _ _ h => ?_
  subst h
  refine qS_ok (p := GoodC env Try.prog 19 _) goodC_no fun _ h => ?_
  subst h
  refine vI_ok (p := GoodC env Try.prog 19 _) goodC_no fun _ h => ?_
  subst h
  refine gC_ok (p := GoodC env Try.prog 19 _) goodC_no fun _ _ h => ?_
  subst h
  refine qS_ok (p := GoodC env Try.prog 19 _) goodC_no fun _ h => ?_
  subst h
  refine vI_ok (p := GoodC env Try.prog 19 _) goodC_no fun _ h => ?_
  subst h
  refine gC_ok (p := GoodC env Try.prog 19 _) goodC_no fun _ _ h => ?_
  subst h
  refine qS_ok (p := GoodC env Try.prog 19 _) goodC_no fun _ h => ?_
  subst h
  refine vI_ok (p := GoodC env Try.prog 19 _) goodC_no fun _ h => ?_
  subst h
  refine gC_ok (p := GoodC env Try.prog 19 _) goodC_no fun _ _ h => ?_
  subst h
  refine qS_ok (p := GoodC env Try.prog 19 _) goodC_no fun _ h => ?_
  subst h
  refine vB_ok (p := GoodC env Try.prog 19 _) goodC_no fun _ h => ?_
  subst h
  refine gC_ok (p := GoodC env Try.prog 19 _) goodC_no fun _ _ h => ?_
  subst h
  refine qS_ok (p := GoodC env Try.prog 19 _) goodC_no fun _ h => ?_
  subst h
  refine vB_ok (p := GoodC env Try.prog 19 _) goodC_no fun _ h => ?_
  subst h
  refine gC_ok (p := GoodC env Try.prog 19 _) goodC_no fun _ _ h => ?_
  subst h
  refine qSl_ok (p := GoodC env Try.prog 19 _) goodC_no fun _ h => ?_
  subst h
  refine gE_ok (p := GoodC env Try.prog 19 _) goodC_no fun h => ?_
  subst h
  refine gC_ok (p := GoodC env Try.prog 19 _) goodC_no fun _ _ h => ?_
  subst h
  refine qG_ok (p := GoodC env Try.prog 19 _) goodC_no fun _ h => ?_
  subst h
  refine gC_ok (p := GoodC env Try.prog 19 _) goodC_no fun _ _ h => ?_
  subst h
  refine qS_ok (p := GoodC env Try.prog 19 _) goodC_no fun _ h => ?_
  subst h
  refine vI_ok (p := GoodC env Try.prog 19 _) goodC_no fun _ h => ?_
  subst h
  refine gC_ok (p := GoodC env Try.prog 19 _) goodC_no fun _ _ h => ?_
  subst h
  refine qS_ok (p := GoodC env Try.prog 19 _) goodC_no fun _ h => ?_
  subst h
  refine vS_ok (p := GoodC env Try.prog 19 _) goodC_no fun _ h => ?_
  subst h
  refine gC_ok (p := GoodC env Try.prog 19 _) goodC_no fun _ _ h => ?_
  subst h
  refine qS_ok (p := GoodC env Try.prog 19 _) goodC_no fun _ h => ?_
  subst h
  refine vS_ok (p := GoodC env Try.prog 19 _) goodC_no fun _ h => ?_
  subst h
  refine gC_ok (p := GoodC env Try.prog 19 _) goodC_no fun _ _ h => ?_
  subst h
  refine qS_ok (p := GoodC env Try.prog 19 _) goodC_no fun _ h => ?_
  subst h
  refine vI_ok (p := GoodC env Try.prog 19 _) goodC_no fun _ h => ?_
  subst h
  refine gC_ok (p := GoodC env Try.prog 19 _) goodC_no fun _ _ h => ?_
  subst h
  refine qS_ok (p := GoodC env Try.prog 19 _) goodC_no fun _ h => ?_
  subst h
  refine vI_ok (p := GoodC env Try.prog 19 _) goodC_no fun _ h => ?_
  subst h
  refine gC_ok (p := GoodC env Try.prog 19 _) goodC_no fun _ _ h => ?_
  subst h
  refine qS_ok (p := GoodC env Try.prog 19 _) goodC_no fun _ h => ?_
  subst h
  refine vI_ok (p := GoodC env Try.prog 19 _) goodC_no fun _ h => ?_
  subst h
  refine gC_ok (p := GoodC env Try.prog 19 _) goodC_no fun _ _ h => ?_
  subst h
  refine qS_ok (p := GoodC env Try.prog 19 _) goodC_no fun _ h => ?_
  subst h
  refine vI_ok (p := GoodC env Try.prog 19 _) goodC_no fun _ h => ?_
  subst h
  refine gC_ok (p := GoodC env Try.prog 19 _) goodC_no fun _ _ h => ?_
  subst h
  refine qS_ok (p := GoodC env Try.prog 19 _) goodC_no fun _ h => ?_
  subst h
  refine vB_ok (p := GoodC env Try.prog 19 _) goodC_no fun _ h => ?_
  subst h
  refine gC_ok (p := GoodC env Try.prog 19 _) goodC_no fun _ _ h => ?_
  subst h
  refine qS_ok (p := GoodC env Try.prog 19 _) goodC_no fun _ h => ?_
  subst h
  refine vB_ok (p := GoodC env Try.prog 19 _) goodC_no fun _ h => ?_
  subst h
  refine gC_ok (p := GoodC env Try.prog 19 _) goodC_no fun _ _ h => ?_
  subst h
  refine qSl_ok (p := GoodC env Try.prog 19 _) goodC_no fun _ h => ?_
  subst h
  refine gE_ok (p := GoodC env Try.prog 19 _) goodC_no fun h => ?_
  subst h
  refine gE_ok (p := GoodC env Try.prog 19 _) goodC_no fun h => ?_
  subst h
  exact fun_good (fun_sound envOK (cs_sound _ (by exact trivial)) (f19.hok k) Try.func19 rfl) ((f19.ev k _ _ _ _ _ _ _ _ _ _ _ _ _ _ _ _ _ _ _ _).trans (f19.nat k _ _ _ _ _ _ _ _ _ _ _ _ _ _ _ _ _ _ _ _ _))
theorem f19.sound (k : Nat) : SoundC env Try.prog 19 (f19.e k).F := soundC_coer (f19.sound0 k) [[.no, .no, .no, .no, .no, .no, .no, .no, .no, .rd 5], [.no, .no, .no, .no, .no, .no, .no, .no, .no, .rd 5]]
theorem f19.says (k : Nat) (a1 : Int) (s2 : ByteArray) (s3 : ByteArray) (a4 : Int) (a5 : Int) (a6 : Int) (a7 : Int) (b8 : Bool) (b9 : Bool) (xs10 : List Int) (a11 : Int) (s12 : ByteArray) (s13 : ByteArray) (a14 : Int) (a15 : Int) (a16 : Int) (a17 : Int) (b18 : Bool) (b19 : Bool) (xs20 : List Int) (t22 : Bool) (h_ : f19 k a1 s2 s3 a4 a5 a6 a7 b8 b9 xs10 a11 s12 s13 a14 a15 a16 a17 b18 b19 xs20 = some t22) : SoundAt env Try.prog 19 [.g [.s (.int .i64 a1), .s (.string s2), .s (.string s3), .s (.int .i64 a4), .s (.int .i64 a5), .s (.int .i64 a6), .s (.int .i64 a7), .s (.bool b8), .s (.bool b9), .sl 5 xs10], .g [.s (.int .i64 a11), .s (.string s12), .s (.string s13), .s (.int .i64 a14), .s (.int .i64 a15), .s (.int .i64 a16), .s (.int .i64 a17), .s (.bool b18), .s (.bool b19), .sl 5 xs20]] ⟨.v (.c (.s (.bool t22))), [[], []]⟩ :=
  fun_sound envOK (cs_sound _ (by exact trivial)) (f19.hok k) Try.func19 rfl _ _ (((f19.ev k a1 s2 s3 a4 a5 a6 a7 b8 b9 xs10 a11 s12 s13 a14 a15 a16 a17 b18 b19 xs20).trans (f19.nat k _ a1 s2 s3 a4 a5 a6 a7 b8 b9 xs10 a11 s12 s13 a14 a15 a16 a17 b18 b19 xs20)).trans (by rw [h_]; rfl))
theorem f19.fnok : FnOK Try.prog 19 := fn_ok Try.func19 (by kernel_rfl) rfl
end Go.Proofs.Ytildepkogbcdpaa.B

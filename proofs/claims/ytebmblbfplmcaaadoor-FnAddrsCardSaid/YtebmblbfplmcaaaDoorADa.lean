/- Written by a program of this session. -/
import Derived.Test.YtebmblbfplmcaaaDoorExt
import Derived.Test.YtebmblbfplmcaaaDoorExt2
import Derived.Test.YtebmblbfplmcaaaDoorBEnv
import Derived.Test.YtebmblbfplmcaaaDoorBHd
namespace Go.Proofs.YtebmblbfplmcaaaDoor.B
open Go Go.B
set_option linter.unusedVariables false
set_option linter.unusedSimpArgs false
def f25.step {R : Type} (k : Nat) (ret : ((List Int) × Int × Int) → Option R) (xs1 : List Int) : Option R :=
  ret (xs1, (0 : Int), (Int.tmod (((List.length xs1) : Nat) : Int) (1000 : Int)))
def f25 (k : Nat) (xs1 : List Int) : Option ((List Int) × Int × Int) := f25.step k some xs1
def f25.w {R : Type} : ((List Int) × Int × Int) → (Res env → Option R) → Option R := fun t2 K => K ⟨.v (.c (.ptr [.sl 5 t2.1, .s (.int .i64 t2.2.1), .s (.int .i64 t2.2.2)])), [[]]⟩
theorem f25.wn (x : ((List Int) × Int × Int)) : ∃ res, ∀ {R : Type} (K : Res env → Option R), f25.w x K = K res := by
  exact ⟨_, fun _ => rfl⟩
def f25.hd (k : Nat) (ps_ : List (P2 env)) : Cl env :=
  gC Cl.no ps_ fun p_ ps_ => qC Cl.no p_ fun c_ => qSl Cl.no 5 c_ fun xs1 => gE Cl.no ps_ <| { α := (List Int) × Int × Int, o := f25 k xs1, w := f25.w, nat := fun x _ => f25.wn x }
def f25.e (k : Nat) : Entry env := ⟨fun ps => f25.hd k (coer [[.rd 5]] ps), [], []⟩
def f25.X (k : Nat) : Ctx env := { C := lookE [], L := lookE [], J := lookE [], keep := lookD [], keepX := lookD [], span := lookN [], eff := fun n => memN n [], prep := lookP [], np := 0 }
theorem f25.nat {R : Type} (k : Nat) (g : ((List Int) × Int × Int) → Option R) (xs1 : List Int) : f25.step k g xs1 = (f25 k xs1).bind g := by
  simp only [f25, f25.step, bind_ite, bind_sum, Option.bind_assoc, Option.bind_some, Option.bind_none]
theorem f25.ev (k : Nat) (xs1 : List Int) : evF (f25.X k) (bodyOf Tryd.f25) Tryd.f25.ntmps Tryd.f25.results.toList [.v (.c (.sl 5 xs1))] = f25.step k (fun x => f25.w x some) xs1 := by kernel_rfl
theorem f25.hok (k : Nat) : HOK (f25.X k) (bodyOf Tryd.f25) where
  l := allP_mem (by exact trivial)
  j := allP_mem (by exact trivial)
theorem f25.sound0 (k : Nat) : SoundC env Tryd.prog 25 (f25.hd k) := by
  intro ps_
  show GoodC _ _ _ ps_ (f25.hd k ps_)
  unfold f25.hd
  refine gC_ok (p := GoodC env Tryd.prog 25 _) goodC_no fun _ _ h => ?_
  subst h
  refine qC_ok (p := GoodC env Tryd.prog 25 _) goodC_no fun _ h => ?_
  subst h
  refine qSl_ok (p := GoodC env Tryd.prog 25 _) goodC_no fun _ h => ?_
  subst h
  refine gE_ok (p := GoodC env Tryd.prog 25 _) goodC_no fun h => ?_
  subst h
  exact fun_good (fun_sound envOK (cs_sound _ (by exact trivial)) (f25.hok k) Tryd.func25 rfl) ((f25.ev k _).trans (f25.nat k _ _))
theorem f25.sound (k : Nat) : SoundC env Tryd.prog 25 (f25.e k).F := soundC_coer (f25.sound0 k) [[.rd 5]]
theorem f25.says (k : Nat) (xs1 : List Int) (t3 : (List Int) × Int × Int) (h_ : f25 k xs1 = some t3) : SoundAt env Tryd.prog 25 [.v (.c (.sl 5 xs1))] ⟨.v (.c (.ptr [.sl 5 t3.1, .s (.int .i64 t3.2.1), .s (.int .i64 t3.2.2)])), [[]]⟩ :=
  fun_sound envOK (cs_sound _ (by exact trivial)) (f25.hok k) Tryd.func25 rfl _ _ (((f25.ev k xs1).trans (f25.nat k _ xs1)).trans (by rw [h_]; rfl))
theorem f25.fnok : FnOK Tryd.prog 25 := fn_ok Tryd.func25 (by kernel_rfl) rfl
def f67.step {R : Type} (k : Nat) (ret : (Int × (List Int) × Int × Int) → Option R) (xs1 : List Int) (a2 : Int) (a3 : Int) : Option R :=
  if (decide ((IntKind.i64.wrap (a2 + (1 : Int))) ≤ (((List.length xs1) : Nat) : Int))) = true then
    if (0 : Int) ≤ (IntKind.i64.wrap ((IntKind.i64.wrap (a2 + (1 : Int))) - (1 : Int))) then
      if (IntKind.i64.wrap ((IntKind.i64.wrap (a2 + (1 : Int))) - (1 : Int))) < ((List.length xs1 : Nat) : Int) then
        if (0 : Int) ≤ (IntKind.i64.wrap ((IntKind.i64.wrap (a2 + (1 : Int))) - (1 : Int))) then
          if (IntKind.i64.wrap ((IntKind.i64.wrap (a2 + (1 : Int))) - (1 : Int))) < ((List.length xs1 : Nat) : Int) then
            ret ((IntKind.i64.wrap (List.getD xs1 (Int.toNat (IntKind.i64.wrap ((IntKind.i64.wrap (a2 + (1 : Int))) - (1 : Int)))) (0 : Int))), xs1, (IntKind.i64.wrap (a2 + (1 : Int))), (Int.tmod (IntKind.i64.wrap ((IntKind.i64.wrap ((IntKind.i64.wrap (a3 * (31 : Int))) + (IntKind.i64.wrap (List.getD xs1 (Int.toNat (IntKind.i64.wrap ((IntKind.i64.wrap (a2 + (1 : Int))) - (1 : Int)))) (0 : Int))))) + (7 : Int))) (2147483648 : Int)))
          else none
        else none
      else none
    else none
  else
    if (decide ((IntKind.i64.wrap (a2 + (1 : Int))) > (3000 : Int))) = true then
      ret ((0 : Int), xs1, (IntKind.i64.wrap (a2 + (1 : Int))), a3)
    else
      ret ((Int.tmod (IntKind.i64.wrap (Int.tdiv (Int.tmod (IntKind.i64.wrap ((IntKind.i64.wrap (a3 * (1103515245 : Int))) + (12345 : Int))) (2147483648 : Int)) (65536 : Int))) (256 : Int)), xs1, (IntKind.i64.wrap (a2 + (1 : Int))), (Int.tmod (IntKind.i64.wrap ((IntKind.i64.wrap (a3 * (1103515245 : Int))) + (12345 : Int))) (2147483648 : Int)))
def f67 (k : Nat) (xs1 : List Int) (a2 : Int) (a3 : Int) : Option (Int × (List Int) × Int × Int) := f67.step k some xs1 a2 a3
def f67.w {R : Type} : (Int × (List Int) × Int × Int) → (Res env → Option R) → Option R := fun t4 K => K ⟨.v (.c (.s (.int .i64 t4.1))), [[.sl 5 t4.2.1, .s (.int .i64 t4.2.2.1), .s (.int .i64 t4.2.2.2)]]⟩
theorem f67.wn (x : (Int × (List Int) × Int × Int)) : ∃ res, ∀ {R : Type} (K : Res env → Option R), f67.w x K = K res := by
  exact ⟨_, fun _ => rfl⟩
def f67.hd (k : Nat) (ps_ : List (P2 env)) : Cl env :=
  gC Cl.no ps_ fun p_ ps_ => qP Cl.no p_ fun cs_ => gC Cl.no cs_ fun c_ cs_ => qSl Cl.no 5 c_ fun xs1 => gC Cl.no cs_ fun c_ cs_ => qS Cl.no c_ fun v_ => vI Cl.no .i64 v_ fun a2 => gC Cl.no cs_ fun c_ cs_ => qS Cl.no c_ fun v_ => vI Cl.no .i64 v_ fun a3 => gE Cl.no cs_ <| gE Cl.no ps_ <| { α := Int × (List Int) × Int × Int, o := f67 k xs1 a2 a3, w := f67.w, nat := fun x _ => f67.wn x }
def f67.e (k : Nat) : Entry env := ⟨fun ps => f67.hd k (coer [[.rd 5, .no, .no]] ps), [], []⟩
def f67.X (k : Nat) : Ctx env := { C := lookE [], L := lookE [], J := lookE [], keep := lookD [], keepX := lookD [], span := lookN [], eff := fun n => memN n [3], prep := lookP [], np := 0 }
theorem f67.nat {R : Type} (k : Nat) (g : (Int × (List Int) × Int × Int) → Option R) (xs1 : List Int) (a2 : Int) (a3 : Int) : f67.step k g xs1 a2 a3 = (f67 k xs1 a2 a3).bind g := by
  simp only [f67, f67.step, bind_ite, bind_sum, Option.bind_assoc, Option.bind_some, Option.bind_none]
theorem f67.ev (k : Nat) (xs1 : List Int) (a2 : Int) (a3 : Int) : evF (f67.X k) (bodyOf Tryd.f67) Tryd.f67.ntmps Tryd.f67.results.toList [.v (.ptr [.sl 5 xs1, .s (.int .i64 a2), .s (.int .i64 a3)])] = f67.step k (fun x => f67.w x some) xs1 a2 a3 := by kernel_rfl
theorem f67.hok (k : Nat) : HOK (f67.X k) (bodyOf Tryd.f67) where
  l := allP_mem (by exact trivial)
  j := allP_mem (by exact trivial)
theorem f67.sound0 (k : Nat) : SoundC env Tryd.prog 67 (f67.hd k) := by
  intro ps_
  show GoodC _ _ _ ps_ (f67.hd k ps_)
  unfold f67.hd
  refine gC_ok (p := GoodC env Tryd.prog 67 _) goodC_no fun _ _ h => ?_
  subst h
  refine qP_ok (p := GoodC env Tryd.prog 67 _) goodC_no fun _ h => ?_
  subst h
  refine gC_ok (p := GoodC env Tryd.prog 67 _) goodC_no fun _ _ h => ?_
  subst h
  refine qSl_ok (p := GoodC env Tryd.prog 67 _) goodC_no fun _ h => ?_
  subst h
  refine gC_ok (p := GoodC env Tryd.prog 67 _) goodC_no fun _ _ h => ?_
  subst h
  refine qS_ok (p := GoodC env Tryd.prog 67 _) goodC_no fun _ h => ?_
  subst h
  refine vI_ok (p := GoodC env Tryd.prog 67 _) goodC_no fun _ h => ?_
  subst h
  refine gC_ok (p := GoodC env Tryd.prog 67 _) goodC_no fun _ _ h => ?_
  subst h
  refine qS_ok (p := GoodC env Tryd.prog 67 _) goodC_no fun _ h => ?_
  subst h
  refine vI_ok (p := GoodC env Tryd.prog 67 _) goodC_no fun _ h => ?_
  subst h
  refine gE_ok (p := GoodC env Tryd.prog 67 _) goodC_no fun h => ?_
  subst h
  refine gE_ok (p := GoodC env Tryd.prog 67 _) goodC_no fun h => ?_
  subst h
  exact fun_good (fun_sound envOK (cs_sound _ (by exact trivial)) (f67.hok k) Tryd.func67 rfl) ((f67.ev k _ _ _).trans (f67.nat k _ _ _ _))
theorem f67.sound (k : Nat) : SoundC env Tryd.prog 67 (f67.e k).F := soundC_coer (f67.sound0 k) [[.rd 5, .no, .no]]
theorem f67.says (k : Nat) (xs1 : List Int) (a2 : Int) (a3 : Int) (t5 : Int × (List Int) × Int × Int) (h_ : f67 k xs1 a2 a3 = some t5) : SoundAt env Tryd.prog 67 [.v (.ptr [.sl 5 xs1, .s (.int .i64 a2), .s (.int .i64 a3)])] ⟨.v (.c (.s (.int .i64 t5.1))), [[.sl 5 t5.2.1, .s (.int .i64 t5.2.2.1), .s (.int .i64 t5.2.2.2)]]⟩ :=
  fun_sound envOK (cs_sound _ (by exact trivial)) (f67.hok k) Tryd.func67 rfl _ _ (((f67.ev k xs1 a2 a3).trans (f67.nat k _ xs1 a2 a3)).trans (by rw [h_]; rfl))
theorem f67.fnok : FnOK Tryd.prog 67 := fn_ok Tryd.func67 (by kernel_rfl) rfl
def f55.step {R : Type} (k : Nat) (ret : (Int × (List Int) × Int × Int) → Option R) (xs1 : List Int) (a2 : Int) (a3 : Int) (a4 : Int) : Option R :=
  if (decide (a4 ≤ (1 : Int))) = true then
    ret ((0 : Int), xs1, a2, a3)
  else
    if (decide (a4 ≤ (256 : Int))) = true then
      (f67 k xs1 a2 a3).bind fun t5 => if a4 ≠ 0 then
          ret ((Int.tmod t5.1 a4), t5.2.1, t5.2.2.1, t5.2.2.2)
        else none
    else
      (f67 k xs1 a2 a3).bind fun t6 => (f67 k t6.2.1 t6.2.2.1 t6.2.2.2).bind fun t7 => (f67 k t7.2.1 t7.2.2.1 t7.2.2.2).bind fun t8 => if a4 ≠ 0 then
              ret ((Int.tmod (IntKind.i64.wrap ((IntKind.i64.wrap ((IntKind.i64.wrap (t6.1 * (65536 : Int))) + (IntKind.i64.wrap (t7.1 * (256 : Int))))) + t8.1)) a4), t8.2.1, t8.2.2.1, t8.2.2.2)
            else none
def f55 (k : Nat) (xs1 : List Int) (a2 : Int) (a3 : Int) (a4 : Int) : Option (Int × (List Int) × Int × Int) := f55.step k some xs1 a2 a3 a4
def f55.w {R : Type} : (Int × (List Int) × Int × Int) → (Res env → Option R) → Option R := fun t9 K => K ⟨.v (.c (.s (.int .i64 t9.1))), [[.sl 5 t9.2.1, .s (.int .i64 t9.2.2.1), .s (.int .i64 t9.2.2.2)], []]⟩
theorem f55.wn (x : (Int × (List Int) × Int × Int)) : ∃ res, ∀ {R : Type} (K : Res env → Option R), f55.w x K = K res := by
  exact ⟨_, fun _ => rfl⟩
def f55.hd (k : Nat) (ps_ : List (P2 env)) : Cl env :=
  gC Cl.no ps_ fun p_ ps_ => qP Cl.no p_ fun cs_ => gC Cl.no cs_ fun c_ cs_ => qSl Cl.no 5 c_ fun xs1 => gC Cl.no cs_ fun c_ cs_ => qS Cl.no c_ fun v_ => vI Cl.no .i64 v_ fun a2 => gC Cl.no cs_ fun c_ cs_ => qS Cl.no c_ fun v_ => vI Cl.no .i64 v_ fun a3 => gE Cl.no cs_ <| gC Cl.no ps_ fun p_ ps_ => qC Cl.no p_ fun c_ => qS Cl.no c_ fun v_ => vI Cl.no .i64 v_ fun a4 => gE Cl.no ps_ <| { α := Int × (List Int) × Int × Int, o := f55 k xs1 a2 a3 a4, w := f55.w, nat := fun x _ => f55.wn x }
def f55.e (k : Nat) : Entry env := ⟨fun ps => f55.hd k (coer [[.rd 5, .no, .no], [.no]] ps), [], []⟩
def f55.X (k : Nat) : Ctx env := { C := lookE [(67, f67.e k)], L := lookE [], J := lookE [], keep := lookD [], keepX := lookD [], span := lookN [], eff := fun n => memN n [], prep := lookP [], np := 0 }
theorem f55.nat {R : Type} (k : Nat) (g : (Int × (List Int) × Int × Int) → Option R) (xs1 : List Int) (a2 : Int) (a3 : Int) (a4 : Int) : f55.step k g xs1 a2 a3 a4 = (f55 k xs1 a2 a3 a4).bind g := by
  simp only [f55, f55.step, bind_ite, bind_sum, Option.bind_assoc, Option.bind_some, Option.bind_none]
theorem f55.ev (k : Nat) (xs1 : List Int) (a2 : Int) (a3 : Int) (a4 : Int) : evF (f55.X k) (bodyOf Tryd.f55) Tryd.f55.ntmps Tryd.f55.results.toList [.v (.ptr [.sl 5 xs1, .s (.int .i64 a2), .s (.int .i64 a3)]), .v (.c (.s (.int .i64 a4)))] = f55.step k (fun x => f55.w x some) xs1 a2 a3 a4 := by kernel_rfl
theorem f55.hok (k : Nat) : HOK (f55.X k) (bodyOf Tryd.f55) where
  l := allP_mem (by exact trivial)
  j := allP_mem (by exact trivial)
theorem f55.sound0 (k : Nat) : SoundC env Tryd.prog 55 (f55.hd k) := by
  intro ps_
  show GoodC _ _ _ ps_ (f55.hd k ps_)
  unfold f55.hd
  refine gC_ok (p := GoodC env Tryd.prog 55 _) goodC_no fun _ _ h => ?_
  subst h
  refine qP_ok (p := GoodC env Tryd.prog 55 _) goodC_no fun _ h => ?_
  subst h
  refine gC_ok (p := GoodC env Tryd.prog 55 _) goodC_no fun _ _ h => ?_
  subst h
  refine qSl_ok (p := GoodC env Tryd.prog 55 _) goodC_no fun _ h => ?_
  subst h
  refine gC_ok (p := GoodC env Tryd.prog 55 _) goodC_no fun _ _ h => ?_
  subst h
  refine qS_ok (p := GoodC env Tryd.prog 55 _) goodC_no fun _ h => ?_
  subst h
  refine vI_ok (p := GoodC env Tryd.prog 55 _) goodC_no fun _ h => ?_
  subst h
  refine gC_ok (p := GoodC env Tryd.prog 55 _) goodC_no fun _ _ h => ?_
  subst h
  refine qS_ok (p := GoodC env Tryd.prog 55 _) goodC_no fun _ h => ?_
  subst h
  refine vI_ok (p := GoodC env Tryd.prog 55 _) goodC_no fun _ h => ?_
  subst h
  refine gE_ok (p := GoodC env Tryd.prog 55 _) goodC_no fun h => ?_
  subst h
  refine gC_ok (p := GoodC env Tryd.prog 55 _) goodC_no fun _ _ h => ?_
  subst h
  refine qC_ok (p := GoodC env Tryd.prog 55 _) goodC_no fun _ h => ?_
  subst h
  refine qS_ok (p := GoodC env Tryd.prog 55 _) goodC_no fun _ h => ?_
  subst h
  refine vI_ok (p := GoodC env Tryd.prog 55 _) goodC_no fun _ h => ?_
  subst h
  refine gE_ok (p := GoodC env Tryd.prog 55 _) goodC_no fun h => ?_
  subst h
  exact fun_good (fun_sound envOK (cs_sound _ (by exact ⟨⟨f67.sound k, f67.fnok⟩, trivial⟩)) (f55.hok k) Tryd.func55 rfl) ((f55.ev k _ _ _ _).trans (f55.nat k _ _ _ _ _))
theorem f55.sound (k : Nat) : SoundC env Tryd.prog 55 (f55.e k).F := soundC_coer (f55.sound0 k) [[.rd 5, .no, .no], [.no]]
theorem f55.says (k : Nat) (xs1 : List Int) (a2 : Int) (a3 : Int) (a4 : Int) (t10 : Int × (List Int) × Int × Int) (h_ : f55 k xs1 a2 a3 a4 = some t10) : SoundAt env Tryd.prog 55 [.v (.ptr [.sl 5 xs1, .s (.int .i64 a2), .s (.int .i64 a3)]), .v (.c (.s (.int .i64 a4)))] ⟨.v (.c (.s (.int .i64 t10.1))), [[.sl 5 t10.2.1, .s (.int .i64 t10.2.2.1), .s (.int .i64 t10.2.2.2)], []]⟩ :=
  fun_sound envOK (cs_sound _ (by exact ⟨⟨f67.sound k, f67.fnok⟩, trivial⟩)) (f55.hok k) Tryd.func55 rfl _ _ (((f55.ev k xs1 a2 a3 a4).trans (f55.nat k _ xs1 a2 a3 a4)).trans (by rw [h_]; rfl))
theorem f55.fnok : FnOK Tryd.prog 55 := fn_ok Tryd.func55 (by kernel_rfl) rfl
def f43.step {R : Type} (k : Nat) (ret : (Bool × (List Int) × Int × Int) → Option R) (xs1 : List Int) (a2 : Int) (a3 : Int) (a4 : Int) : Option R :=
  (f55 k xs1 a2 a3 a4).bind fun t5 => ret ((decide (t5.1 = (IntKind.i64.wrap (a4 - (1 : Int))))), t5.2.1, t5.2.2.1, t5.2.2.2)
def f43 (k : Nat) (xs1 : List Int) (a2 : Int) (a3 : Int) (a4 : Int) : Option (Bool × (List Int) × Int × Int) := f43.step k some xs1 a2 a3 a4
def f43.w {R : Type} : (Bool × (List Int) × Int × Int) → (Res env → Option R) → Option R := fun t6 K => K ⟨.v (.c (.s (.bool t6.1))), [[.sl 5 t6.2.1, .s (.int .i64 t6.2.2.1), .s (.int .i64 t6.2.2.2)], []]⟩
theorem f43.wn (x : (Bool × (List Int) × Int × Int)) : ∃ res, ∀ {R : Type} (K : Res env → Option R), f43.w x K = K res := by
  exact ⟨_, fun _ => rfl⟩
def f43.hd (k : Nat) (ps_ : List (P2 env)) : Cl env :=
  gC Cl.no ps_ fun p_ ps_ => qP Cl.no p_ fun cs_ => gC Cl.no cs_ fun c_ cs_ => qSl Cl.no 5 c_ fun xs1 => gC Cl.no cs_ fun c_ cs_ => qS Cl.no c_ fun v_ => vI Cl.no .i64 v_ fun a2 => gC Cl.no cs_ fun c_ cs_ => qS Cl.no c_ fun v_ => vI Cl.no .i64 v_ fun a3 => gE Cl.no cs_ <| gC Cl.no ps_ fun p_ ps_ => qC Cl.no p_ fun c_ => qS Cl.no c_ fun v_ => vI Cl.no .i64 v_ fun a4 => gE Cl.no ps_ <| { α := Bool × (List Int) × Int × Int, o := f43 k xs1 a2 a3 a4, w := f43.w, nat := fun x _ => f43.wn x }
def f43.e (k : Nat) : Entry env := ⟨fun ps => f43.hd k (coer [[.rd 5, .no, .no], [.no]] ps), [], []⟩
def f43.X (k : Nat) : Ctx env := { C := lookE [(55, f55.e k)], L := lookE [], J := lookE [], keep := lookD [], keepX := lookD [], span := lookN [], eff := fun n => memN n [], prep := lookP [], np := 0 }
theorem f43.nat {R : Type} (k : Nat) (g : (Bool × (List Int) × Int × Int) → Option R) (xs1 : List Int) (a2 : Int) (a3 : Int) (a4 : Int) : f43.step k g xs1 a2 a3 a4 = (f43 k xs1 a2 a3 a4).bind g := by
  simp only [f43, f43.step, bind_ite, bind_sum, Option.bind_assoc, Option.bind_some, Option.bind_none]
theorem f43.ev (k : Nat) (xs1 : List Int) (a2 : Int) (a3 : Int) (a4 : Int) : evF (f43.X k) (bodyOf Tryd.f43) Tryd.f43.ntmps Tryd.f43.results.toList [.v (.ptr [.sl 5 xs1, .s (.int .i64 a2), .s (.int .i64 a3)]), .v (.c (.s (.int .i64 a4)))] = f43.step k (fun x => f43.w x some) xs1 a2 a3 a4 := by kernel_rfl
theorem f43.hok (k : Nat) : HOK (f43.X k) (bodyOf Tryd.f43) where
  l := allP_mem (by exact trivial)
  j := allP_mem (by exact trivial)
theorem f43.sound0 (k : Nat) : SoundC env Tryd.prog 43 (f43.hd k) := by
  intro ps_
  show GoodC _ _ _ ps_ (f43.hd k ps_)
  unfold f43.hd
  refine gC_ok (p := GoodC env Tryd.prog 43 _) goodC_no fun _ _ h => ?_
  subst h
  refine qP_ok (p := GoodC env Tryd.prog 43 _) goodC_no fun _ h => ?_
  subst h
  refine gC_ok (p := GoodC env Tryd.prog 43 _) goodC_no fun _ _ h => ?_
  subst h
  refine qSl_ok (p := GoodC env Tryd.prog 43 _) goodC_no fun _ h => ?_
  subst h
  refine gC_ok (p := GoodC env Tryd.prog 43 _) goodC_no fun _ _ h => ?_
  subst h
  refine qS_ok (p := GoodC env Tryd.prog 43 _) goodC_no fun _ h => ?_
  subst h
  refine vI_ok (p := GoodC env Tryd.prog 43 _) goodC_no fun _ h => ?_
  subst h
  refine gC_ok (p := GoodC env Tryd.prog 43 _) goodC_no fun _ _ h => ?_
  subst h
  refine qS_ok (p := GoodC env Tryd.prog 43 _) goodC_no fun _ h => ?_
  subst h
  refine vI_ok (p := GoodC env Tryd.prog 43 _) goodC_no fun _ h => ?_
  subst h
  refine gE_ok (p := GoodC env Tryd.prog 43 _) goodC_no fun h => ?_
  subst h
  refine gC_ok (p := GoodC env Tryd.prog 43 _) goodC_no fun _ _ h => ?_
  subst h
  refine qC_ok (p := GoodC env Tryd.prog 43 _) goodC_no fun _ h => ?_
  subst h
  refine qS_ok (p := GoodC env Tryd.prog 43 _) goodC_no fun _ h => ?_
  subst h
  refine vI_ok (p := GoodC env Tryd.prog 43 _) goodC_no fun _ h => ?_
  subst h
  refine gE_ok (p := GoodC env Tryd.prog 43 _) goodC_no fun h => ?_
  subst h
  exact fun_good (fun_sound envOK (cs_sound _ (by exact ⟨⟨f55.sound k, f55.fnok⟩, trivial⟩)) (f43.hok k) Tryd.func43 rfl) ((f43.ev k _ _ _ _).trans (f43.nat k _ _ _ _ _))
theorem f43.sound (k : Nat) : SoundC env Tryd.prog 43 (f43.e k).F := soundC_coer (f43.sound0 k) [[.rd 5, .no, .no], [.no]]
theorem f43.says (k : Nat) (xs1 : List Int) (a2 : Int) (a3 : Int) (a4 : Int) (t7 : Bool × (List Int) × Int × Int) (h_ : f43 k xs1 a2 a3 a4 = some t7) : SoundAt env Tryd.prog 43 [.v (.ptr [.sl 5 xs1, .s (.int .i64 a2), .s (.int .i64 a3)]), .v (.c (.s (.int .i64 a4)))] ⟨.v (.c (.s (.bool t7.1))), [[.sl 5 t7.2.1, .s (.int .i64 t7.2.2.1), .s (.int .i64 t7.2.2.2)], []]⟩ :=
  fun_sound envOK (cs_sound _ (by exact ⟨⟨f55.sound k, f55.fnok⟩, trivial⟩)) (f43.hok k) Tryd.func43 rfl _ _ (((f43.ev k xs1 a2 a3 a4).trans (f43.nat k _ xs1 a2 a3 a4)).trans (by rw [h_]; rfl))
theorem f43.fnok : FnOK Tryd.prog 43 := fn_ok Tryd.func43 (by kernel_rfl) rfl
def f44.step {R : Type} (k : Nat) (ret : (ByteArray × (List Int) × Int × Int) → Option R) (xs1 : List Int) (a2 : Int) (a3 : Int) : Option R :=
  (f55 k xs1 a2 a3 (3 : Int)).bind fun t4 => (f55 k t4.2.1 t4.2.2.1 t4.2.2.2 (2 : Int)).bind fun t5 => (f55 k t5.2.1 t5.2.2.1 t5.2.2.2 (4 : Int)).bind fun t6 => ret ((strOf ([(10 : Int), (IntKind.u8.wrap t4.1), (IntKind.u8.wrap (IntKind.i64.wrap (t5.1 * (128 : Int)))), (IntKind.u8.wrap t6.1)] : List Int)), t6.2.1, t6.2.2.1, t6.2.2.2)
def f44 (k : Nat) (xs1 : List Int) (a2 : Int) (a3 : Int) : Option (ByteArray × (List Int) × Int × Int) := f44.step k some xs1 a2 a3
def f44.w {R : Type} : (ByteArray × (List Int) × Int × Int) → (Res env → Option R) → Option R := fun t7 K => K ⟨.v (.c (.s (.string t7.1))), [[.sl 5 t7.2.1, .s (.int .i64 t7.2.2.1), .s (.int .i64 t7.2.2.2)]]⟩
theorem f44.wn (x : (ByteArray × (List Int) × Int × Int)) : ∃ res, ∀ {R : Type} (K : Res env → Option R), f44.w x K = K res := by
  exact ⟨_, fun _ => rfl⟩
def f44.hd (k : Nat) (ps_ : List (P2 env)) : Cl env :=
  gC Cl.no ps_ fun p_ ps_ => qP Cl.no p_ fun cs_ => gC Cl.no cs_ fun c_ cs_ => qSl Cl.no 5 c_ fun xs1 => gC Cl.no cs_ fun c_ cs_ => qS Cl.no c_ fun v_ => vI Cl.no .i64 v_ fun a2 => gC Cl.no cs_ fun c_ cs_ => qS Cl.no c_ fun v_ => vI Cl.no .i64 v_ fun a3 => gE Cl.no cs_ <| gE Cl.no ps_ <| { α := ByteArray × (List Int) × Int × Int, o := f44 k xs1 a2 a3, w := f44.w, nat := fun x _ => f44.wn x }
def f44.e (k : Nat) : Entry env := ⟨fun ps => f44.hd k (coer [[.rd 5, .no, .no]] ps), [], []⟩
def f44.X (k : Nat) : Ctx env := { C := lookE [(55, f55.e k)], L := lookE [], J := lookE [], keep := lookD [], keepX := lookD [], span := lookN [], eff := fun n => memN n [], prep := lookP [], np := 0 }
theorem f44.nat {R : Type} (k : Nat) (g : (ByteArray × (List Int) × Int × Int) → Option R) (xs1 : List Int) (a2 : Int) (a3 : Int) : f44.step k g xs1 a2 a3 = (f44 k xs1 a2 a3).bind g := by
  simp only [f44, f44.step, bind_ite, bind_sum, Option.bind_assoc, Option.bind_some, Option.bind_none]
theorem f44.ev (k : Nat) (xs1 : List Int) (a2 : Int) (a3 : Int) : evF (f44.X k) (bodyOf Tryd.f44) Tryd.f44.ntmps Tryd.f44.results.toList [.v (.ptr [.sl 5 xs1, .s (.int .i64 a2), .s (.int .i64 a3)])] = f44.step k (fun x => f44.w x some) xs1 a2 a3 := by kernel_rfl
theorem f44.hok (k : Nat) : HOK (f44.X k) (bodyOf Tryd.f44) where
  l := allP_mem (by exact trivial)
  j := allP_mem (by exact trivial)
theorem f44.sound0 (k : Nat) : SoundC env Tryd.prog 44 (f44.hd k) := by
  intro ps_
  show GoodC _ _ _ ps_ (f44.hd k ps_)
  unfold f44.hd
  refine gC_ok (p := GoodC env Tryd.prog 44 _) goodC_no fun _ _ h => ?_
  subst h
  refine qP_ok (p := GoodC env Tryd.prog 44 _) goodC_no fun _ h => ?_
  subst h
  refine gC_ok (p := GoodC env Tryd.prog 44 _) goodC_no fun _ _ h => ?_
  subst h
  refine qSl_ok (p := GoodC env Tryd.prog 44 _) goodC_no fun _ h => ?_
  subst h
  refine gC_ok (p := GoodC env Tryd.prog 44 _) goodC_no fun _ _ h => ?_
  subst h
  refine qS_ok (p := GoodC env Tryd.prog 44 _) goodC_no fun _ h => ?_
  subst h
  refine vI_ok (p := GoodC env Tryd.prog 44 _) goodC_no fun _ h => ?_
  subst h
  refine gC_ok (p := GoodC env Tryd.prog 44 _) goodC_no fun _ _ h => ?_
  subst h
  refine qS_ok (p := GoodC env Tryd.prog 44 _) goodC_no fun _ h => ?_
  subst h
  refine vI_ok (p := GoodC env Tryd.prog 44 _) goodC_no fun _ h => ?_
  subst h
  refine gE_ok (p := GoodC env Tryd.prog 44 _) goodC_no fun h => ?_
  subst h
  refine gE_ok (p := GoodC env Tryd.prog 44 _) goodC_no fun h => ?_
  subst h
  exact fun_good (fun_sound envOK (cs_sound _ (by exact ⟨⟨f55.sound k, f55.fnok⟩, trivial⟩)) (f44.hok k) Tryd.func44 rfl) ((f44.ev k _ _ _).trans (f44.nat k _ _ _ _))
theorem f44.sound (k : Nat) : SoundC env Tryd.prog 44 (f44.e k).F := soundC_coer (f44.sound0 k) [[.rd 5, .no, .no]]
theorem f44.says (k : Nat) (xs1 : List Int) (a2 : Int) (a3 : Int) (t8 : ByteArray × (List Int) × Int × Int) (h_ : f44 k xs1 a2 a3 = some t8) : SoundAt env Tryd.prog 44 [.v (.ptr [.sl 5 xs1, .s (.int .i64 a2), .s (.int .i64 a3)])] ⟨.v (.c (.s (.string t8.1))), [[.sl 5 t8.2.1, .s (.int .i64 t8.2.2.1), .s (.int .i64 t8.2.2.2)]]⟩ :=
  fun_sound envOK (cs_sound _ (by exact ⟨⟨f55.sound k, f55.fnok⟩, trivial⟩)) (f44.hok k) Tryd.func44 rfl _ _ (((f44.ev k xs1 a2 a3).trans (f44.nat k _ xs1 a2 a3)).trans (by rw [h_]; rfl))
theorem f44.fnok : FnOK Tryd.prog 44 := fn_ok Tryd.func44 (by kernel_rfl) rfl
def f45.l5.step {R : Type} (k : Nat) (rec_ : Int → (List Int) → Int → Int → (List Int) → Option R) (ret : ((List Int) × Int × Int × (List Int)) → Option R) (a6 : Int) (xs7 : List Int) (a8 : Int) (a9 : Int) (xs10 : List Int) : Option R :=
  if (decide (a6 > (0 : Int))) = true then
    (f55 k xs7 a8 a9 (16 : Int)).bind fun t11 => (f55 k t11.2.1 t11.2.2.1 t11.2.2.2 (256 : Int)).bind fun t12 => if (0 : Int) ≤ t11.1 then
          if t11.1 < ((List.length xs10 : Nat) : Int) then
            rec_ (IntKind.i64.wrap (a6 - (1 : Int))) t12.2.1 t12.2.2.1 t12.2.2.2 (List.set xs10 (Int.toNat t11.1) (IntKind.u8.wrap t12.1))
          else none
        else none
  else
    ret (xs7, a8, a9, xs10)
def f45.l5 (k : Nat) : Nat → Int → (List Int) → Int → Int → (List Int) → Option ((List Int) × Int × Int × (List Int))
  | 0, _, _, _, _, _ => none
  | j + 1, a6, xs7, a8, a9, xs10 => f45.l5.step k (fun a6 xs7 a8 a9 xs10 => f45.l5 k j a6 xs7 a8 a9 xs10) some a6 xs7 a8 a9 xs10
def f45.l5.w {R : Type} : ((List Int) × Int × Int × (List Int)) → (Exit → St env → Option R) → Option R := fun t14 K => K (.exit 0) ⟨fullT [0, 3] 0 28 [.v (.c (.bp 0 0)), .v (.c (.row 17))], [(0, .box [.imm 5 t14.1, .s (.int .i64 t14.2.1), .s (.int .i64 t14.2.2.1)]), (17, .row true 5 t14.2.2.2)], 449⟩
def f45.l5.st (a6 : Int) (xs7 : List Int) (a8 : Int) (a9 : Int) (xs10 : List Int) : St env := ⟨fullT [0, 3, 4] 0 28 [.v (.c (.bp 0 0)), .v (.c (.row 17)), .v (.c (.s (.int .i64 a6)))], [(0, .box [.imm 5 xs7, .s (.int .i64 a8), .s (.int .i64 a9)]), (17, .row true 5 xs10)], 241⟩
def f45.l5.hd (k : Nat) (ts_ : List (AV env)) (mm_ : Mem env) (n_ : Nat) : LCl env :=
  gTs LCl.no [0, 3, 4] 28 ts_ fun l_ => gV LCl.no l_ fun a_ l_ => rBp LCl.no 0 0 a_ <| gV LCl.no l_ fun a_ l_ => rRow LCl.no 17 a_ <| gV LCl.no l_ fun a_ l_ => rV LCl.no a_ fun v_ => vI LCl.no .i64 v_ fun a6 => gE LCl.no l_ <| mBox LCl.no 0 mm_ fun c_ m_ => gC LCl.no c_ fun a_ c_ => rImm LCl.no 5 a_ fun xs7 => gC LCl.no c_ fun a_ c_ => rV LCl.no a_ fun v_ => vI LCl.no .i64 v_ fun a8 => gC LCl.no c_ fun a_ c_ => rV LCl.no a_ fun v_ => vI LCl.no .i64 v_ fun a9 => gE LCl.no c_ <| mRow LCl.no 17 true 5 m_ fun xs10 m_ => gE LCl.no m_ <| gN LCl.no 241 n_ { α := (List Int) × Int × Int × (List Int), o := f45.l5 k k a6 xs7 a8 a9 xs10, w := f45.l5.w }
def f45.step {R : Type} (k : Nat) (ret : (ByteArray × (List Int) × Int × Int) → Option R) (xs1 : List Int) (a2 : Int) (a3 : Int) : Option R :=
  if (0 : Int) < ((List.length (List.replicate 16 (0 : Int)) : Nat) : Int) then
    (f55 k xs1 a2 a3 (2 : Int)).bind fun t4 => if (1 : Int) < ((List.length (List.set (List.replicate 16 (0 : Int)) 0 (32 : Int)) : Nat) : Int) then
        (f55 k t4.2.1 t4.2.2.1 t4.2.2.2 (4 : Int)).bind fun t5 => (f45.l5 k k t5.1 t5.2.1 t5.2.2.1 t5.2.2.2 (List.set (List.set (List.replicate 16 (0 : Int)) 0 (32 : Int)) 1 (IntKind.u8.wrap t4.1))).bind fun t13 => ret ((strOf t13.2.2.2), t13.1, t13.2.1, t13.2.2.1)
      else none
  else none
def f45 (k : Nat) (xs1 : List Int) (a2 : Int) (a3 : Int) : Option (ByteArray × (List Int) × Int × Int) := f45.step k some xs1 a2 a3
def f45.w {R : Type} : (ByteArray × (List Int) × Int × Int) → (Res env → Option R) → Option R := fun t15 K => K ⟨.v (.c (.s (.string t15.1))), [[.sl 5 t15.2.1, .s (.int .i64 t15.2.2.1), .s (.int .i64 t15.2.2.2)]]⟩
theorem f45.wn (x : (ByteArray × (List Int) × Int × Int)) : ∃ res, ∀ {R : Type} (K : Res env → Option R), f45.w x K = K res := by
  exact ⟨_, fun _ => rfl⟩
def f45.hd (k : Nat) (ps_ : List (P2 env)) : Cl env :=
  gC Cl.no ps_ fun p_ ps_ => qP Cl.no p_ fun cs_ => gC Cl.no cs_ fun c_ cs_ => qSl Cl.no 5 c_ fun xs1 => gC Cl.no cs_ fun c_ cs_ => qS Cl.no c_ fun v_ => vI Cl.no .i64 v_ fun a2 => gC Cl.no cs_ fun c_ cs_ => qS Cl.no c_ fun v_ => vI Cl.no .i64 v_ fun a3 => gE Cl.no cs_ <| gE Cl.no ps_ <| { α := ByteArray × (List Int) × Int × Int, o := f45 k xs1 a2 a3, w := f45.w, nat := fun x _ => f45.wn x }
def f45.e (k : Nat) : Entry env := ⟨fun ps => f45.hd k (coer [[.rd 5, .no, .no]] ps), [], []⟩
def f45.X (k : Nat) : Ctx env := { C := lookE [(55, f55.e k)], L := lookE [(5, fun S => f45.l5.hd k S.ts S.m S.n)], J := lookE [], keep := lookD [(5, [0, 3, 4])], keepX := lookD [(5, [0, 3])], span := lookN [(5, 208)], eff := fun n => memN n [], prep := lookP [], np := 0 }
theorem f45.l5.nat {R : Type} (k : Nat) (rec_ : Int → (List Int) → Int → Int → (List Int) → Option ((List Int) × Int × Int × (List Int))) (g : ((List Int) × Int × Int × (List Int)) → Option R) (a6 : Int) (xs7 : List Int) (a8 : Int) (a9 : Int) (xs10 : List Int) : (f45.l5.step k rec_ some a6 xs7 a8 a9 xs10).bind g = f45.l5.step k (fun a6 xs7 a8 a9 xs10 => (rec_ a6 xs7 a8 a9 xs10).bind g) g a6 xs7 a8 a9 xs10 := by
  simp only [f45.l5.step, bind_ite, bind_sum, Option.bind_assoc, Option.bind_some, Option.bind_none]
theorem f45.l5.good (k : Nat) (a6 : Int) (xs7 : List Int) (a8 : Int) (a9 : Int) (xs10 : List Int) : GoodL (f45.X k) (nthC 0 (loopsOf (bodyOf Tryd.f45))) (f45.l5.st a6 xs7 a8 a9 xs10) { α := ((List Int) × Int × Int × (List Int)), o := f45.l5 k k a6 xs7 a8 a9 xs10, w := f45.l5.w } :=
  loop_good (ι := Int × (List Int) × Int × Int × (List Int)) (α := ((List Int) × Int × Int × (List Int))) (fun i => f45.l5.st i.1 i.2.1 i.2.2.1 i.2.2.2.1 i.2.2.2.2) (fun j i => f45.l5 k j i.1 i.2.1 i.2.2.1 i.2.2.2.1 i.2.2.2.2) f45.l5.w (fun rec_ ret i => f45.l5.step k (fun a6 xs7 a8 a9 xs10 => rec_ (a6, xs7, a8, a9, xs10)) ret i.1 i.2.1 i.2.2.1 i.2.2.2.1 i.2.2.2.2)
    (fun _ => rfl) (fun _ _ => rfl) (fun rec_ g i => f45.l5.nat k _ g i.1 i.2.1 i.2.2.1 i.2.2.2.1 i.2.2.2.2) (fun {R} i0 i rec_ K => by kernel_rfl) k (a6, xs7, a8, a9, xs10)
theorem f45.l5.all (k : Nat) (S : St env) : GoodL (f45.X k) (nthC 0 (loopsOf (bodyOf Tryd.f45))) S (f45.l5.hd k S.ts S.m S.n) := by
  obtain ⟨ts_, m_, n_⟩ := S
  show GoodL _ _ _ (f45.l5.hd k ts_ m_ n_)
  unfold f45.l5.hd
  refine gTs_ok (p := GoodL _ _ _) goodL_no fun _ h => ?_
  subst h
  refine gV_ok (p := GoodL _ _ _) goodL_no fun _ _ h => ?_
  subst h
  refine rBp_ok (p := GoodL _ _ _) goodL_no fun h => ?_
  subst h
  refine gV_ok (p := GoodL _ _ _) goodL_no fun _ _ h => ?_
  subst h
  refine rRow_ok (p := GoodL _ _ _) goodL_no fun h => ?_
  subst h
  refine gV_ok (p := GoodL _ _ _) goodL_no fun _ _ h => ?_
  subst h
  refine rV_ok (p := GoodL _ _ _) goodL_no fun _ h => ?_
  subst h
  refine vI_ok (p := GoodL _ _ _) goodL_no fun _ h => ?_
  subst h
  refine gE_ok (p := GoodL _ _ _) goodL_no fun h => ?_
  subst h
  refine mBox_ok (p := GoodL _ _ _) goodL_no fun _ _ h => ?_
  subst h
  refine gC_ok (p := GoodL _ _ _) goodL_no fun _ _ h => ?_
  subst h
  refine rImm_ok (p := GoodL _ _ _) goodL_no fun _ h => ?_
  subst h
  refine gC_ok (p := GoodL _ _ _) goodL_no fun _ _ h => ?_
  subst h
  refine rV_ok (p := GoodL _ _ _) goodL_no fun _ h => ?_
  subst h
  refine vI_ok (p := GoodL _ _ _) goodL_no fun _ h => ?_
  subst h
  refine gC_ok (p := GoodL _ _ _) goodL_no fun _ _ h => ?_
  subst h
  refine rV_ok (p := GoodL _ _ _) goodL_no fun _ h => ?_
  subst h
  refine vI_ok (p := GoodL _ _ _) goodL_no fun _ h => ?_
  subst h
  refine gE_ok (p := GoodL _ _ _) goodL_no fun h => ?_
  subst h
  refine mRow_ok (p := GoodL _ _ _) goodL_no fun _ _ h => ?_
  subst h
  refine gE_ok (p := GoodL _ _ _) goodL_no fun h => ?_
  subst h
  refine gN_ok (p := GoodL _ _ _) goodL_no fun h => ?_
  subst h
  exact f45.l5.good k _ _ _ _ _
theorem f45.nat {R : Type} (k : Nat) (g : (ByteArray × (List Int) × Int × Int) → Option R) (xs1 : List Int) (a2 : Int) (a3 : Int) : f45.step k g xs1 a2 a3 = (f45 k xs1 a2 a3).bind g := by
  simp only [f45, f45.step, bind_ite, bind_sum, Option.bind_assoc, Option.bind_some, Option.bind_none]
theorem f45.ev (k : Nat) (xs1 : List Int) (a2 : Int) (a3 : Int) : evF (f45.X k) (bodyOf Tryd.f45) Tryd.f45.ntmps Tryd.f45.results.toList [.v (.ptr [.sl 5 xs1, .s (.int .i64 a2), .s (.int .i64 a3)])] = f45.step k (fun x => f45.w x some) xs1 a2 a3 := by kernel_rfl
theorem f45.hok (k : Nat) : HOK (f45.X k) (bodyOf Tryd.f45) where
  l := allP_mem (by exact ⟨ls_of (h0 := fun S => f45.l5.hd k S.ts S.m S.n) (by kernel_rfl) (f45.l5.all k), trivial⟩)
  j := allP_mem (by exact trivial)
theorem f45.sound0 (k : Nat) : SoundC env Tryd.prog 45 (f45.hd k) := by
  intro ps_
  show GoodC _ _ _ ps_ (f45.hd k ps_)
  unfold f45.hd
  refine gC_ok (p := GoodC env Tryd.prog 45 _) goodC_no fun _ _ h => ?_
  subst h
  refine qP_ok (p := GoodC env Tryd.prog 45 _) goodC_no fun _ h => ?_
  subst h
  refine gC_ok (p := GoodC env Tryd.prog 45 _) goodC_no fun _ _ h => ?_
  subst h
  refine qSl_ok (p := GoodC env Tryd.prog 45 _) goodC_no fun _ h => ?_
  subst h
  refine gC_ok (p := GoodC env Tryd.prog 45 _) goodC_no fun _ _ h => ?_
  subst h
  refine qS_ok (p := GoodC env Tryd.prog 45 _) goodC_no fun _ h => ?_
  subst h
  refine vI_ok (p := GoodC env Tryd.prog 45 _) goodC_no fun _ h => ?_
  subst h
  refine gC_ok (p := GoodC env Tryd.prog 45 _) goodC_no fun _ _ h => ?_
  subst h
  refine qS_ok (p := GoodC env Tryd.prog 45 _) goodC_no fun _ h => ?_
  subst h
  refine vI_ok (p := GoodC env Tryd.prog 45 _) goodC_no fun _ h => ?_
  subst h
  refine gE_ok (p := GoodC env Tryd.prog 45 _) goodC_no fun h => ?_
  subst h
  refine gE_ok (p := GoodC env Tryd.prog 45 _) goodC_no fun h => ?_
  subst h
  exact fun_good (fun_sound envOK (cs_sound _ (by exact ⟨⟨f55.sound k, f55.fnok⟩, trivial⟩)) (f45.hok k) Tryd.func45 rfl) ((f45.ev k _ _ _).trans (f45.nat k _ _ _ _))
theorem f45.sound (k : Nat) : SoundC env Tryd.prog 45 (f45.e k).F := soundC_coer (f45.sound0 k) [[.rd 5, .no, .no]]
theorem f45.says (k : Nat) (xs1 : List Int) (a2 : Int) (a3 : Int) (t16 : ByteArray × (List Int) × Int × Int) (h_ : f45 k xs1 a2 a3 = some t16) : SoundAt env Tryd.prog 45 [.v (.ptr [.sl 5 xs1, .s (.int .i64 a2), .s (.int .i64 a3)])] ⟨.v (.c (.s (.string t16.1))), [[.sl 5 t16.2.1, .s (.int .i64 t16.2.2.1), .s (.int .i64 t16.2.2.2)]]⟩ :=
  fun_sound envOK (cs_sound _ (by exact ⟨⟨f55.sound k, f55.fnok⟩, trivial⟩)) (f45.hok k) Tryd.func45 rfl _ _ (((f45.ev k xs1 a2 a3).trans (f45.nat k _ xs1 a2 a3)).trans (by rw [h_]; rfl))
theorem f45.fnok : FnOK Tryd.prog 45 := fn_ok Tryd.func45 (by kernel_rfl) rfl
def f26.step {R : Type} (k : Nat) (ret : (ByteArray × (List Int) × Int × Int) → Option R) (xs1 : List Int) (a2 : Int) (a3 : Int) : Option R :=
  (f43 k xs1 a2 a3 (2 : Int)).bind fun t4 => if t4.1 = true then
      (f44 k t4.2.1 t4.2.2.1 t4.2.2.2).bind fun t5 => ret (t5.1, t5.2.1, t5.2.2.1, t5.2.2.2)
    else
      (f45 k t4.2.1 t4.2.2.1 t4.2.2.2).bind fun t6 => ret (t6.1, t6.2.1, t6.2.2.1, t6.2.2.2)
def f26 (k : Nat) (xs1 : List Int) (a2 : Int) (a3 : Int) : Option (ByteArray × (List Int) × Int × Int) := f26.step k some xs1 a2 a3
def f26.w {R : Type} : (ByteArray × (List Int) × Int × Int) → (Res env → Option R) → Option R := fun t7 K => K ⟨.v (.c (.s (.string t7.1))), [[.sl 5 t7.2.1, .s (.int .i64 t7.2.2.1), .s (.int .i64 t7.2.2.2)]]⟩
theorem f26.wn (x : (ByteArray × (List Int) × Int × Int)) : ∃ res, ∀ {R : Type} (K : Res env → Option R), f26.w x K = K res := by
  exact ⟨_, fun _ => rfl⟩
def f26.hd (k : Nat) (ps_ : List (P2 env)) : Cl env :=
  gC Cl.no ps_ fun p_ ps_ => qP Cl.no p_ fun cs_ => gC Cl.no cs_ fun c_ cs_ => qSl Cl.no 5 c_ fun xs1 => gC Cl.no cs_ fun c_ cs_ => qS Cl.no c_ fun v_ => vI Cl.no .i64 v_ fun a2 => gC Cl.no cs_ fun c_ cs_ => qS Cl.no c_ fun v_ => vI Cl.no .i64 v_ fun a3 => gE Cl.no cs_ <| gE Cl.no ps_ <| { α := ByteArray × (List Int) × Int × Int, o := f26 k xs1 a2 a3, w := f26.w, nat := fun x _ => f26.wn x }
def f26.e (k : Nat) : Entry env := ⟨fun ps => f26.hd k (coer [[.rd 5, .no, .no]] ps), [], []⟩
def f26.X (k : Nat) : Ctx env := { C := lookE [(43, f43.e k), (44, f44.e k), (45, f45.e k)], L := lookE [], J := lookE [], keep := lookD [], keepX := lookD [], span := lookN [], eff := fun n => memN n [], prep := lookP [], np := 0 }
theorem f26.nat {R : Type} (k : Nat) (g : (ByteArray × (List Int) × Int × Int) → Option R) (xs1 : List Int) (a2 : Int) (a3 : Int) : f26.step k g xs1 a2 a3 = (f26 k xs1 a2 a3).bind g := by
  simp only [f26, f26.step, bind_ite, bind_sum, Option.bind_assoc, Option.bind_some, Option.bind_none]
theorem f26.ev (k : Nat) (xs1 : List Int) (a2 : Int) (a3 : Int) : evF (f26.X k) (bodyOf Tryd.f26) Tryd.f26.ntmps Tryd.f26.results.toList [.v (.ptr [.sl 5 xs1, .s (.int .i64 a2), .s (.int .i64 a3)])] = f26.step k (fun x => f26.w x some) xs1 a2 a3 := by kernel_rfl
theorem f26.hok (k : Nat) : HOK (f26.X k) (bodyOf Tryd.f26) where
  l := allP_mem (by exact trivial)
  j := allP_mem (by exact trivial)
theorem f26.sound0 (k : Nat) : SoundC env Tryd.prog 26 (f26.hd k) := by
  intro ps_
  show GoodC _ _ _ ps_ (f26.hd k ps_)
  unfold f26.hd
  refine gC_ok (p := GoodC env Tryd.prog 26 _) goodC_no fun _ _ h => ?_
  subst h
  refine qP_ok (p := GoodC env Tryd.prog 26 _) goodC_no fun _ h => ?_
  subst h
  refine gC_ok (p := GoodC env Tryd.prog 26 _) goodC_no fun _ _ h => ?_
  subst h
  refine qSl_ok (p := GoodC env Tryd.prog 26 _) goodC_no fun _ h => ?_
  subst h
  refine gC_ok (p := GoodC env Tryd.prog 26 _) goodC_no fun _ _ h => ?_
  subst h
  refine qS_ok (p := GoodC env Tryd.prog 26 _) goodC_no fun _ h => ?_
  subst h
  refine vI_ok (p := GoodC env Tryd.prog 26 _) goodC_no fun _ h => ?_
  subst h
  refine gC_ok (p := GoodC env Tryd.prog 26 _) goodC_no fun _ _ h => ?_
  subst h
  refine qS_ok (p := GoodC env Tryd.prog 26 _) goodC_no fun _ h => ?_
  subst h
  refine vI_ok (p := GoodC env Tryd.prog 26 _) goodC_no fun _ h => ?_
  subst h
  refine gE_ok (p := GoodC env Tryd.prog 26 _) goodC_no fun h => ?_
  subst h
  refine gE_ok (p := GoodC env Tryd.prog 26 _) goodC_no fun h => ?_
  subst h
  exact fun_good (fun_sound envOK (cs_sound _ (by exact ⟨⟨f43.sound k, f43.fnok⟩, ⟨f44.sound k, f44.fnok⟩, ⟨f45.sound k, f45.fnok⟩, trivial⟩)) (f26.hok k) Tryd.func26 rfl) ((f26.ev k _ _ _).trans (f26.nat k _ _ _ _))
theorem f26.sound (k : Nat) : SoundC env Tryd.prog 26 (f26.e k).F := soundC_coer (f26.sound0 k) [[.rd 5, .no, .no]]
theorem f26.says (k : Nat) (xs1 : List Int) (a2 : Int) (a3 : Int) (t8 : ByteArray × (List Int) × Int × Int) (h_ : f26 k xs1 a2 a3 = some t8) : SoundAt env Tryd.prog 26 [.v (.ptr [.sl 5 xs1, .s (.int .i64 a2), .s (.int .i64 a3)])] ⟨.v (.c (.s (.string t8.1))), [[.sl 5 t8.2.1, .s (.int .i64 t8.2.2.1), .s (.int .i64 t8.2.2.2)]]⟩ :=
  fun_sound envOK (cs_sound _ (by exact ⟨⟨f43.sound k, f43.fnok⟩, ⟨f44.sound k, f44.fnok⟩, ⟨f45.sound k, f45.fnok⟩, trivial⟩)) (f26.hok k) Tryd.func26 rfl _ _ (((f26.ev k xs1 a2 a3).trans (f26.nat k _ xs1 a2 a3)).trans (by rw [h_]; rfl))
theorem f26.fnok : FnOK Tryd.prog 26 := fn_ok Tryd.func26 (by kernel_rfl) rfl
def f10.step {R : Type} (k : Nat) (ret : ByteArray → Option R) (xs1 : List Int) : Option R :=
  (f25 k xs1).bind fun t2 => (f26 k t2.1 t2.2.1 t2.2.2).bind fun t3 => ret t3.1
def f10 (k : Nat) (xs1 : List Int) : Option ByteArray := f10.step k some xs1
def f10.w {R : Type} : ByteArray → (Res env → Option R) → Option R := fun t4 K => K ⟨.v (.c (.s (.string t4))), [[]]⟩
theorem f10.wn (x : ByteArray) : ∃ res, ∀ {R : Type} (K : Res env → Option R), f10.w x K = K res := by
  exact ⟨_, fun _ => rfl⟩
def f10.hd (k : Nat) (ps_ : List (P2 env)) : Cl env :=
  gC Cl.no ps_ fun p_ ps_ => qC Cl.no p_ fun c_ => qSl Cl.no 5 c_ fun xs1 => gE Cl.no ps_ <| { α := ByteArray, o := f10 k xs1, w := f10.w, nat := fun x _ => f10.wn x }
def f10.e (k : Nat) : Entry env := ⟨fun ps => f10.hd k (coer [[.rd 5]] ps), [], []⟩
def f10.X (k : Nat) : Ctx env := { C := lookE [(25, f25.e k), (26, f26.e k)], L := lookE [], J := lookE [], keep := lookD [], keepX := lookD [], span := lookN [], eff := fun n => memN n [], prep := lookP [], np := 0 }
theorem f10.nat {R : Type} (k : Nat) (g : ByteArray → Option R) (xs1 : List Int) : f10.step k g xs1 = (f10 k xs1).bind g := by
  simp only [f10, f10.step, bind_ite, bind_sum, Option.bind_assoc, Option.bind_some, Option.bind_none]
theorem f10.ev (k : Nat) (xs1 : List Int) : evF (f10.X k) (bodyOf Tryd.f10) Tryd.f10.ntmps Tryd.f10.results.toList [.v (.c (.sl 5 xs1))] = f10.step k (fun x => f10.w x some) xs1 := by kernel_rfl
theorem f10.hok (k : Nat) : HOK (f10.X k) (bodyOf Tryd.f10) where
  l := allP_mem (by exact trivial)
  j := allP_mem (by exact trivial)
theorem f10.sound0 (k : Nat) : SoundC env Tryd.prog 10 (f10.hd k) := by
  intro ps_
  show GoodC _ _ _ ps_ (f10.hd k ps_)
  unfold f10.hd
  refine gC_ok (p := GoodC env Tryd.prog 10 _) goodC_no fun _ _ h => ?_
  subst h
  refine qC_ok (p := GoodC env Tryd.prog 10 _) goodC_no fun _ h => ?_
  subst h
  refine qSl_ok (p := GoodC env Tryd.prog 10 _) goodC_no fun _ h => ?_
  subst h
  refine gE_ok (p := GoodC env Tryd.prog 10 _) goodC_no fun h => ?_
  subst h
  exact fun_good (fun_sound envOK (cs_sound _ (by exact ⟨⟨f25.sound k, f25.fnok⟩, ⟨f26.sound k, f26.fnok⟩, trivial⟩)) (f10.hok k) Tryd.func10 rfl) ((f10.ev k _).trans (f10.nat k _ _))
theorem f10.sound (k : Nat) : SoundC env Tryd.prog 10 (f10.e k).F := soundC_coer (f10.sound0 k) [[.rd 5]]
theorem f10.says (k : Nat) (xs1 : List Int) (t5 : ByteArray) (h_ : f10 k xs1 = some t5) : SoundAt env Tryd.prog 10 [.v (.c (.sl 5 xs1))] ⟨.v (.c (.s (.string t5))), [[]]⟩ :=
  fun_sound envOK (cs_sound _ (by exact ⟨⟨f25.sound k, f25.fnok⟩, ⟨f26.sound k, f26.fnok⟩, trivial⟩)) (f10.hok k) Tryd.func10 rfl _ _ (((f10.ev k xs1).trans (f10.nat k _ xs1)).trans (by rw [h_]; rfl))
theorem f10.fnok : FnOK Tryd.prog 10 := fn_ok Tryd.func10 (by kernel_rfl) rfl
def f15.l2.step {R : Type} (k : Nat) (rec_ : (List ByteArray) → Int → Int → Option R) (ret : (Bool ⊕ (Unit)) → Option R) (xs2 : List ByteArray) (a3 : Int) (a4 : Int) : Option R :=
  if (decide (a4 < a3)) = true then
    if (0 : Int) ≤ a4 then
      if a4 < ((List.length xs2 : Nat) : Int) then
        if (decide ((((ByteArray.size (List.getD xs2 (Int.toNat a4) ByteArray.empty)) : Nat) : Int) > (65536 : Int))) = true then
          ret (.inl true)
        else
          rec_ xs2 a3 (IntKind.i64.wrap (a4 + (1 : Int)))
      else none
    else none
  else
    ret (.inr ())
def f15.l2 (k : Nat) : Nat → (List ByteArray) → Int → Int → Option (Bool ⊕ (Unit))
  | 0, _, _, _ => none
  | j + 1, xs2, a3, a4 => f15.l2.step k (fun xs2 a3 a4 => f15.l2 k j xs2 a3 a4) some xs2 a3 a4
def f15.l2.w {R : Type} : (Bool ⊕ (Unit)) → (Exit → St env → Option R) → Option R := fun x K => Sum.elim (fun t7 => K .ret ⟨fullT [2] 0 15 [.v (.c (.s (.bool t7)))], [], 225⟩) (fun t8 => K (.exit 0) ⟨fullT [] 0 15 [], [], 225⟩) x
def f15.l2.st (xs2 : List ByteArray) (a3 : Int) (a4 : Int) : St env := ⟨fullT [5, 6, 7] 0 15 [.v (.c (.imm 9 xs2)), .v (.c (.s (.int .i64 a3))), .v (.c (.s (.int .i64 a4)))], [], 65⟩
def f15.l2.hd (k : Nat) (ts_ : List (AV env)) (mm_ : Mem env) (n_ : Nat) : LCl env :=
  gTs LCl.no [5, 6, 7] 15 ts_ fun l_ => gV LCl.no l_ fun a_ l_ => rImm LCl.no 9 a_ fun xs2 => gV LCl.no l_ fun a_ l_ => rV LCl.no a_ fun v_ => vI LCl.no .i64 v_ fun a3 => gV LCl.no l_ fun a_ l_ => rV LCl.no a_ fun v_ => vI LCl.no .i64 v_ fun a4 => gE LCl.no l_ <| gE LCl.no mm_ <| gN LCl.no 65 n_ { α := Bool ⊕ (Unit), o := f15.l2 k k xs2 a3 a4, w := f15.l2.w }
def f15.step {R : Type} (k : Nat) (ret : Bool → Option R) (xs1 : List ByteArray) : Option R :=
  (f15.l2 k k xs1 (((List.length xs1) : Nat) : Int) (0 : Int)).bind (Sum.elim (fun t5 => ret t5) (fun t6 => ret false))
def f15 (k : Nat) (xs1 : List ByteArray) : Option Bool := f15.step k some xs1
def f15.w {R : Type} : Bool → (Res env → Option R) → Option R := fun t9 K => K ⟨.v (.c (.s (.bool t9))), [[]]⟩
theorem f15.wn (x : Bool) : ∃ res, ∀ {R : Type} (K : Res env → Option R), f15.w x K = K res := by
  exact ⟨_, fun _ => rfl⟩
def f15.hd (k : Nat) (ps_ : List (P2 env)) : Cl env :=
  gC Cl.no ps_ fun p_ ps_ => qC Cl.no p_ fun c_ => qSl Cl.no 9 c_ fun xs1 => gE Cl.no ps_ <| { α := Bool, o := f15 k xs1, w := f15.w, nat := fun x _ => f15.wn x }
def f15.e (k : Nat) : Entry env := ⟨fun ps => f15.hd k (coer [[.rd 9]] ps), [], []⟩
def f15.X (k : Nat) : Ctx env := { C := lookE [], L := lookE [(2, fun S => f15.l2.hd k S.ts S.m S.n)], J := lookE [], keep := lookD [(2, [5, 6, 7])], keepX := lookD [(2, [2])], span := lookN [(2, 160)], eff := fun n => memN n [], prep := lookP [], np := 0 }
theorem f15.l2.nat {R : Type} (k : Nat) (rec_ : (List ByteArray) → Int → Int → Option (Bool ⊕ (Unit))) (g : (Bool ⊕ (Unit)) → Option R) (xs2 : List ByteArray) (a3 : Int) (a4 : Int) : (f15.l2.step k rec_ some xs2 a3 a4).bind g = f15.l2.step k (fun xs2 a3 a4 => (rec_ xs2 a3 a4).bind g) g xs2 a3 a4 := by
  simp only [f15.l2.step, bind_ite, bind_sum, Option.bind_assoc, Option.bind_some, Option.bind_none]
theorem f15.l2.good (k : Nat) (xs2 : List ByteArray) (a3 : Int) (a4 : Int) : GoodL (f15.X k) (nthC 0 (loopsOf (bodyOf Tryd.f15))) (f15.l2.st xs2 a3 a4) { α := (Bool ⊕ (Unit)), o := f15.l2 k k xs2 a3 a4, w := f15.l2.w } :=
  loop_good (ι := (List ByteArray) × Int × Int) (α := (Bool ⊕ (Unit))) (fun i => f15.l2.st i.1 i.2.1 i.2.2) (fun j i => f15.l2 k j i.1 i.2.1 i.2.2) f15.l2.w (fun rec_ ret i => f15.l2.step k (fun xs2 a3 a4 => rec_ (xs2, a3, a4)) ret i.1 i.2.1 i.2.2)
    (fun _ => rfl) (fun _ _ => rfl) (fun rec_ g i => f15.l2.nat k _ g i.1 i.2.1 i.2.2) (fun {R} i0 i rec_ K => by kernel_rfl) k (xs2, a3, a4)
theorem f15.l2.all (k : Nat) (S : St env) : GoodL (f15.X k) (nthC 0 (loopsOf (bodyOf Tryd.f15))) S (f15.l2.hd k S.ts S.m S.n) := by
  obtain ⟨ts_, m_, n_⟩ := S
  show GoodL _ _ _ (f15.l2.hd k ts_ m_ n_)
  unfold f15.l2.hd
  refine gTs_ok (p := GoodL _ _ _) goodL_no fun _ h => ?_
  subst h
  refine gV_ok (p := GoodL _ _ _) goodL_no fun _ _ h => ?_
  subst h
  refine rImm_ok (p := GoodL _ _ _) goodL_no fun _ h => ?_
  subst h
  refine gV_ok (p := GoodL _ _ _) goodL_no fun _ _ h => ?_
  subst h
  refine rV_ok (p := GoodL _ _ _) goodL_no fun _ h => ?_
  subst h
  refine vI_ok (p := GoodL _ _ _) goodL_no fun _ h => ?_
  subst h
  refine gV_ok (p := GoodL _ _ _) goodL_no fun _ _ h => ?_
  subst h
  refine rV_ok (p := GoodL _ _ _) goodL_no fun _ h => ?_
  subst h
  refine vI_ok (p := GoodL _ _ _) goodL_no fun _ h => ?_
  subst h
  refine gE_ok (p := GoodL _ _ _) goodL_no fun h => ?_
  subst h
  refine gE_ok (p := GoodL _ _ _) goodL_no fun h => ?_
  subst h
  refine gN_ok (p := GoodL _ _ _) goodL_no fun h => ?_
  subst h
  exact f15.l2.good k _ _ _
theorem f15.nat {R : Type} (k : Nat) (g : Bool → Option R) (xs1 : List ByteArray) : f15.step k g xs1 = (f15 k xs1).bind g := by
  simp only [f15, f15.step, bind_ite, bind_sum, Option.bind_assoc, Option.bind_some, Option.bind_none]
theorem f15.ev (k : Nat) (xs1 : List ByteArray) : evF (f15.X k) (bodyOf Tryd.f15) Tryd.f15.ntmps Tryd.f15.results.toList [.v (.c (.sl 9 xs1))] = f15.step k (fun x => f15.w x some) xs1 := by kernel_rfl
theorem f15.hok (k : Nat) : HOK (f15.X k) (bodyOf Tryd.f15) where
  l := allP_mem (by exact ⟨ls_of (h0 := fun S => f15.l2.hd k S.ts S.m S.n) (by kernel_rfl) (f15.l2.all k), trivial⟩)
  j := allP_mem (by exact trivial)
theorem f15.sound0 (k : Nat) : SoundC env Tryd.prog 15 (f15.hd k) := by
  intro ps_
  show GoodC _ _ _ ps_ (f15.hd k ps_)
  unfold f15.hd
  refine gC_ok (p := GoodC env Tryd.prog 15 _) goodC_no fun _ _ h => ?_
  subst h
  refine qC_ok (p := GoodC env Tryd.prog 15 _) goodC_no fun _ h => ?_
  subst h
  refine qSl_ok (p := GoodC env Tryd.prog 15 _) goodC_no fun _ h => ?_
  subst h
  refine gE_ok (p := GoodC env Tryd.prog 15 _) goodC_no fun h => ?_
  subst h
  exact fun_good (fun_sound envOK (cs_sound _ (by exact trivial)) (f15.hok k) Tryd.func15 rfl) ((f15.ev k _).trans (f15.nat k _ _))
theorem f15.sound (k : Nat) : SoundC env Tryd.prog 15 (f15.e k).F := soundC_coer (f15.sound0 k) [[.rd 9]]
theorem f15.says (k : Nat) (xs1 : List ByteArray) (t10 : Bool) (h_ : f15 k xs1 = some t10) : SoundAt env Tryd.prog 15 [.v (.c (.sl 9 xs1))] ⟨.v (.c (.s (.bool t10))), [[]]⟩ :=
  fun_sound envOK (cs_sound _ (by exact trivial)) (f15.hok k) Tryd.func15 rfl _ _ (((f15.ev k xs1).trans (f15.nat k _ xs1)).trans (by rw [h_]; rfl))
theorem f15.fnok : FnOK Tryd.prog 15 := fn_ok Tryd.func15 (by kernel_rfl) rfl
def f27.step {R : Type} (k : Nat) (ret : Bool → Option R) (s1 : ByteArray) : Option R :=
  if (decide ((((ByteArray.size s1) : Nat) : Int) = (4 : Int))) = false then
    ret (decide ((((ByteArray.size s1) : Nat) : Int) = (16 : Int)))
  else
    ret true
def f27 (k : Nat) (s1 : ByteArray) : Option Bool := f27.step k some s1
def f27.w {R : Type} : Bool → (Res env → Option R) → Option R := fun t2 K => K ⟨.v (.c (.s (.bool t2))), [[]]⟩
theorem f27.wn (x : Bool) : ∃ res, ∀ {R : Type} (K : Res env → Option R), f27.w x K = K res := by
  exact ⟨_, fun _ => rfl⟩
def f27.hd (k : Nat) (ps_ : List (P2 env)) : Cl env :=
  gC Cl.no ps_ fun p_ ps_ => qC Cl.no p_ fun c_ => qS Cl.no c_ fun v_ => vS Cl.no v_ fun s1 => gE Cl.no ps_ <| { α := Bool, o := f27 k s1, w := f27.w, nat := fun x _ => f27.wn x }
def f27.e (k : Nat) : Entry env := ⟨f27.hd k, [], []⟩
def f27.X (k : Nat) : Ctx env := { C := lookE [], L := lookE [], J := lookE [], keep := lookD [], keepX := lookD [], span := lookN [], eff := fun n => memN n [], prep := lookP [], np := 0 }
theorem f27.nat {R : Type} (k : Nat) (g : Bool → Option R) (s1 : ByteArray) : f27.step k g s1 = (f27 k s1).bind g := by
  simp only [f27, f27.step, bind_ite, bind_sum, Option.bind_assoc, Option.bind_some, Option.bind_none]
theorem f27.ev (k : Nat) (s1 : ByteArray) : evF (f27.X k) (bodyOf Tryd.f27) Tryd.f27.ntmps Tryd.f27.results.toList [.v (.c (.s (.string s1)))] = f27.step k (fun x => f27.w x some) s1 := by kernel_rfl
theorem f27.hok (k : Nat) : HOK (f27.X k) (bodyOf Tryd.f27) where
  l := allP_mem (by exact trivial)
  j := allP_mem (by exact trivial)
theorem f27.sound (k : Nat) : SoundC env Tryd.prog 27 ((f27.e k).F) := by
  intro ps_
  show GoodC _ _ _ ps_ (f27.hd k ps_)
  unfold f27.hd
  refine gC_ok (p := GoodC env Tryd.prog 27 _) goodC_no fun _ _ h => ?_
  subst h
  refine qC_ok (p := GoodC env Tryd.prog 27 _) goodC_no fun _ h => ?_
  subst h
  refine qS_ok (p := GoodC env Tryd.prog 27 _) goodC_no fun _ h => ?_
  subst h
  refine vS_ok (p := GoodC env Tryd.prog 27 _) goodC_no fun _ h => ?_
  subst h
  refine gE_ok (p := GoodC env Tryd.prog 27 _) goodC_no fun h => ?_
  subst h
  exact fun_good (fun_sound envOK (cs_sound _ (by exact trivial)) (f27.hok k) Tryd.func27 rfl) ((f27.ev k _).trans (f27.nat k _ _))
theorem f27.says (k : Nat) (s1 : ByteArray) (t3 : Bool) (h_ : f27 k s1 = some t3) : SoundAt env Tryd.prog 27 [.v (.c (.s (.string s1)))] ⟨.v (.c (.s (.bool t3))), [[]]⟩ :=
  fun_sound envOK (cs_sound _ (by exact trivial)) (f27.hok k) Tryd.func27 rfl _ _ (((f27.ev k s1).trans (f27.nat k _ s1)).trans (by rw [h_]; rfl))
theorem f27.fnok : FnOK Tryd.prog 27 := fn_ok Tryd.func27 (by kernel_rfl) rfl
def f30.l5.step {R : Type} (k : Nat) (rec_ : (List Int) → Int → Int → Int → Int → Option R) (ret : ((List Int) × Int × Int × Int × Int) → Option R) (xs6 : List Int) (a7 : Int) (a8 : Int) (a9 : Int) (a10 : Int) : Option R :=
  if (decide (a10 < (((List.length xs6) : Nat) : Int))) = true then
    if (0 : Int) ≤ a10 then
      if a10 < ((List.length xs6 : Nat) : Int) then
        if (decide ((List.getD xs6 (Int.toNat a10) (0 : Int)) = (0 : Int))) = true then
          rec_ xs6 a7 a8 a9 (IntKind.i64.wrap (a10 + (1 : Int)))
        else
          ret (xs6, a7, a8, a9, a10)
      else none
    else none
  else
    ret (xs6, a7, a8, a9, a10)
def f30.l5 (k : Nat) : Nat → (List Int) → Int → Int → Int → Int → Option ((List Int) × Int × Int × Int × Int)
  | 0, _, _, _, _, _ => none
  | j + 1, xs6, a7, a8, a9, a10 => f30.l5.step k (fun xs6 a7 a8 a9 a10 => f30.l5 k j xs6 a7 a8 a9 a10) some xs6 a7 a8 a9 a10
def f30.l5.w {R : Type} : ((List Int) × Int × Int × Int × Int) → (Exit → St env → Option R) → Option R := fun t13 K => K (.exit 2) ⟨fullT [0, 4, 5, 6, 7] 0 41 [.v (.c (.imm 3 t13.1)), .v (.c (.s (.int .i64 t13.2.1))), .v (.c (.s (.int .i64 t13.2.2.1))), .v (.c (.s (.int .i64 t13.2.2.2.1))), .v (.c (.s (.int .i64 t13.2.2.2.2)))], [], 401⟩
def f30.l5.st (xs6 : List Int) (a7 : Int) (a8 : Int) (a9 : Int) (a10 : Int) : St env := ⟨fullT [0, 4, 5, 6, 7] 0 41 [.v (.c (.imm 3 xs6)), .v (.c (.s (.int .i64 a7))), .v (.c (.s (.int .i64 a8))), .v (.c (.s (.int .i64 a9))), .v (.c (.s (.int .i64 a10)))], [], 177⟩
def f30.l3.step {R : Type} (k : Nat) (rec_ : (List Int) → Int → Int → Int → Option R) (ret : (Int × Int) → Option R) (xs2 : List Int) (a3 : Int) (a4 : Int) (a5 : Int) : Option R :=
  if (decide (a5 < (((List.length xs2) : Nat) : Int))) = true then
    (f30.l5 k k xs2 a3 a4 a5 a5).bind fun t11 => if (decide ((IntKind.i64.wrap (t11.2.2.2.2 - t11.2.2.2.1)) > t11.2.2.1)) = true then
        rec_ t11.1 t11.2.2.2.1 (IntKind.i64.wrap (t11.2.2.2.2 - t11.2.2.2.1)) (if (IntKind.i64.wrap (t11.2.2.2.1 + (1 : Int))) > t11.2.2.2.2 then (IntKind.i64.wrap (t11.2.2.2.1 + (1 : Int))) else t11.2.2.2.2)
      else
        rec_ t11.1 t11.2.1 t11.2.2.1 (if (IntKind.i64.wrap (t11.2.2.2.1 + (1 : Int))) > t11.2.2.2.2 then (IntKind.i64.wrap (t11.2.2.2.1 + (1 : Int))) else t11.2.2.2.2)
  else
    ret (a3, a4)
def f30.l3 (k : Nat) : Nat → (List Int) → Int → Int → Int → Option (Int × Int)
  | 0, _, _, _, _ => none
  | j + 1, xs2, a3, a4, a5 => f30.l3.step k (fun xs2 a3 a4 a5 => f30.l3 k j xs2 a3 a4 a5) some xs2 a3 a4 a5
def f30.l3.w {R : Type} : (Int × Int) → (Exit → St env → Option R) → Option R := fun t14 K => K (.exit 0) ⟨fullT [4, 5] 0 41 [.v (.c (.s (.int .i64 t14.1))), .v (.c (.s (.int .i64 t14.2)))], [], 657⟩
def f30.l3.st (xs2 : List Int) (a3 : Int) (a4 : Int) (a5 : Int) : St env := ⟨fullT [0, 4, 5, 6] 0 41 [.v (.c (.imm 3 xs2)), .v (.c (.s (.int .i64 a3))), .v (.c (.s (.int .i64 a4))), .v (.c (.s (.int .i64 a5)))], [], 81⟩
def f30.l5.hd (k : Nat) (ts_ : List (AV env)) (mm_ : Mem env) (n_ : Nat) : LCl env :=
  gTs LCl.no [0, 4, 5, 6, 7] 41 ts_ fun l_ => gV LCl.no l_ fun a_ l_ => rImm LCl.no 3 a_ fun xs6 => gV LCl.no l_ fun a_ l_ => rV LCl.no a_ fun v_ => vI LCl.no .i64 v_ fun a7 => gV LCl.no l_ fun a_ l_ => rV LCl.no a_ fun v_ => vI LCl.no .i64 v_ fun a8 => gV LCl.no l_ fun a_ l_ => rV LCl.no a_ fun v_ => vI LCl.no .i64 v_ fun a9 => gV LCl.no l_ fun a_ l_ => rV LCl.no a_ fun v_ => vI LCl.no .i64 v_ fun a10 => gE LCl.no l_ <| gE LCl.no mm_ <| gN LCl.no 177 n_ { α := (List Int) × Int × Int × Int × Int, o := f30.l5 k k xs6 a7 a8 a9 a10, w := f30.l5.w }
def f30.l3.hd (k : Nat) (ts_ : List (AV env)) (mm_ : Mem env) (n_ : Nat) : LCl env :=
  gTs LCl.no [0, 4, 5, 6] 41 ts_ fun l_ => gV LCl.no l_ fun a_ l_ => rImm LCl.no 3 a_ fun xs2 => gV LCl.no l_ fun a_ l_ => rV LCl.no a_ fun v_ => vI LCl.no .i64 v_ fun a3 => gV LCl.no l_ fun a_ l_ => rV LCl.no a_ fun v_ => vI LCl.no .i64 v_ fun a4 => gV LCl.no l_ fun a_ l_ => rV LCl.no a_ fun v_ => vI LCl.no .i64 v_ fun a5 => gE LCl.no l_ <| gE LCl.no mm_ <| gN LCl.no 81 n_ { α := Int × Int, o := f30.l3 k k xs2 a3 a4 a5, w := f30.l3.w }
def f30.step {R : Type} (k : Nat) (ret : (Int × Int) → Option R) (xs1 : List Int) : Option R :=
  (f30.l3 k k xs1 (0 : Int) (0 : Int) (0 : Int)).bind fun t12 => ret (t12.1, t12.2)
def f30 (k : Nat) (xs1 : List Int) : Option (Int × Int) := f30.step k some xs1
def f30.w {R : Type} : (Int × Int) → (Res env → Option R) → Option R := fun t15 K => K ⟨.tup [.c (.s (.int .i64 t15.1)), .c (.s (.int .i64 t15.2))], [[]]⟩
theorem f30.wn (x : (Int × Int)) : ∃ res, ∀ {R : Type} (K : Res env → Option R), f30.w x K = K res := by
  exact ⟨_, fun _ => rfl⟩
def f30.hd (k : Nat) (ps_ : List (P2 env)) : Cl env :=
  gC Cl.no ps_ fun p_ ps_ => qC Cl.no p_ fun c_ => qSl Cl.no 3 c_ fun xs1 => gE Cl.no ps_ <| { α := Int × Int, o := f30 k xs1, w := f30.w, nat := fun x _ => f30.wn x }
def f30.e (k : Nat) : Entry env := ⟨fun ps => f30.hd k (coer [[.rd 3]] ps), [], []⟩
def f30.X (k : Nat) : Ctx env := { C := lookE [], L := lookE [(5, fun S => f30.l5.hd k S.ts S.m S.n), (3, fun S => f30.l3.hd k S.ts S.m S.n)], J := lookE [], keep := lookD [(5, [0, 4, 5, 6, 7]), (3, [0, 4, 5, 6])], keepX := lookD [(5, [0, 4, 5, 6, 7]), (3, [4, 5])], span := lookN [(5, 224), (3, 576)], eff := fun n => memN n [], prep := lookP [], np := 0 }
theorem f30.l5.nat {R : Type} (k : Nat) (rec_ : (List Int) → Int → Int → Int → Int → Option ((List Int) × Int × Int × Int × Int)) (g : ((List Int) × Int × Int × Int × Int) → Option R) (xs6 : List Int) (a7 : Int) (a8 : Int) (a9 : Int) (a10 : Int) : (f30.l5.step k rec_ some xs6 a7 a8 a9 a10).bind g = f30.l5.step k (fun xs6 a7 a8 a9 a10 => (rec_ xs6 a7 a8 a9 a10).bind g) g xs6 a7 a8 a9 a10 := by
  simp only [f30.l5.step, bind_ite, bind_sum, Option.bind_assoc, Option.bind_some, Option.bind_none]
theorem f30.l5.good (k : Nat) (xs6 : List Int) (a7 : Int) (a8 : Int) (a9 : Int) (a10 : Int) : GoodL (f30.X k) (nthC 1 (loopsOf (bodyOf Tryd.f30))) (f30.l5.st xs6 a7 a8 a9 a10) { α := ((List Int) × Int × Int × Int × Int), o := f30.l5 k k xs6 a7 a8 a9 a10, w := f30.l5.w } :=
  loop_good (ι := (List Int) × Int × Int × Int × Int) (α := ((List Int) × Int × Int × Int × Int)) (fun i => f30.l5.st i.1 i.2.1 i.2.2.1 i.2.2.2.1 i.2.2.2.2) (fun j i => f30.l5 k j i.1 i.2.1 i.2.2.1 i.2.2.2.1 i.2.2.2.2) f30.l5.w (fun rec_ ret i => f30.l5.step k (fun xs6 a7 a8 a9 a10 => rec_ (xs6, a7, a8, a9, a10)) ret i.1 i.2.1 i.2.2.1 i.2.2.2.1 i.2.2.2.2)
    (fun _ => rfl) (fun _ _ => rfl) (fun rec_ g i => f30.l5.nat k _ g i.1 i.2.1 i.2.2.1 i.2.2.2.1 i.2.2.2.2) (fun {R} i0 i rec_ K => by kernel_rfl) k (xs6, a7, a8, a9, a10)
theorem f30.l5.all (k : Nat) (S : St env) : GoodL (f30.X k) (nthC 1 (loopsOf (bodyOf Tryd.f30))) S (f30.l5.hd k S.ts S.m S.n) := by
  obtain ⟨ts_, m_, n_⟩ := S
  show GoodL _ _ _ (f30.l5.hd k ts_ m_ n_)
  unfold f30.l5.hd
  refine gTs_ok (p := GoodL _ _ _) goodL_no fun _ h => ?_
  subst h
  refine gV_ok (p := GoodL _ _ _) goodL_no fun _ _ h => ?_
  subst h
  refine rImm_ok (p := GoodL _ _ _) goodL_no fun _ h => ?_
  subst h
  refine gV_ok (p := GoodL _ _ _) goodL_no fun _ _ h => ?_
  subst h
  refine rV_ok (p := GoodL _ _ _) goodL_no fun _ h => ?_
  subst h
  refine vI_ok (p := GoodL _ _ _) goodL_no fun _ h => ?_
  subst h
  refine gV_ok (p := GoodL _ _ _) goodL_no fun _ _ h => ?_
  subst h
  refine rV_ok (p := GoodL _ _ _) goodL_no fun _ h => ?_
  subst h
  refine vI_ok (p := GoodL _ _ _) goodL_no fun _ h => ?_
  subst h
  refine gV_ok (p := GoodL _ _ _) goodL_no fun _ _ h => ?_
  subst h
  refine rV_ok (p := GoodL _ _ _) goodL_no fun _ h => ?_
  subst h
  refine vI_ok (p := GoodL _ _ _) goodL_no fun _ h => ?_
  subst h
  refine gV_ok (p := GoodL _ _ _) goodL_no fun _ _ h => ?_
  subst h
  refine rV_ok (p := GoodL _ _ _) goodL_no fun _ h => ?_
  subst h
  refine vI_ok (p := GoodL _ _ _) goodL_no fun _ h => ?_
  subst h
  refine gE_ok (p := GoodL _ _ _) goodL_no fun h => ?_
  subst h
  refine gE_ok (p := GoodL _ _ _) goodL_no fun h => ?_
  subst h
  refine gN_ok (p := GoodL _ _ _) goodL_no fun h => ?_
  subst h
  exact f30.l5.good k _ _ _ _ _
theorem f30.l3.nat {R : Type} (k : Nat) (rec_ : (List Int) → Int → Int → Int → Option (Int × Int)) (g : (Int × Int) → Option R) (xs2 : List Int) (a3 : Int) (a4 : Int) (a5 : Int) : (f30.l3.step k rec_ some xs2 a3 a4 a5).bind g = f30.l3.step k (fun xs2 a3 a4 a5 => (rec_ xs2 a3 a4 a5).bind g) g xs2 a3 a4 a5 := by
  simp only [f30.l3.step, bind_ite, bind_sum, Option.bind_assoc, Option.bind_some, Option.bind_none]
theorem f30.l3.good (k : Nat) (xs2 : List Int) (a3 : Int) (a4 : Int) (a5 : Int) : GoodL (f30.X k) (nthC 0 (loopsOf (bodyOf Tryd.f30))) (f30.l3.st xs2 a3 a4 a5) { α := (Int × Int), o := f30.l3 k k xs2 a3 a4 a5, w := f30.l3.w } :=
  loop_good (ι := (List Int) × Int × Int × Int) (α := (Int × Int)) (fun i => f30.l3.st i.1 i.2.1 i.2.2.1 i.2.2.2) (fun j i => f30.l3 k j i.1 i.2.1 i.2.2.1 i.2.2.2) f30.l3.w (fun rec_ ret i => f30.l3.step k (fun xs2 a3 a4 a5 => rec_ (xs2, a3, a4, a5)) ret i.1 i.2.1 i.2.2.1 i.2.2.2)
    (fun _ => rfl) (fun _ _ => rfl) (fun rec_ g i => f30.l3.nat k _ g i.1 i.2.1 i.2.2.1 i.2.2.2) (fun {R} i0 i rec_ K => by kernel_rfl) k (xs2, a3, a4, a5)
theorem f30.l3.all (k : Nat) (S : St env) : GoodL (f30.X k) (nthC 0 (loopsOf (bodyOf Tryd.f30))) S (f30.l3.hd k S.ts S.m S.n) := by
  obtain ⟨ts_, m_, n_⟩ := S
  show GoodL _ _ _ (f30.l3.hd k ts_ m_ n_)
  unfold f30.l3.hd
  refine gTs_ok (p := GoodL _ _ _) goodL_no fun _ h => ?_
  subst h
  refine gV_ok (p := GoodL _ _ _) goodL_no fun _ _ h => ?_
  subst h
  refine rImm_ok (p := GoodL _ _ _) goodL_no fun _ h => ?_
  subst h
  refine gV_ok (p := GoodL _ _ _) goodL_no fun _ _ h => ?_
  subst h
  refine rV_ok (p := GoodL _ _ _) goodL_no fun _ h => ?_
  subst h
  refine vI_ok (p := GoodL _ _ _) goodL_no fun _ h => ?_
  subst h
  refine gV_ok (p := GoodL _ _ _) goodL_no fun _ _ h => ?_
  subst h
  refine rV_ok (p := GoodL _ _ _) goodL_no fun _ h => ?_
  subst h
  refine vI_ok (p := GoodL _ _ _) goodL_no fun _ h => ?_
  subst h
  refine gV_ok (p := GoodL _ _ _) goodL_no fun _ _ h => ?_
  subst h
  refine rV_ok (p := GoodL _ _ _) goodL_no fun _ h => ?_
  subst h
  refine vI_ok (p := GoodL _ _ _) goodL_no fun _ h => ?_
  subst h
  refine gE_ok (p := GoodL _ _ _) goodL_no fun h => ?_
  subst h
  refine gE_ok (p := GoodL _ _ _) goodL_no fun h => ?_
  subst h
  refine gN_ok (p := GoodL _ _ _) goodL_no fun h => ?_
  subst h
  exact f30.l3.good k _ _ _ _
theorem f30.nat {R : Type} (k : Nat) (g : (Int × Int) → Option R) (xs1 : List Int) : f30.step k g xs1 = (f30 k xs1).bind g := by
  simp only [f30, f30.step, bind_ite, bind_sum, Option.bind_assoc, Option.bind_some, Option.bind_none]
theorem f30.ev (k : Nat) (xs1 : List Int) : evF (f30.X k) (bodyOf Tryd.f30) Tryd.f30.ntmps Tryd.f30.results.toList [.v (.c (.sl 3 xs1))] = f30.step k (fun x => f30.w x some) xs1 := by kernel_rfl
theorem f30.hok (k : Nat) : HOK (f30.X k) (bodyOf Tryd.f30) where
  l := allP_mem (by exact ⟨ls_of (h0 := fun S => f30.l3.hd k S.ts S.m S.n) (by kernel_rfl) (f30.l3.all k), ls_of (h0 := fun S => f30.l5.hd k S.ts S.m S.n) (by kernel_rfl) (f30.l5.all k), trivial⟩)
  j := allP_mem (by exact trivial)
theorem f30.sound0 (k : Nat) : SoundC env Tryd.prog 30 (f30.hd k) := by
  intro ps_
  show GoodC _ _ _ ps_ (f30.hd k ps_)
  unfold f30.hd
  refine gC_ok (p := GoodC env Tryd.prog 30 _) goodC_no fun _ _ h => ?_
  subst h
  refine qC_ok (p := GoodC env Tryd.prog 30 _) goodC_no fun _ h => ?_
  subst h
  refine qSl_ok (p := GoodC env Tryd.prog 30 _) goodC_no fun _ h => ?_
  subst h
  refine gE_ok (p := GoodC env Tryd.prog 30 _) goodC_no fun h => ?_
  subst h
  exact fun_good (fun_sound envOK (cs_sound _ (by exact trivial)) (f30.hok k) Tryd.func30 rfl) ((f30.ev k _).trans (f30.nat k _ _))
theorem f30.sound (k : Nat) : SoundC env Tryd.prog 30 (f30.e k).F := soundC_coer (f30.sound0 k) [[.rd 3]]
theorem f30.says (k : Nat) (xs1 : List Int) (t16 : Int × Int) (h_ : f30 k xs1 = some t16) : SoundAt env Tryd.prog 30 [.v (.c (.sl 3 xs1))] ⟨.tup [.c (.s (.int .i64 t16.1)), .c (.s (.int .i64 t16.2))], [[]]⟩ :=
  fun_sound envOK (cs_sound _ (by exact trivial)) (f30.hok k) Tryd.func30 rfl _ _ (((f30.ev k xs1).trans (f30.nat k _ xs1)).trans (by rw [h_]; rfl))
theorem f30.fnok : FnOK Tryd.prog 30 := fn_ok Tryd.func30 (by kernel_rfl) rfl
def f50.step {R : Type} (k : Nat) (ret : ByteArray → Option R) (a1 : Int) : Option R :=
  (f66 k a1 (16 : Int)).bind fun t2 => ret t2
def f50 (k : Nat) (a1 : Int) : Option ByteArray := f50.step k some a1
def f50.w {R : Type} : ByteArray → (Res env → Option R) → Option R := fun t3 K => K ⟨.v (.c (.s (.string t3))), [[]]⟩
theorem f50.wn (x : ByteArray) : ∃ res, ∀ {R : Type} (K : Res env → Option R), f50.w x K = K res := by
  exact ⟨_, fun _ => rfl⟩
def f50.hd (k : Nat) (ps_ : List (P2 env)) : Cl env :=
  gC Cl.no ps_ fun p_ ps_ => qC Cl.no p_ fun c_ => qS Cl.no c_ fun v_ => vI Cl.no .i64 v_ fun a1 => gE Cl.no ps_ <| { α := ByteArray, o := f50 k a1, w := f50.w, nat := fun x _ => f50.wn x }
def f50.e (k : Nat) : Entry env := ⟨f50.hd k, [], []⟩
def f50.X (k : Nat) : Ctx env := { C := lookE [(66, f66.e k)], L := lookE [], J := lookE [], keep := lookD [], keepX := lookD [], span := lookN [], eff := fun n => memN n [], prep := lookP [], np := 0 }
theorem f50.nat {R : Type} (k : Nat) (g : ByteArray → Option R) (a1 : Int) : f50.step k g a1 = (f50 k a1).bind g := by
  simp only [f50, f50.step, bind_ite, bind_sum, Option.bind_assoc, Option.bind_some, Option.bind_none]
theorem f50.ev (k : Nat) (a1 : Int) : evF (f50.X k) (bodyOf Tryd.f50) Tryd.f50.ntmps Tryd.f50.results.toList [.v (.c (.s (.int .i64 a1)))] = f50.step k (fun x => f50.w x some) a1 := by kernel_rfl
theorem f50.hok (k : Nat) : HOK (f50.X k) (bodyOf Tryd.f50) where
  l := allP_mem (by exact trivial)
  j := allP_mem (by exact trivial)
theorem f50.sound (k : Nat) : SoundC env Tryd.prog 50 ((f50.e k).F) := by
  intro ps_
  show GoodC _ _ _ ps_ (f50.hd k ps_)
  unfold f50.hd
  refine gC_ok (p := GoodC env Tryd.prog 50 _) goodC_no fun _ _ h => ?_
  subst h
  refine qC_ok (p := GoodC env Tryd.prog 50 _) goodC_no fun _ h => ?_
  subst h
  refine qS_ok (p := GoodC env Tryd.prog 50 _) goodC_no fun _ h => ?_
  subst h
  refine vI_ok (p := GoodC env Tryd.prog 50 _) goodC_no fun _ h => ?_
  subst h
  refine gE_ok (p := GoodC env Tryd.prog 50 _) goodC_no fun h => ?_
  subst h
  exact fun_good (fun_sound envOK (cs_sound _ (by exact ⟨⟨f66.sound k, f66.fnok⟩, trivial⟩)) (f50.hok k) Tryd.func50 rfl) ((f50.ev k _).trans (f50.nat k _ _))
theorem f50.says (k : Nat) (a1 : Int) (t4 : ByteArray) (h_ : f50 k a1 = some t4) : SoundAt env Tryd.prog 50 [.v (.c (.s (.int .i64 a1)))] ⟨.v (.c (.s (.string t4))), [[]]⟩ :=
  fun_sound envOK (cs_sound _ (by exact ⟨⟨f66.sound k, f66.fnok⟩, trivial⟩)) (f50.hok k) Tryd.func50 rfl _ _ (((f50.ev k a1).trans (f50.nat k _ a1)).trans (by rw [h_]; rfl))
theorem f50.fnok : FnOK Tryd.prog 50 := fn_ok Tryd.func50 (by kernel_rfl) rfl
def f31.l3.step {R : Type} (k : Nat) (rec_ : (List Int) → Int → Int → (List ByteArray) → Option R) (ret : ((List ByteArray)) → Option R) (xs2 : List Int) (a3 : Int) (a4 : Int) (xs5 : List ByteArray) : Option R :=
  if (decide (a4 < a3)) = true then
    if (0 : Int) ≤ a4 then
      if a4 < ((List.length xs2 : Nat) : Int) then
        (f50 k (List.getD xs2 (Int.toNat a4) (0 : Int))).bind fun t6 => if (0 : Int) ≤ a4 then
            if a4 < ((List.length xs5 : Nat) : Int) then
              rec_ xs2 a3 (IntKind.i64.wrap (a4 + (1 : Int))) (List.set xs5 (Int.toNat a4) t6)
            else none
          else none
      else none
    else none
  else
    ret xs5
def f31.l3 (k : Nat) : Nat → (List Int) → Int → Int → (List ByteArray) → Option ((List ByteArray))
  | 0, _, _, _, _ => none
  | j + 1, xs2, a3, a4, xs5 => f31.l3.step k (fun xs2 a3 a4 xs5 => f31.l3 k j xs2 a3 a4 xs5) some xs2 a3 a4 xs5
def f31.l3.w {R : Type} : ((List ByteArray)) → (Exit → St env → Option R) → Option R := fun t9 K => K (.exit 0) ⟨fullT [3] 0 24 [.v (.c (.row 49))], [(49, .row true 9 t9)], 353⟩
def f31.l3.st (xs2 : List Int) (a3 : Int) (a4 : Int) (xs5 : List ByteArray) : St env := ⟨fullT [3, 9, 10, 11] 0 24 [.v (.c (.row 49)), .v (.c (.imm 3 xs2)), .v (.c (.s (.int .i64 a3))), .v (.c (.s (.int .i64 a4)))], [(49, .row true 9 xs5)], 129⟩
def f31.l3.hd (k : Nat) (ts_ : List (AV env)) (mm_ : Mem env) (n_ : Nat) : LCl env :=
  gTs LCl.no [3, 9, 10, 11] 24 ts_ fun l_ => gV LCl.no l_ fun a_ l_ => rRow LCl.no 49 a_ <| gV LCl.no l_ fun a_ l_ => rImm LCl.no 3 a_ fun xs2 => gV LCl.no l_ fun a_ l_ => rV LCl.no a_ fun v_ => vI LCl.no .i64 v_ fun a3 => gV LCl.no l_ fun a_ l_ => rV LCl.no a_ fun v_ => vI LCl.no .i64 v_ fun a4 => gE LCl.no l_ <| mRow LCl.no 49 true 9 mm_ fun xs5 m_ => gE LCl.no m_ <| gN LCl.no 129 n_ { α := (List ByteArray), o := f31.l3 k k xs2 a3 a4 xs5, w := f31.l3.w }
def f31.step {R : Type} (k : Nat) (ret : ByteArray → Option R) (xs1 : List Int) : Option R :=
  if (0 : Int) ≤ (((List.length xs1) : Nat) : Int) then
    if (Int.toNat (((List.length xs1) : Nat) : Int)) * 16 ≤ maxN then
      (f31.l3 k k xs1 (((List.length xs1) : Nat) : Int) (0 : Int) (List.replicate (Int.toNat (((List.length xs1) : Nat) : Int)) ByteArray.empty)).bind fun t7 => (f29 k t7 (⟨#[58]⟩ : ByteArray)).bind fun t8 => ret t8.1
    else none
  else none
def f31 (k : Nat) (xs1 : List Int) : Option ByteArray := f31.step k some xs1
def f31.w {R : Type} : ByteArray → (Res env → Option R) → Option R := fun t10 K => K ⟨.v (.c (.s (.string t10))), [[]]⟩
theorem f31.wn (x : ByteArray) : ∃ res, ∀ {R : Type} (K : Res env → Option R), f31.w x K = K res := by
  exact ⟨_, fun _ => rfl⟩
def f31.hd (k : Nat) (ps_ : List (P2 env)) : Cl env :=
  gC Cl.no ps_ fun p_ ps_ => qC Cl.no p_ fun c_ => qSl Cl.no 3 c_ fun xs1 => gE Cl.no ps_ <| { α := ByteArray, o := f31 k xs1, w := f31.w, nat := fun x _ => f31.wn x }
def f31.e (k : Nat) : Entry env := ⟨fun ps => f31.hd k (coer [[.rd 3]] ps), [], []⟩
def f31.X (k : Nat) : Ctx env := { C := lookE [(29, f29.e k), (50, f50.e k)], L := lookE [(3, fun S => f31.l3.hd k S.ts S.m S.n)], J := lookE [], keep := lookD [(3, [3, 9, 10, 11])], keepX := lookD [(3, [3])], span := lookN [(3, 224)], eff := fun n => memN n [], prep := lookP [], np := 0 }
theorem f31.l3.nat {R : Type} (k : Nat) (rec_ : (List Int) → Int → Int → (List ByteArray) → Option ((List ByteArray))) (g : ((List ByteArray)) → Option R) (xs2 : List Int) (a3 : Int) (a4 : Int) (xs5 : List ByteArray) : (f31.l3.step k rec_ some xs2 a3 a4 xs5).bind g = f31.l3.step k (fun xs2 a3 a4 xs5 => (rec_ xs2 a3 a4 xs5).bind g) g xs2 a3 a4 xs5 := by
  simp only [f31.l3.step, bind_ite, bind_sum, Option.bind_assoc, Option.bind_some, Option.bind_none]
theorem f31.l3.good (k : Nat) (xs2 : List Int) (a3 : Int) (a4 : Int) (xs5 : List ByteArray) : GoodL (f31.X k) (nthC 0 (loopsOf (bodyOf Tryd.f31))) (f31.l3.st xs2 a3 a4 xs5) { α := ((List ByteArray)), o := f31.l3 k k xs2 a3 a4 xs5, w := f31.l3.w } :=
  loop_good (ι := (List Int) × Int × Int × (List ByteArray)) (α := ((List ByteArray))) (fun i => f31.l3.st i.1 i.2.1 i.2.2.1 i.2.2.2) (fun j i => f31.l3 k j i.1 i.2.1 i.2.2.1 i.2.2.2) f31.l3.w (fun rec_ ret i => f31.l3.step k (fun xs2 a3 a4 xs5 => rec_ (xs2, a3, a4, xs5)) ret i.1 i.2.1 i.2.2.1 i.2.2.2)
    (fun _ => rfl) (fun _ _ => rfl) (fun rec_ g i => f31.l3.nat k _ g i.1 i.2.1 i.2.2.1 i.2.2.2) (fun {R} i0 i rec_ K => by kernel_rfl) k (xs2, a3, a4, xs5)
theorem f31.l3.all (k : Nat) (S : St env) : GoodL (f31.X k) (nthC 0 (loopsOf (bodyOf Tryd.f31))) S (f31.l3.hd k S.ts S.m S.n) := by
  obtain ⟨ts_, m_, n_⟩ := S
  show GoodL _ _ _ (f31.l3.hd k ts_ m_ n_)
  unfold f31.l3.hd
  refine gTs_ok (p := GoodL _ _ _) goodL_no fun _ h => ?_
  subst h
  refine gV_ok (p := GoodL _ _ _) goodL_no fun _ _ h => ?_
  subst h
  refine rRow_ok (p := GoodL _ _ _) goodL_no fun h => ?_
  subst h
  refine gV_ok (p := GoodL _ _ _) goodL_no fun _ _ h => ?_
  subst h
  refine rImm_ok (p := GoodL _ _ _) goodL_no fun _ h => ?_
  subst h
  refine gV_ok (p := GoodL _ _ _) goodL_no fun _ _ h => ?_
  subst h
  refine rV_ok (p := GoodL _ _ _) goodL_no fun _ h => ?_
  subst h
  refine vI_ok (p := GoodL _ _ _) goodL_no fun _ h => ?_
  subst h
  refine gV_ok (p := GoodL _ _ _) goodL_no fun _ _ h => ?_
  subst h
  refine rV_ok (p := GoodL _ _ _) goodL_no fun _ h => ?_
  subst h
  refine vI_ok (p := GoodL _ _ _) goodL_no fun _ h => ?_
  subst h
  refine gE_ok (p := GoodL _ _ _) goodL_no fun h => ?_
  subst h
  refine mRow_ok (p := GoodL _ _ _) goodL_no fun _ _ h => ?_
  subst h
  refine gE_ok (p := GoodL _ _ _) goodL_no fun h => ?_
  subst h
  refine gN_ok (p := GoodL _ _ _) goodL_no fun h => ?_
  subst h
  exact f31.l3.good k _ _ _ _
theorem f31.nat {R : Type} (k : Nat) (g : ByteArray → Option R) (xs1 : List Int) : f31.step k g xs1 = (f31 k xs1).bind g := by
  simp only [f31, f31.step, bind_ite, bind_sum, Option.bind_assoc, Option.bind_some, Option.bind_none]
theorem f31.ev (k : Nat) (xs1 : List Int) : evF (f31.X k) (bodyOf Tryd.f31) Tryd.f31.ntmps Tryd.f31.results.toList [.v (.c (.sl 3 xs1))] = f31.step k (fun x => f31.w x some) xs1 := by kernel_rfl
theorem f31.hok (k : Nat) : HOK (f31.X k) (bodyOf Tryd.f31) where
  l := allP_mem (by exact ⟨ls_of (h0 := fun S => f31.l3.hd k S.ts S.m S.n) (by kernel_rfl) (f31.l3.all k), trivial⟩)
  j := allP_mem (by exact trivial)
theorem f31.sound0 (k : Nat) : SoundC env Tryd.prog 31 (f31.hd k) := by
  intro ps_
  show GoodC _ _ _ ps_ (f31.hd k ps_)
  unfold f31.hd
  refine gC_ok (p := GoodC env Tryd.prog 31 _) goodC_no fun _ _ h => ?_
  subst h
  refine qC_ok (p := GoodC env Tryd.prog 31 _) goodC_no fun _ h => ?_
  subst h
  refine qSl_ok (p := GoodC env Tryd.prog 31 _) goodC_no fun _ h => ?_
  subst h
  refine gE_ok (p := GoodC env Tryd.prog 31 _) goodC_no fun h => ?_
  subst h
  exact fun_good (fun_sound envOK (cs_sound _ (by exact ⟨⟨f29.sound k, f29.fnok⟩, ⟨f50.sound k, f50.fnok⟩, trivial⟩)) (f31.hok k) Tryd.func31 rfl) ((f31.ev k _).trans (f31.nat k _ _))
theorem f31.sound (k : Nat) : SoundC env Tryd.prog 31 (f31.e k).F := soundC_coer (f31.sound0 k) [[.rd 3]]
theorem f31.says (k : Nat) (xs1 : List Int) (t11 : ByteArray) (h_ : f31 k xs1 = some t11) : SoundAt env Tryd.prog 31 [.v (.c (.sl 3 xs1))] ⟨.v (.c (.s (.string t11))), [[]]⟩ :=
  fun_sound envOK (cs_sound _ (by exact ⟨⟨f29.sound k, f29.fnok⟩, ⟨f50.sound k, f50.fnok⟩, trivial⟩)) (f31.hok k) Tryd.func31 rfl _ _ (((f31.ev k xs1).trans (f31.nat k _ xs1)).trans (by rw [h_]; rfl))
theorem f31.fnok : FnOK Tryd.prog 31 := fn_ok Tryd.func31 (by kernel_rfl) rfl
def f11.l8.step {R : Type} (k : Nat) (rec_ : ByteArray → Int → Int → (List ByteArray) → Option R) (ret : ((List ByteArray)) → Option R) (s4 : ByteArray) (a5 : Int) (a6 : Int) (xs7 : List ByteArray) : Option R :=
  if (decide (a6 < a5)) = true then
    if (0 : Int) ≤ a6 then
      if a6 < ((ByteArray.size s4 : Nat) : Int) then
        (f28 k (IntKind.i64.wrap (bt s4 a6))).bind fun t8 => if (0 : Int) ≤ a6 then
            if a6 < ((List.length xs7 : Nat) : Int) then
              rec_ s4 a5 (IntKind.i64.wrap (a6 + (1 : Int))) (List.set xs7 (Int.toNat a6) t8)
            else none
          else none
      else none
    else none
  else
    ret xs7
def f11.l8 (k : Nat) : Nat → ByteArray → Int → Int → (List ByteArray) → Option ((List ByteArray))
  | 0, _, _, _, _ => none
  | j + 1, s4, a5, a6, xs7 => f11.l8.step k (fun s4 a5 a6 xs7 => f11.l8 k j s4 a5 a6 xs7) some s4 a5 a6 xs7
def f11.l8.w {R : Type} : ((List ByteArray)) → (Exit → St env → Option R) → Option R := fun t20 K => K (.exit 0) ⟨fullT [4] 0 80 [.v (.c (.row 177))], [(177, .row true 9 t20)], 481⟩
def f11.l8.st (s4 : ByteArray) (a5 : Int) (a6 : Int) (xs7 : List ByteArray) : St env := ⟨fullT [0, 4, 21, 22] 0 80 [.v (.c (.s (.string s4))), .v (.c (.row 177)), .v (.c (.s (.int .i64 a5))), .v (.c (.s (.int .i64 a6)))], [(177, .row true 9 xs7)], 257⟩
def f11.l15.step {R : Type} (k : Nat) (rec_ : ByteArray → Int → Int → (List Int) → Option R) (ret : ((List Int)) → Option R) (s11 : ByteArray) (a12 : Int) (a13 : Int) (xs14 : List Int) : Option R :=
  if (decide (a13 < a12)) = true then
    if (0 : Int) ≤ (IntKind.i64.wrap ((2 : Int) * a13)) then
      if (IntKind.i64.wrap ((2 : Int) * a13)) < ((ByteArray.size s11 : Nat) : Int) then
        if (0 : Int) ≤ (IntKind.i64.wrap ((IntKind.i64.wrap ((2 : Int) * a13)) + (1 : Int))) then
          if (IntKind.i64.wrap ((IntKind.i64.wrap ((2 : Int) * a13)) + (1 : Int))) < ((ByteArray.size s11 : Nat) : Int) then
            if (0 : Int) ≤ a13 then
              if a13 < ((List.length xs14 : Nat) : Int) then
                rec_ s11 a12 (IntKind.i64.wrap (a13 + (1 : Int))) (List.set xs14 (Int.toNat a13) (bitsV .or .i64 (IntKind.i64.wrap ((IntKind.i64.wrap (bt s11 (IntKind.i64.wrap ((2 : Int) * a13)))) * (2 ^ (min (8 : Int).toNat IntKind.i64.bits)))) (IntKind.i64.wrap (bt s11 (IntKind.i64.wrap ((IntKind.i64.wrap ((2 : Int) * a13)) + (1 : Int)))))))
              else none
            else none
          else none
        else none
      else none
    else none
  else
    ret xs14
def f11.l15 (k : Nat) : Nat → ByteArray → Int → Int → (List Int) → Option ((List Int))
  | 0, _, _, _, _ => none
  | j + 1, s11, a12, a13, xs14 => f11.l15.step k (fun s11 a12 a13 xs14 => f11.l15 k j s11 a12 a13 xs14) some s11 a12 a13 xs14
def f11.l15.w {R : Type} : ((List Int)) → (Exit → St env → Option R) → Option R := fun t21 K => K (.exit 2) ⟨fullT [6] 0 80 [.v (.c (.row 177))], [(177, .row true 3 t21)], 609⟩
def f11.l15.st (s11 : ByteArray) (a12 : Int) (a13 : Int) (xs14 : List Int) : St env := ⟨fullT [0, 6, 38, 39] 0 80 [.v (.c (.s (.string s11))), .v (.c (.row 177)), .v (.c (.s (.int .i64 a12))), .v (.c (.s (.int .i64 a13)))], [(177, .row true 3 xs14)], 257⟩
def f11.l8.hd (k : Nat) (ts_ : List (AV env)) (mm_ : Mem env) (n_ : Nat) : LCl env :=
  gTs LCl.no [0, 4, 21, 22] 80 ts_ fun l_ => gV LCl.no l_ fun a_ l_ => rV LCl.no a_ fun v_ => vS LCl.no v_ fun s4 => gV LCl.no l_ fun a_ l_ => rRow LCl.no 177 a_ <| gV LCl.no l_ fun a_ l_ => rV LCl.no a_ fun v_ => vI LCl.no .i64 v_ fun a5 => gV LCl.no l_ fun a_ l_ => rV LCl.no a_ fun v_ => vI LCl.no .i64 v_ fun a6 => gE LCl.no l_ <| mRow LCl.no 177 true 9 mm_ fun xs7 m_ => gE LCl.no m_ <| gN LCl.no 257 n_ { α := (List ByteArray), o := f11.l8 k k s4 a5 a6 xs7, w := f11.l8.w }
def f11.l15.hd (k : Nat) (ts_ : List (AV env)) (mm_ : Mem env) (n_ : Nat) : LCl env :=
  gTs LCl.no [0, 6, 38, 39] 80 ts_ fun l_ => gV LCl.no l_ fun a_ l_ => rV LCl.no a_ fun v_ => vS LCl.no v_ fun s11 => gV LCl.no l_ fun a_ l_ => rRow LCl.no 177 a_ <| gV LCl.no l_ fun a_ l_ => rV LCl.no a_ fun v_ => vI LCl.no .i64 v_ fun a12 => gV LCl.no l_ fun a_ l_ => rV LCl.no a_ fun v_ => vI LCl.no .i64 v_ fun a13 => gE LCl.no l_ <| mRow LCl.no 177 true 3 mm_ fun xs14 m_ => gE LCl.no m_ <| gN LCl.no 257 n_ { α := (List Int), o := f11.l15 k k s11 a12 a13 xs14, w := f11.l15.w }
def f11.step {R : Type} (k : Nat) (ret : (ByteArray × Int) → Option R) (s1 : ByteArray) : Option R :=
  (f15 k ([s1] : List ByteArray)).bind fun t2 => if t2 = true then
      ret ((⟨#[]⟩ : ByteArray), (2 : Int))
    else
      (f27 k s1).bind fun t3 => if (!t3) = true then
          ret ((⟨#[]⟩ : ByteArray), (1 : Int))
        else
          if (decide ((((ByteArray.size s1) : Nat) : Int) = (4 : Int))) = true then
            (f11.l8 k k s1 (((List.length (List.replicate 4 ByteArray.empty)) : Nat) : Int) (0 : Int) (List.replicate 4 ByteArray.empty)).bind fun t9 => (f29 k t9 (⟨#[46]⟩ : ByteArray)).bind fun t10 => ret (t10.1, (0 : Int))
          else
            (f11.l15 k k s1 (((List.length (List.replicate 8 (0 : Int))) : Nat) : Int) (0 : Int) (List.replicate 8 (0 : Int))).bind fun t15 => (f30 k t15).bind fun t16 => if (decide (t16.2 < (2 : Int))) = true then
                  (f31 k t15).bind fun t17 => ret (t17, (0 : Int))
                else
                  if (0 : Int) ≤ t16.1 then
                    if t16.1 ≤ ((List.length t15 : Nat) : Int) then
                      (f31 k (List.take ((Int.toNat t16.1) - 0) (List.drop 0 t15))).bind fun t18 => if ByteArray.size t18 + ByteArray.size (⟨#[58, 58]⟩ : ByteArray) ≤ maxN then
                          if (0 : Int) ≤ (IntKind.i64.wrap (t16.1 + t16.2)) then
                            if (IntKind.i64.wrap (t16.1 + t16.2)) ≤ ((List.length t15 : Nat) : Int) then
                              if ((List.length t15 : Nat) : Int) ≤ ((List.length t15 : Nat) : Int) then
                                (f31 k (List.take ((Int.toNat ((List.length t15 : Nat) : Int)) - (Int.toNat (IntKind.i64.wrap (t16.1 + t16.2)))) (List.drop (Int.toNat (IntKind.i64.wrap (t16.1 + t16.2))) t15))).bind fun t19 => if ByteArray.size (t18 ++ (⟨#[58, 58]⟩ : ByteArray)) + ByteArray.size t19 ≤ maxN then
                                    ret (((t18 ++ (⟨#[58, 58]⟩ : ByteArray)) ++ t19), (0 : Int))
                                  else none
                              else none
                            else none
                          else none
                        else none
                    else none
                  else none
def f11 (k : Nat) (s1 : ByteArray) : Option (ByteArray × Int) := f11.step k some s1
def f11.w {R : Type} : (ByteArray × Int) → (Res env → Option R) → Option R := fun t22 K => K ⟨.tup [.c (.s (.string t22.1)), .c (.s (.int .i64 t22.2))], [[]]⟩
theorem f11.wn (x : (ByteArray × Int)) : ∃ res, ∀ {R : Type} (K : Res env → Option R), f11.w x K = K res := by
  exact ⟨_, fun _ => rfl⟩
def f11.hd (k : Nat) (ps_ : List (P2 env)) : Cl env :=
  gC Cl.no ps_ fun p_ ps_ => qC Cl.no p_ fun c_ => qS Cl.no c_ fun v_ => vS Cl.no v_ fun s1 => gE Cl.no ps_ <| { α := ByteArray × Int, o := f11 k s1, w := f11.w, nat := fun x _ => f11.wn x }
def f11.e (k : Nat) : Entry env := ⟨f11.hd k, [], []⟩
def f11.X (k : Nat) : Ctx env := { C := lookE [(15, f15.e k), (27, f27.e k), (28, f28.e k), (29, f29.e k), (30, f30.e k), (31, f31.e k)], L := lookE [(8, fun S => f11.l8.hd k S.ts S.m S.n), (15, fun S => f11.l15.hd k S.ts S.m S.n)], J := lookE [], keep := lookD [(8, [0, 4, 21, 22]), (15, [0, 6, 38, 39])], keepX := lookD [(8, [4]), (15, [6])], span := lookN [(8, 224), (15, 352)], eff := fun n => memN n [17], prep := lookP [], np := 0 }
theorem f11.l8.nat {R : Type} (k : Nat) (rec_ : ByteArray → Int → Int → (List ByteArray) → Option ((List ByteArray))) (g : ((List ByteArray)) → Option R) (s4 : ByteArray) (a5 : Int) (a6 : Int) (xs7 : List ByteArray) : (f11.l8.step k rec_ some s4 a5 a6 xs7).bind g = f11.l8.step k (fun s4 a5 a6 xs7 => (rec_ s4 a5 a6 xs7).bind g) g s4 a5 a6 xs7 := by
  simp only [f11.l8.step, bind_ite, bind_sum, Option.bind_assoc, Option.bind_some, Option.bind_none]
theorem f11.l8.good (k : Nat) (s4 : ByteArray) (a5 : Int) (a6 : Int) (xs7 : List ByteArray) : GoodL (f11.X k) (nthC 0 (loopsOf (bodyOf Tryd.f11))) (f11.l8.st s4 a5 a6 xs7) { α := ((List ByteArray)), o := f11.l8 k k s4 a5 a6 xs7, w := f11.l8.w } :=
  loop_good (ι := ByteArray × Int × Int × (List ByteArray)) (α := ((List ByteArray))) (fun i => f11.l8.st i.1 i.2.1 i.2.2.1 i.2.2.2) (fun j i => f11.l8 k j i.1 i.2.1 i.2.2.1 i.2.2.2) f11.l8.w (fun rec_ ret i => f11.l8.step k (fun s4 a5 a6 xs7 => rec_ (s4, a5, a6, xs7)) ret i.1 i.2.1 i.2.2.1 i.2.2.2)
    (fun _ => rfl) (fun _ _ => rfl) (fun rec_ g i => f11.l8.nat k _ g i.1 i.2.1 i.2.2.1 i.2.2.2) (fun {R} i0 i rec_ K => by kernel_rfl) k (s4, a5, a6, xs7)
theorem f11.l8.all (k : Nat) (S : St env) : GoodL (f11.X k) (nthC 0 (loopsOf (bodyOf Tryd.f11))) S (f11.l8.hd k S.ts S.m S.n) := by
  obtain ⟨ts_, m_, n_⟩ := S
  show GoodL _ _ _ (f11.l8.hd k ts_ m_ n_)
  unfold f11.l8.hd
  refine gTs_ok (p := GoodL _ _ _) goodL_no fun _ h => ?_
  subst h
  refine gV_ok (p := GoodL _ _ _) goodL_no fun _ _ h => ?_
  subst h
  refine rV_ok (p := GoodL _ _ _) goodL_no fun _ h => ?_
  subst h
  refine vS_ok (p := GoodL _ _ _) goodL_no fun _ h => ?_
  subst h
  refine gV_ok (p := GoodL _ _ _) goodL_no fun _ _ h => ?_
  subst h
  refine rRow_ok (p := GoodL _ _ _) goodL_no fun h => ?_
  subst h
  refine gV_ok (p := GoodL _ _ _) goodL_no fun _ _ h => ?_
  subst h
  refine rV_ok (p := GoodL _ _ _) goodL_no fun _ h => ?_
  subst h
  refine vI_ok (p := GoodL _ _ _) goodL_no fun _ h => ?_
  subst h
  refine gV_ok (p := GoodL _ _ _) goodL_no fun _ _ h => ?_
  subst h
  refine rV_ok (p := GoodL _ _ _) goodL_no fun _ h => ?_
  subst h
  refine vI_ok (p := GoodL _ _ _) goodL_no fun _ h => ?_
  subst h
  refine gE_ok (p := GoodL _ _ _) goodL_no fun h => ?_
  subst h
  refine mRow_ok (p := GoodL _ _ _) goodL_no fun _ _ h => ?_
  subst h
  refine gE_ok (p := GoodL _ _ _) goodL_no fun h => ?_
  subst h
  refine gN_ok (p := GoodL _ _ _) goodL_no fun h => ?_
  subst h
  exact f11.l8.good k _ _ _ _
theorem f11.l15.nat {R : Type} (k : Nat) (rec_ : ByteArray → Int → Int → (List Int) → Option ((List Int))) (g : ((List Int)) → Option R) (s11 : ByteArray) (a12 : Int) (a13 : Int) (xs14 : List Int) : (f11.l15.step k rec_ some s11 a12 a13 xs14).bind g = f11.l15.step k (fun s11 a12 a13 xs14 => (rec_ s11 a12 a13 xs14).bind g) g s11 a12 a13 xs14 := by
  simp only [f11.l15.step, bind_ite, bind_sum, Option.bind_assoc, Option.bind_some, Option.bind_none]
theorem f11.l15.good (k : Nat) (s11 : ByteArray) (a12 : Int) (a13 : Int) (xs14 : List Int) : GoodL (f11.X k) (nthC 1 (loopsOf (bodyOf Tryd.f11))) (f11.l15.st s11 a12 a13 xs14) { α := ((List Int)), o := f11.l15 k k s11 a12 a13 xs14, w := f11.l15.w } :=
  loop_good (ι := ByteArray × Int × Int × (List Int)) (α := ((List Int))) (fun i => f11.l15.st i.1 i.2.1 i.2.2.1 i.2.2.2) (fun j i => f11.l15 k j i.1 i.2.1 i.2.2.1 i.2.2.2) f11.l15.w (fun rec_ ret i => f11.l15.step k (fun s11 a12 a13 xs14 => rec_ (s11, a12, a13, xs14)) ret i.1 i.2.1 i.2.2.1 i.2.2.2)
    (fun _ => rfl) (fun _ _ => rfl) (fun rec_ g i => f11.l15.nat k _ g i.1 i.2.1 i.2.2.1 i.2.2.2) (fun {R} i0 i rec_ K => by kernel_rfl) k (s11, a12, a13, xs14)
theorem f11.l15.all (k : Nat) (S : St env) : GoodL (f11.X k) (nthC 1 (loopsOf (bodyOf Tryd.f11))) S (f11.l15.hd k S.ts S.m S.n) := by
  obtain ⟨ts_, m_, n_⟩ := S
  show GoodL _ _ _ (f11.l15.hd k ts_ m_ n_)
  unfold f11.l15.hd
  refine gTs_ok (p := GoodL _ _ _) goodL_no fun _ h => ?_
  subst h
  refine gV_ok (p := GoodL _ _ _) goodL_no fun _ _ h => ?_
  subst h
  refine rV_ok (p := GoodL _ _ _) goodL_no fun _ h => ?_
  subst h
  refine vS_ok (p := GoodL _ _ _) goodL_no fun _ h => ?_
  subst h
  refine gV_ok (p := GoodL _ _ _) goodL_no fun _ _ h => ?_
  subst h
  refine rRow_ok (p := GoodL _ _ _) goodL_no fun h => ?_
  subst h
  refine gV_ok (p := GoodL _ _ _) goodL_no fun _ _ h => ?_
  subst h
  refine rV_ok (p := GoodL _ _ _) goodL_no fun _ h => ?_
  subst h
  refine vI_ok (p := GoodL _ _ _) goodL_no fun _ h => ?_
  subst h
  refine gV_ok (p := GoodL _ _ _) goodL_no fun _ _ h => ?_
  subst h
  refine rV_ok (p := GoodL _ _ _) goodL_no fun _ h => ?_
  subst h
  refine vI_ok (p := GoodL _ _ _) goodL_no fun _ h => ?_
  subst h
  refine gE_ok (p := GoodL _ _ _) goodL_no fun h => ?_
  subst h
  refine mRow_ok (p := GoodL _ _ _) goodL_no fun _ _ h => ?_
  subst h
  refine gE_ok (p := GoodL _ _ _) goodL_no fun h => ?_
  subst h
  refine gN_ok (p := GoodL _ _ _) goodL_no fun h => ?_
  subst h
  exact f11.l15.good k _ _ _ _
theorem f11.nat {R : Type} (k : Nat) (g : (ByteArray × Int) → Option R) (s1 : ByteArray) : f11.step k g s1 = (f11 k s1).bind g := by
  simp only [f11, f11.step, bind_ite, bind_sum, Option.bind_assoc, Option.bind_some, Option.bind_none]
theorem f11.ev (k : Nat) (s1 : ByteArray) : evF (f11.X k) (bodyOf Tryd.f11) Tryd.f11.ntmps Tryd.f11.results.toList [.v (.c (.s (.string s1)))] = f11.step k (fun x => f11.w x some) s1 := by kernel_rfl
theorem f11.hok (k : Nat) : HOK (f11.X k) (bodyOf Tryd.f11) where
  l := allP_mem (by exact ⟨ls_of (h0 := fun S => f11.l8.hd k S.ts S.m S.n) (by kernel_rfl) (f11.l8.all k), ls_of (h0 := fun S => f11.l15.hd k S.ts S.m S.n) (by kernel_rfl) (f11.l15.all k), trivial⟩)
  j := allP_mem (by exact trivial)
theorem f11.sound (k : Nat) : SoundC env Tryd.prog 11 ((f11.e k).F) := by
  intro ps_
  show GoodC _ _ _ ps_ (f11.hd k ps_)
  unfold f11.hd
  refine gC_ok (p := GoodC env Tryd.prog 11 _) goodC_no fun _ _ h => ?_
  subst h
  refine qC_ok (p := GoodC env Tryd.prog 11 _) goodC_no fun _ h => ?_
  subst h
  refine qS_ok (p := GoodC env Tryd.prog 11 _) goodC_no fun _ h => ?_
  subst h
  refine vS_ok (p := GoodC env Tryd.prog 11 _) goodC_no fun _ h => ?_
  subst h
  refine gE_ok (p := GoodC env Tryd.prog 11 _) goodC_no fun h => ?_
  subst h
  exact fun_good (fun_sound envOK (cs_sound _ (by exact ⟨⟨f15.sound k, f15.fnok⟩, ⟨f27.sound k, f27.fnok⟩, ⟨f28.sound k, f28.fnok⟩, ⟨f29.sound k, f29.fnok⟩, ⟨f30.sound k, f30.fnok⟩, ⟨f31.sound k, f31.fnok⟩, trivial⟩)) (f11.hok k) Tryd.func11 rfl) ((f11.ev k _).trans (f11.nat k _ _))
theorem f11.says (k : Nat) (s1 : ByteArray) (t23 : ByteArray × Int) (h_ : f11 k s1 = some t23) : SoundAt env Tryd.prog 11 [.v (.c (.s (.string s1)))] ⟨.tup [.c (.s (.string t23.1)), .c (.s (.int .i64 t23.2))], [[]]⟩ :=
  fun_sound envOK (cs_sound _ (by exact ⟨⟨f15.sound k, f15.fnok⟩, ⟨f27.sound k, f27.fnok⟩, ⟨f28.sound k, f28.fnok⟩, ⟨f29.sound k, f29.fnok⟩, ⟨f30.sound k, f30.fnok⟩, ⟨f31.sound k, f31.fnok⟩, trivial⟩)) (f11.hok k) Tryd.func11 rfl _ _ (((f11.ev k s1).trans (f11.nat k _ s1)).trans (by rw [h_]; rfl))
theorem f11.fnok : FnOK Tryd.prog 11 := fn_ok Tryd.func11 (by kernel_rfl) rfl
def f51i.w {R : Type} : ByteArray → (Res env → Option R) → Option R := fun t4 K => K ⟨.v (.c (.s (.string t4))), [[]]⟩
theorem f51i.wn (x : ByteArray) : ∃ res, ∀ {R : Type} (K : Res env → Option R), f51i.w x K = K res := by
  exact ⟨_, fun _ => rfl⟩
def f51i.hdG (G_ : Int → Option ByteArray) (ps_ : List (P2 env)) : Cl env :=
  gC Cl.no ps_ fun p_ ps_ => qC Cl.no p_ fun c_ => qS Cl.no c_ fun v_ => vI Cl.no .i64 v_ fun a1 => gE Cl.no ps_ <| { α := ByteArray, o := G_ a1, w := f51i.w, nat := fun x _ => f51i.wn x }
def f51i.eG (G_ : Int → Option ByteArray) : Entry env := ⟨f51i.hdG G_, [], []⟩
theorem f51i.none_ : SoundC env Tryd.prog 51 (f51i.eG (fun _ => none)).F := by
  intro ps_
  show GoodC _ _ _ ps_ (f51i.hdG (fun _ => none) ps_)
  unfold f51i.hdG
  refine gC_ok (p := GoodC env Tryd.prog 51 _) goodC_no fun _ _ h => ?_
  subst h
  refine qC_ok (p := GoodC env Tryd.prog 51 _) goodC_no fun _ h => ?_
  subst h
  refine qS_ok (p := GoodC env Tryd.prog 51 _) goodC_no fun _ h => ?_
  subst h
  refine vI_ok (p := GoodC env Tryd.prog 51 _) goodC_no fun _ h => ?_
  subst h
  refine gE_ok (p := GoodC env Tryd.prog 51 _) goodC_no fun h => ?_
  subst h
  intro x h; cases h
theorem f51.fnok : FnOK Tryd.prog 51 := fn_ok Tryd.func51 (by kernel_rfl) rfl
def f51i.step {R : Type} (g51 : Int → Option ByteArray) (k : Nat) (ret : ByteArray → Option R) (a1 : Int) : Option R :=
  if (decide (a1 = (-9223372036854775808 : Int))) = true then
    ret (⟨#[45, 57, 50, 50, 51, 51, 55, 50, 48, 51, 54, 56, 53, 52, 55, 55, 53, 56, 48, 56]⟩ : ByteArray)
  else
    if (decide (a1 < (0 : Int))) = true then
      (g51 (IntKind.i64.wrap (0 - a1))).bind fun t2 => if ByteArray.size (⟨#[45]⟩ : ByteArray) + ByteArray.size t2 ≤ maxN then
          ret ((⟨#[45]⟩ : ByteArray) ++ t2)
        else none
    else
      if (decide (a1 < (10 : Int))) = true then
        ret (strOf ([(IntKind.u8.wrap (IntKind.i64.wrap ((48 : Int) + a1)))] : List Int))
      else
        (g51 (IntKind.i64.wrap (Int.tdiv a1 (10 : Int)))).bind fun t3 => if ByteArray.size t3 + ByteArray.size (strOf ([(IntKind.u8.wrap (IntKind.i64.wrap ((48 : Int) + (Int.tmod a1 (10 : Int)))))] : List Int)) ≤ maxN then
            ret (t3 ++ (strOf ([(IntKind.u8.wrap (IntKind.i64.wrap ((48 : Int) + (Int.tmod a1 (10 : Int)))))] : List Int)))
          else none
def f51i (g51 : Int → Option ByteArray) (k : Nat) (a1 : Int) : Option ByteArray := f51i.step g51 k some a1
def f51i.hd (g51 : Int → Option ByteArray) (k : Nat) (ps_ : List (P2 env)) : Cl env := f51i.hdG (f51i g51 k) ps_
def f51i.e (g51 : Int → Option ByteArray) (k : Nat) : Entry env := f51i.eG (f51i g51 k)
def f51i.X (g51 : Int → Option ByteArray) (k : Nat) : Ctx env := { C := lookE [(51, f51i.eG g51)], L := lookE [], J := lookE [], keep := lookD [], keepX := lookD [], span := lookN [], eff := fun n => memN n [7], prep := lookP [], np := 0 }
theorem f51i.nat {R : Type} (g51 : Int → Option ByteArray) (k : Nat) (g : ByteArray → Option R) (a1 : Int) : f51i.step g51 k g a1 = (f51i g51 k a1).bind g := by
  simp only [f51i, f51i.step, bind_ite, bind_sum, Option.bind_assoc, Option.bind_some, Option.bind_none]
theorem f51i.ev (g51 : Int → Option ByteArray) (k : Nat) (a1 : Int) : evF (f51i.X g51 k) (bodyOf Tryd.f51) Tryd.f51.ntmps Tryd.f51.results.toList [.v (.c (.s (.int .i64 a1)))] = f51i.step g51 k (fun x => f51i.w x some) a1 := by kernel_rfl
theorem f51i.hok (g51 : Int → Option ByteArray) (k : Nat) : HOK (f51i.X g51 k) (bodyOf Tryd.f51) where
  l := allP_mem (by exact trivial)
  j := allP_mem (by exact trivial)
theorem f51i.sound (g51 : Int → Option ByteArray) (hg_ : SoundC env Tryd.prog 51 (f51i.eG g51).F) (k : Nat) : SoundC env Tryd.prog 51 ((f51i.e g51 k).F) := by
  intro ps_
  show GoodC _ _ _ ps_ (f51i.hd g51 k ps_)
  unfold f51i.hd f51i.hdG
  refine gC_ok (p := GoodC env Tryd.prog 51 _) goodC_no fun _ _ h => ?_
  subst h
  refine qC_ok (p := GoodC env Tryd.prog 51 _) goodC_no fun _ h => ?_
  subst h
  refine qS_ok (p := GoodC env Tryd.prog 51 _) goodC_no fun _ h => ?_
  subst h
  refine vI_ok (p := GoodC env Tryd.prog 51 _) goodC_no fun _ h => ?_
  subst h
  refine gE_ok (p := GoodC env Tryd.prog 51 _) goodC_no fun h => ?_
  subst h
  exact fun_good (fun_sound envOK (cs_sound _ (by exact ⟨⟨hg_, f51.fnok⟩, trivial⟩)) (f51i.hok g51 k) Tryd.func51 rfl) ((f51i.ev g51 k _).trans (f51i.nat g51 k _ _))
def f51i.r (k : Nat) : Nat → Int → Option ByteArray
  | 0 => fun _ => none
  | j + 1 => fun a1 => f51i (f51i.r k j) k a1
theorem f51i.all_ (k : Nat) : ∀ j, SoundC env Tryd.prog 51 (f51i.eG (f51i.r k j)).F
  | 0 => f51i.none_
  | j + 1 => f51i.sound (f51i.r k j) (f51i.all_ k j) k
def f51 (k : Nat) (a1 : Int) : Option ByteArray := f51i.r k k a1
def f51.e (k : Nat) : Entry env := f51i.eG (f51 k)
theorem f51.sound (k : Nat) : SoundC env Tryd.prog 51 (f51.e k).F := f51i.all_ k k
def f54.step {R : Type} (k : Nat) (ret : Int → Option R) (s1 : ByteArray) (a2 : Int) : Option R :=
  if (0 : Int) ≤ (IntKind.i64.wrap ((2 : Int) * a2)) then
    if (IntKind.i64.wrap ((2 : Int) * a2)) < ((ByteArray.size s1 : Nat) : Int) then
      if (0 : Int) ≤ (IntKind.i64.wrap ((IntKind.i64.wrap ((2 : Int) * a2)) + (1 : Int))) then
        if (IntKind.i64.wrap ((IntKind.i64.wrap ((2 : Int) * a2)) + (1 : Int))) < ((ByteArray.size s1 : Nat) : Int) then
          ret (IntKind.i64.wrap ((IntKind.i64.wrap ((IntKind.i64.wrap (bt s1 (IntKind.i64.wrap ((2 : Int) * a2)))) * (256 : Int))) + (IntKind.i64.wrap (bt s1 (IntKind.i64.wrap ((IntKind.i64.wrap ((2 : Int) * a2)) + (1 : Int)))))))
        else none
      else none
    else none
  else none
def f54 (k : Nat) (s1 : ByteArray) (a2 : Int) : Option Int := f54.step k some s1 a2
def f54.w {R : Type} : Int → (Res env → Option R) → Option R := fun t3 K => K ⟨.v (.c (.s (.int .i64 t3))), [[], []]⟩
theorem f54.wn (x : Int) : ∃ res, ∀ {R : Type} (K : Res env → Option R), f54.w x K = K res := by
  exact ⟨_, fun _ => rfl⟩
def f54.hd (k : Nat) (ps_ : List (P2 env)) : Cl env :=
  gC Cl.no ps_ fun p_ ps_ => qC Cl.no p_ fun c_ => qS Cl.no c_ fun v_ => vS Cl.no v_ fun s1 => gC Cl.no ps_ fun p_ ps_ => qC Cl.no p_ fun c_ => qS Cl.no c_ fun v_ => vI Cl.no .i64 v_ fun a2 => gE Cl.no ps_ <| { α := Int, o := f54 k s1 a2, w := f54.w, nat := fun x _ => f54.wn x }
def f54.e (k : Nat) : Entry env := ⟨f54.hd k, [], []⟩
def f54.X (k : Nat) : Ctx env := { C := lookE [], L := lookE [], J := lookE [], keep := lookD [], keepX := lookD [], span := lookN [], eff := fun n => memN n [], prep := lookP [], np := 0 }
theorem f54.nat {R : Type} (k : Nat) (g : Int → Option R) (s1 : ByteArray) (a2 : Int) : f54.step k g s1 a2 = (f54 k s1 a2).bind g := by
  simp only [f54, f54.step, bind_ite, bind_sum, Option.bind_assoc, Option.bind_some, Option.bind_none]
theorem f54.ev (k : Nat) (s1 : ByteArray) (a2 : Int) : evF (f54.X k) (bodyOf Tryd.f54) Tryd.f54.ntmps Tryd.f54.results.toList [.v (.c (.s (.string s1))), .v (.c (.s (.int .i64 a2)))] = f54.step k (fun x => f54.w x some) s1 a2 := by kernel_rfl
theorem f54.hok (k : Nat) : HOK (f54.X k) (bodyOf Tryd.f54) where
  l := allP_mem (by exact trivial)
  j := allP_mem (by exact trivial)
theorem f54.sound (k : Nat) : SoundC env Tryd.prog 54 ((f54.e k).F) := by
  intro ps_
  show GoodC _ _ _ ps_ (f54.hd k ps_)
  unfold f54.hd
  refine gC_ok (p := GoodC env Tryd.prog 54 _) goodC_no fun _ _ h => ?_
  subst h
  refine qC_ok (p := GoodC env Tryd.prog 54 _) goodC_no fun _ h => ?_
  subst h
  refine qS_ok (p := GoodC env Tryd.prog 54 _) goodC_no fun _ h => ?_
  subst h
  refine vS_ok (p := GoodC env Tryd.prog 54 _) goodC_no fun _ h => ?_
  subst h
  refine gC_ok (p := GoodC env Tryd.prog 54 _) goodC_no fun _ _ h => ?_
  subst h
  refine qC_ok (p := GoodC env Tryd.prog 54 _) goodC_no fun _ h => ?_
  subst h
  refine qS_ok (p := GoodC env Tryd.prog 54 _) goodC_no fun _ h => ?_
  subst h
  refine vI_ok (p := GoodC env Tryd.prog 54 _) goodC_no fun _ h => ?_
  subst h
  refine gE_ok (p := GoodC env Tryd.prog 54 _) goodC_no fun h => ?_
  subst h
  exact fun_good (fun_sound envOK (cs_sound _ (by exact trivial)) (f54.hok k) Tryd.func54 rfl) ((f54.ev k _ _).trans (f54.nat k _ _ _))
theorem f54.says (k : Nat) (s1 : ByteArray) (a2 : Int) (t4 : Int) (h_ : f54 k s1 a2 = some t4) : SoundAt env Tryd.prog 54 [.v (.c (.s (.string s1))), .v (.c (.s (.int .i64 a2)))] ⟨.v (.c (.s (.int .i64 t4))), [[], []]⟩ :=
  fun_sound envOK (cs_sound _ (by exact trivial)) (f54.hok k) Tryd.func54 rfl _ _ (((f54.ev k s1 a2).trans (f54.nat k _ s1 a2)).trans (by rw [h_]; rfl))
theorem f54.fnok : FnOK Tryd.prog 54 := fn_ok Tryd.func54 (by kernel_rfl) rfl
def f52.l7.step {R : Type} (k : Nat) (rec_ : ByteArray → Int → Int → Int → Int → Option R) (ret : (ByteArray × Int × Int × Int × Int) → Option R) (s6 : ByteArray) (a7 : Int) (a8 : Int) (a9 : Int) (a10 : Int) : Option R :=
  if (decide ((IntKind.i64.wrap (a9 + a10)) < (8 : Int))) = true then
    (f54 k s6 (IntKind.i64.wrap (a9 + a10))).bind fun t11 => if (decide (t11 = (0 : Int))) = true then
        rec_ s6 a7 a8 a9 (IntKind.i64.wrap (a10 + (1 : Int)))
      else
        ret (s6, a7, a8, a9, a10)
  else
    ret (s6, a7, a8, a9, a10)
def f52.l7 (k : Nat) : Nat → ByteArray → Int → Int → Int → Int → Option (ByteArray × Int × Int × Int × Int)
  | 0, _, _, _, _, _ => none
  | j + 1, s6, a7, a8, a9, a10 => f52.l7.step k (fun s6 a7 a8 a9 a10 => f52.l7 k j s6 a7 a8 a9 a10) some s6 a7 a8 a9 a10
def f52.l7.w {R : Type} : (ByteArray × Int × Int × Int × Int) → (Exit → St env → Option R) → Option R := fun t14 K => K (.exit 2) ⟨fullT [0, 4, 5, 6, 7] 0 35 [.v (.c (.s (.string t14.1))), .v (.c (.s (.int .i64 t14.2.1))), .v (.c (.s (.int .i64 t14.2.2.1))), .v (.c (.s (.int .i64 t14.2.2.2.1))), .v (.c (.s (.int .i64 t14.2.2.2.2)))], [], 369⟩
def f52.l7.st (s6 : ByteArray) (a7 : Int) (a8 : Int) (a9 : Int) (a10 : Int) : St env := ⟨fullT [0, 4, 5, 6, 7] 0 35 [.v (.c (.s (.string s6))), .v (.c (.s (.int .i64 a7))), .v (.c (.s (.int .i64 a8))), .v (.c (.s (.int .i64 a9))), .v (.c (.s (.int .i64 a10)))], [], 129⟩
def f52.l4.step {R : Type} (k : Nat) (rec_ : ByteArray → Int → Int → Int → Option R) (ret : (Int × Int) → Option R) (s2 : ByteArray) (a3 : Int) (a4 : Int) (a5 : Int) : Option R :=
  if (decide (a5 < (8 : Int))) = true then
    (f52.l7 k k s2 a3 a4 a5 (0 : Int)).bind fun t12 => if (decide (t12.2.2.2.2 > t12.2.2.1)) = true then
        rec_ t12.1 t12.2.2.2.1 t12.2.2.2.2 (IntKind.i64.wrap (t12.2.2.2.1 + (1 : Int)))
      else
        rec_ t12.1 t12.2.1 t12.2.2.1 (IntKind.i64.wrap (t12.2.2.2.1 + (1 : Int)))
  else
    ret (a3, a4)
def f52.l4 (k : Nat) : Nat → ByteArray → Int → Int → Int → Option (Int × Int)
  | 0, _, _, _, _ => none
  | j + 1, s2, a3, a4, a5 => f52.l4.step k (fun s2 a3 a4 a5 => f52.l4 k j s2 a3 a4 a5) some s2 a3 a4 a5
def f52.l4.w {R : Type} : (Int × Int) → (Exit → St env → Option R) → Option R := fun t15 K => K (.exit 0) ⟨fullT [4, 5] 0 35 [.v (.c (.s (.int .i64 t15.1))), .v (.c (.s (.int .i64 t15.2)))], [], 529⟩
def f52.l4.st (s2 : ByteArray) (a3 : Int) (a4 : Int) (a5 : Int) : St env := ⟨fullT [0, 4, 5, 6] 0 35 [.v (.c (.s (.string s2))), .v (.c (.s (.int .i64 a3))), .v (.c (.s (.int .i64 a4))), .v (.c (.s (.int .i64 a5)))], [], 81⟩
def f52.l7.hd (k : Nat) (ts_ : List (AV env)) (mm_ : Mem env) (n_ : Nat) : LCl env :=
  gTs LCl.no [0, 4, 5, 6, 7] 35 ts_ fun l_ => gV LCl.no l_ fun a_ l_ => rV LCl.no a_ fun v_ => vS LCl.no v_ fun s6 => gV LCl.no l_ fun a_ l_ => rV LCl.no a_ fun v_ => vI LCl.no .i64 v_ fun a7 => gV LCl.no l_ fun a_ l_ => rV LCl.no a_ fun v_ => vI LCl.no .i64 v_ fun a8 => gV LCl.no l_ fun a_ l_ => rV LCl.no a_ fun v_ => vI LCl.no .i64 v_ fun a9 => gV LCl.no l_ fun a_ l_ => rV LCl.no a_ fun v_ => vI LCl.no .i64 v_ fun a10 => gE LCl.no l_ <| gE LCl.no mm_ <| gN LCl.no 129 n_ { α := ByteArray × Int × Int × Int × Int, o := f52.l7 k k s6 a7 a8 a9 a10, w := f52.l7.w }
def f52.l4.hd (k : Nat) (ts_ : List (AV env)) (mm_ : Mem env) (n_ : Nat) : LCl env :=
  gTs LCl.no [0, 4, 5, 6] 35 ts_ fun l_ => gV LCl.no l_ fun a_ l_ => rV LCl.no a_ fun v_ => vS LCl.no v_ fun s2 => gV LCl.no l_ fun a_ l_ => rV LCl.no a_ fun v_ => vI LCl.no .i64 v_ fun a3 => gV LCl.no l_ fun a_ l_ => rV LCl.no a_ fun v_ => vI LCl.no .i64 v_ fun a4 => gV LCl.no l_ fun a_ l_ => rV LCl.no a_ fun v_ => vI LCl.no .i64 v_ fun a5 => gE LCl.no l_ <| gE LCl.no mm_ <| gN LCl.no 81 n_ { α := Int × Int, o := f52.l4 k k s2 a3 a4 a5, w := f52.l4.w }
def f52.step {R : Type} (k : Nat) (ret : (Int × Int) → Option R) (s1 : ByteArray) : Option R :=
  (f52.l4 k k s1 (0 : Int) (1 : Int) (0 : Int)).bind fun t13 => if (decide (t13.2 < (2 : Int))) = true then
      ret ((8 : Int), (0 : Int))
    else
      ret (t13.1, t13.2)
def f52 (k : Nat) (s1 : ByteArray) : Option (Int × Int) := f52.step k some s1
def f52.w {R : Type} : (Int × Int) → (Res env → Option R) → Option R := fun t16 K => K ⟨.tup [.c (.s (.int .i64 t16.1)), .c (.s (.int .i64 t16.2))], [[]]⟩
theorem f52.wn (x : (Int × Int)) : ∃ res, ∀ {R : Type} (K : Res env → Option R), f52.w x K = K res := by
  exact ⟨_, fun _ => rfl⟩
def f52.hd (k : Nat) (ps_ : List (P2 env)) : Cl env :=
  gC Cl.no ps_ fun p_ ps_ => qC Cl.no p_ fun c_ => qS Cl.no c_ fun v_ => vS Cl.no v_ fun s1 => gE Cl.no ps_ <| { α := Int × Int, o := f52 k s1, w := f52.w, nat := fun x _ => f52.wn x }
def f52.e (k : Nat) : Entry env := ⟨f52.hd k, [], []⟩
def f52.X (k : Nat) : Ctx env := { C := lookE [(54, f54.e k)], L := lookE [(7, fun S => f52.l7.hd k S.ts S.m S.n), (4, fun S => f52.l4.hd k S.ts S.m S.n)], J := lookE [], keep := lookD [(7, [0, 4, 5, 6, 7]), (4, [0, 4, 5, 6])], keepX := lookD [(7, [0, 4, 5, 6, 7]), (4, [4, 5])], span := lookN [(7, 240), (4, 448)], eff := fun n => memN n [], prep := lookP [], np := 0 }
theorem f52.l7.nat {R : Type} (k : Nat) (rec_ : ByteArray → Int → Int → Int → Int → Option (ByteArray × Int × Int × Int × Int)) (g : (ByteArray × Int × Int × Int × Int) → Option R) (s6 : ByteArray) (a7 : Int) (a8 : Int) (a9 : Int) (a10 : Int) : (f52.l7.step k rec_ some s6 a7 a8 a9 a10).bind g = f52.l7.step k (fun s6 a7 a8 a9 a10 => (rec_ s6 a7 a8 a9 a10).bind g) g s6 a7 a8 a9 a10 := by
  simp only [f52.l7.step, bind_ite, bind_sum, Option.bind_assoc, Option.bind_some, Option.bind_none]
theorem f52.l7.good (k : Nat) (s6 : ByteArray) (a7 : Int) (a8 : Int) (a9 : Int) (a10 : Int) : GoodL (f52.X k) (nthC 1 (loopsOf (bodyOf Tryd.f52))) (f52.l7.st s6 a7 a8 a9 a10) { α := (ByteArray × Int × Int × Int × Int), o := f52.l7 k k s6 a7 a8 a9 a10, w := f52.l7.w } :=
  loop_good (ι := ByteArray × Int × Int × Int × Int) (α := (ByteArray × Int × Int × Int × Int)) (fun i => f52.l7.st i.1 i.2.1 i.2.2.1 i.2.2.2.1 i.2.2.2.2) (fun j i => f52.l7 k j i.1 i.2.1 i.2.2.1 i.2.2.2.1 i.2.2.2.2) f52.l7.w (fun rec_ ret i => f52.l7.step k (fun s6 a7 a8 a9 a10 => rec_ (s6, a7, a8, a9, a10)) ret i.1 i.2.1 i.2.2.1 i.2.2.2.1 i.2.2.2.2)
    (fun _ => rfl) (fun _ _ => rfl) (fun rec_ g i => f52.l7.nat k _ g i.1 i.2.1 i.2.2.1 i.2.2.2.1 i.2.2.2.2) (fun {R} i0 i rec_ K => by kernel_rfl) k (s6, a7, a8, a9, a10)
theorem f52.l7.all (k : Nat) (S : St env) : GoodL (f52.X k) (nthC 1 (loopsOf (bodyOf Tryd.f52))) S (f52.l7.hd k S.ts S.m S.n) := by
  obtain ⟨ts_, m_, n_⟩ := S
  show GoodL _ _ _ (f52.l7.hd k ts_ m_ n_)
  unfold f52.l7.hd
  refine gTs_ok (p := GoodL _ _ _) goodL_no fun _ h => ?_
  subst h
  refine gV_ok (p := GoodL _ _ _) goodL_no fun _ _ h => ?_
  subst h
  refine rV_ok (p := GoodL _ _ _) goodL_no fun _ h => ?_
  subst h
  refine vS_ok (p := GoodL _ _ _) goodL_no fun _ h => ?_
  subst h
  refine gV_ok (p := GoodL _ _ _) goodL_no fun _ _ h => ?_
  subst h
  refine rV_ok (p := GoodL _ _ _) goodL_no fun _ h => ?_
  subst h
  refine vI_ok (p := GoodL _ _ _) goodL_no fun _ h => ?_
  subst h
  refine gV_ok (p := GoodL _ _ _) goodL_no fun _ _ h => ?_
  subst h
  refine rV_ok (p := GoodL _ _ _) goodL_no fun _ h => ?_
  subst h
  refine vI_ok (p := GoodL _ _ _) goodL_no fun _ h => ?_
  subst h
  refine gV_ok (p := GoodL _ _ _) goodL_no fun _ _ h => ?_
  subst h
  refine rV_ok (p := GoodL _ _ _) goodL_no fun _ h => ?_
  subst h
  refine vI_ok (p := GoodL _ _ _) goodL_no fun _ h => ?_
  subst h
  refine gV_ok (p := GoodL _ _ _) goodL_no fun _ _ h => ?_
  subst h
  refine rV_ok (p := GoodL _ _ _) goodL_no fun _ h => ?_
  subst h
  refine vI_ok (p := GoodL _ _ _) goodL_no fun _ h => ?_
  subst h
  refine gE_ok (p := GoodL _ _ _) goodL_no fun h => ?_
  subst h
  refine gE_ok (p := GoodL _ _ _) goodL_no fun h => ?_
  subst h
  refine gN_ok (p := GoodL _ _ _) goodL_no fun h => ?_
  subst h
  exact f52.l7.good k _ _ _ _ _
theorem f52.l4.nat {R : Type} (k : Nat) (rec_ : ByteArray → Int → Int → Int → Option (Int × Int)) (g : (Int × Int) → Option R) (s2 : ByteArray) (a3 : Int) (a4 : Int) (a5 : Int) : (f52.l4.step k rec_ some s2 a3 a4 a5).bind g = f52.l4.step k (fun s2 a3 a4 a5 => (rec_ s2 a3 a4 a5).bind g) g s2 a3 a4 a5 := by
  simp only [f52.l4.step, bind_ite, bind_sum, Option.bind_assoc, Option.bind_some, Option.bind_none]
theorem f52.l4.good (k : Nat) (s2 : ByteArray) (a3 : Int) (a4 : Int) (a5 : Int) : GoodL (f52.X k) (nthC 0 (loopsOf (bodyOf Tryd.f52))) (f52.l4.st s2 a3 a4 a5) { α := (Int × Int), o := f52.l4 k k s2 a3 a4 a5, w := f52.l4.w } :=
  loop_good (ι := ByteArray × Int × Int × Int) (α := (Int × Int)) (fun i => f52.l4.st i.1 i.2.1 i.2.2.1 i.2.2.2) (fun j i => f52.l4 k j i.1 i.2.1 i.2.2.1 i.2.2.2) f52.l4.w (fun rec_ ret i => f52.l4.step k (fun s2 a3 a4 a5 => rec_ (s2, a3, a4, a5)) ret i.1 i.2.1 i.2.2.1 i.2.2.2)
    (fun _ => rfl) (fun _ _ => rfl) (fun rec_ g i => f52.l4.nat k _ g i.1 i.2.1 i.2.2.1 i.2.2.2) (fun {R} i0 i rec_ K => by kernel_rfl) k (s2, a3, a4, a5)
theorem f52.l4.all (k : Nat) (S : St env) : GoodL (f52.X k) (nthC 0 (loopsOf (bodyOf Tryd.f52))) S (f52.l4.hd k S.ts S.m S.n) := by
  obtain ⟨ts_, m_, n_⟩ := S
  show GoodL _ _ _ (f52.l4.hd k ts_ m_ n_)
  unfold f52.l4.hd
  refine gTs_ok (p := GoodL _ _ _) goodL_no fun _ h => ?_
  subst h
  refine gV_ok (p := GoodL _ _ _) goodL_no fun _ _ h => ?_
  subst h
  refine rV_ok (p := GoodL _ _ _) goodL_no fun _ h => ?_
  subst h
  refine vS_ok (p := GoodL _ _ _) goodL_no fun _ h => ?_
  subst h
  refine gV_ok (p := GoodL _ _ _) goodL_no fun _ _ h => ?_
  subst h
  refine rV_ok (p := GoodL _ _ _) goodL_no fun _ h => ?_
  subst h
  refine vI_ok (p := GoodL _ _ _) goodL_no fun _ h => ?_
  subst h
  refine gV_ok (p := GoodL _ _ _) goodL_no fun _ _ h => ?_
  subst h
  refine rV_ok (p := GoodL _ _ _) goodL_no fun _ h => ?_
  subst h
  refine vI_ok (p := GoodL _ _ _) goodL_no fun _ h => ?_
  subst h
  refine gV_ok (p := GoodL _ _ _) goodL_no fun _ _ h => ?_
  subst h
  refine rV_ok (p := GoodL _ _ _) goodL_no fun _ h => ?_
  subst h
  refine vI_ok (p := GoodL _ _ _) goodL_no fun _ h => ?_
  subst h
  refine gE_ok (p := GoodL _ _ _) goodL_no fun h => ?_
  subst h
  refine gE_ok (p := GoodL _ _ _) goodL_no fun h => ?_
  subst h
  refine gN_ok (p := GoodL _ _ _) goodL_no fun h => ?_
  subst h
  exact f52.l4.good k _ _ _ _
theorem f52.nat {R : Type} (k : Nat) (g : (Int × Int) → Option R) (s1 : ByteArray) : f52.step k g s1 = (f52 k s1).bind g := by
  simp only [f52, f52.step, bind_ite, bind_sum, Option.bind_assoc, Option.bind_some, Option.bind_none]
theorem f52.ev (k : Nat) (s1 : ByteArray) : evF (f52.X k) (bodyOf Tryd.f52) Tryd.f52.ntmps Tryd.f52.results.toList [.v (.c (.s (.string s1)))] = f52.step k (fun x => f52.w x some) s1 := by kernel_rfl
theorem f52.hok (k : Nat) : HOK (f52.X k) (bodyOf Tryd.f52) where
  l := allP_mem (by exact ⟨ls_of (h0 := fun S => f52.l4.hd k S.ts S.m S.n) (by kernel_rfl) (f52.l4.all k), ls_of (h0 := fun S => f52.l7.hd k S.ts S.m S.n) (by kernel_rfl) (f52.l7.all k), trivial⟩)
  j := allP_mem (by exact trivial)
theorem f52.sound (k : Nat) : SoundC env Tryd.prog 52 ((f52.e k).F) := by
  intro ps_
  show GoodC _ _ _ ps_ (f52.hd k ps_)
  unfold f52.hd
  refine gC_ok (p := GoodC env Tryd.prog 52 _) goodC_no fun _ _ h => ?_
  subst h
  refine qC_ok (p := GoodC env Tryd.prog 52 _) goodC_no fun _ h => ?_
  subst h
  refine qS_ok (p := GoodC env Tryd.prog 52 _) goodC_no fun _ h => ?_
  subst h
  refine vS_ok (p := GoodC env Tryd.prog 52 _) goodC_no fun _ h => ?_
  subst h
  refine gE_ok (p := GoodC env Tryd.prog 52 _) goodC_no fun h => ?_
  subst h
  exact fun_good (fun_sound envOK (cs_sound _ (by exact ⟨⟨f54.sound k, f54.fnok⟩, trivial⟩)) (f52.hok k) Tryd.func52 rfl) ((f52.ev k _).trans (f52.nat k _ _))
theorem f52.says (k : Nat) (s1 : ByteArray) (t17 : Int × Int) (h_ : f52 k s1 = some t17) : SoundAt env Tryd.prog 52 [.v (.c (.s (.string s1)))] ⟨.tup [.c (.s (.int .i64 t17.1)), .c (.s (.int .i64 t17.2))], [[]]⟩ :=
  fun_sound envOK (cs_sound _ (by exact ⟨⟨f54.sound k, f54.fnok⟩, trivial⟩)) (f52.hok k) Tryd.func52 rfl _ _ (((f52.ev k s1).trans (f52.nat k _ s1)).trans (by rw [h_]; rfl))
theorem f52.fnok : FnOK Tryd.prog 52 := fn_ok Tryd.func52 (by kernel_rfl) rfl
def f53i.w {R : Type} : ByteArray → (Res env → Option R) → Option R := fun t3 K => K ⟨.v (.c (.s (.string t3))), [[]]⟩
theorem f53i.wn (x : ByteArray) : ∃ res, ∀ {R : Type} (K : Res env → Option R), f53i.w x K = K res := by
  exact ⟨_, fun _ => rfl⟩
def f53i.hdG (G_ : Int → Option ByteArray) (ps_ : List (P2 env)) : Cl env :=
  gC Cl.no ps_ fun p_ ps_ => qC Cl.no p_ fun c_ => qS Cl.no c_ fun v_ => vI Cl.no .i64 v_ fun a1 => gE Cl.no ps_ <| { α := ByteArray, o := G_ a1, w := f53i.w, nat := fun x _ => f53i.wn x }
def f53i.eG (G_ : Int → Option ByteArray) : Entry env := ⟨f53i.hdG G_, [], []⟩
theorem f53i.none_ : SoundC env Tryd.prog 53 (f53i.eG (fun _ => none)).F := by
  intro ps_
  show GoodC _ _ _ ps_ (f53i.hdG (fun _ => none) ps_)
  unfold f53i.hdG
  refine gC_ok (p := GoodC env Tryd.prog 53 _) goodC_no fun _ _ h => ?_
  subst h
  refine qC_ok (p := GoodC env Tryd.prog 53 _) goodC_no fun _ h => ?_
  subst h
  refine qS_ok (p := GoodC env Tryd.prog 53 _) goodC_no fun _ h => ?_
  subst h
  refine vI_ok (p := GoodC env Tryd.prog 53 _) goodC_no fun _ h => ?_
  subst h
  refine gE_ok (p := GoodC env Tryd.prog 53 _) goodC_no fun h => ?_
  subst h
  intro x h; cases h
theorem f53.fnok : FnOK Tryd.prog 53 := fn_ok Tryd.func53 (by kernel_rfl) rfl
def f53i.step {R : Type} (g53 : Int → Option ByteArray) (k : Nat) (ret : ByteArray → Option R) (a1 : Int) : Option R :=
  if (decide (a1 < (16 : Int))) = true then
    if (0 : Int) ≤ a1 then
      if a1 < ((ByteArray.size (⟨#[48, 49, 50, 51, 52, 53, 54, 55, 56, 57, 97, 98, 99, 100, 101, 102]⟩ : ByteArray) : Nat) : Int) then
        ret (Utf8.encode (bt (⟨#[48, 49, 50, 51, 52, 53, 54, 55, 56, 57, 97, 98, 99, 100, 101, 102]⟩ : ByteArray) a1))
      else none
    else none
  else
    (g53 (IntKind.i64.wrap (Int.tdiv a1 (16 : Int)))).bind fun t2 => if (0 : Int) ≤ (Int.tmod a1 (16 : Int)) then
        if (Int.tmod a1 (16 : Int)) < ((ByteArray.size (⟨#[48, 49, 50, 51, 52, 53, 54, 55, 56, 57, 97, 98, 99, 100, 101, 102]⟩ : ByteArray) : Nat) : Int) then
          if ByteArray.size t2 + ByteArray.size (Utf8.encode (bt (⟨#[48, 49, 50, 51, 52, 53, 54, 55, 56, 57, 97, 98, 99, 100, 101, 102]⟩ : ByteArray) (Int.tmod a1 (16 : Int)))) ≤ maxN then
            ret (t2 ++ (Utf8.encode (bt (⟨#[48, 49, 50, 51, 52, 53, 54, 55, 56, 57, 97, 98, 99, 100, 101, 102]⟩ : ByteArray) (Int.tmod a1 (16 : Int)))))
          else none
        else none
      else none
def f53i (g53 : Int → Option ByteArray) (k : Nat) (a1 : Int) : Option ByteArray := f53i.step g53 k some a1
def f53i.hd (g53 : Int → Option ByteArray) (k : Nat) (ps_ : List (P2 env)) : Cl env := f53i.hdG (f53i g53 k) ps_
def f53i.e (g53 : Int → Option ByteArray) (k : Nat) : Entry env := f53i.eG (f53i g53 k)
def f53i.X (g53 : Int → Option ByteArray) (k : Nat) : Ctx env := { C := lookE [(53, f53i.eG g53)], L := lookE [], J := lookE [], keep := lookD [], keepX := lookD [], span := lookN [], eff := fun n => memN n [], prep := lookP [], np := 0 }
theorem f53i.nat {R : Type} (g53 : Int → Option ByteArray) (k : Nat) (g : ByteArray → Option R) (a1 : Int) : f53i.step g53 k g a1 = (f53i g53 k a1).bind g := by
  simp only [f53i, f53i.step, bind_ite, bind_sum, Option.bind_assoc, Option.bind_some, Option.bind_none]
theorem f53i.ev (g53 : Int → Option ByteArray) (k : Nat) (a1 : Int) : evF (f53i.X g53 k) (bodyOf Tryd.f53) Tryd.f53.ntmps Tryd.f53.results.toList [.v (.c (.s (.int .i64 a1)))] = f53i.step g53 k (fun x => f53i.w x some) a1 := by kernel_rfl
theorem f53i.hok (g53 : Int → Option ByteArray) (k : Nat) : HOK (f53i.X g53 k) (bodyOf Tryd.f53) where
  l := allP_mem (by exact trivial)
  j := allP_mem (by exact trivial)
theorem f53i.sound (g53 : Int → Option ByteArray) (hg_ : SoundC env Tryd.prog 53 (f53i.eG g53).F) (k : Nat) : SoundC env Tryd.prog 53 ((f53i.e g53 k).F) := by
  intro ps_
  show GoodC _ _ _ ps_ (f53i.hd g53 k ps_)
  unfold f53i.hd f53i.hdG
  refine gC_ok (p := GoodC env Tryd.prog 53 _) goodC_no fun _ _ h => ?_
  subst h
  refine qC_ok (p := GoodC env Tryd.prog 53 _) goodC_no fun _ h => ?_
  subst h
  refine qS_ok (p := GoodC env Tryd.prog 53 _) goodC_no fun _ h => ?_
  subst h
  refine vI_ok (p := GoodC env Tryd.prog 53 _) goodC_no fun _ h => ?_
  subst h
  refine gE_ok (p := GoodC env Tryd.prog 53 _) goodC_no fun h => ?_
  subst h
  exact fun_good (fun_sound envOK (cs_sound _ (by exact ⟨⟨hg_, f53.fnok⟩, trivial⟩)) (f53i.hok g53 k) Tryd.func53 rfl) ((f53i.ev g53 k _).trans (f53i.nat g53 k _ _))
def f53i.r (k : Nat) : Nat → Int → Option ByteArray
  | 0 => fun _ => none
  | j + 1 => fun a1 => f53i (f53i.r k j) k a1
theorem f53i.all_ (k : Nat) : ∀ j, SoundC env Tryd.prog 53 (f53i.eG (f53i.r k j)).F
  | 0 => f53i.none_
  | j + 1 => f53i.sound (f53i.r k j) (f53i.all_ k j) k
def f53 (k : Nat) (a1 : Int) : Option ByteArray := f53i.r k k a1
def f53.e (k : Nat) : Entry env := f53i.eG (f53 k)
theorem f53.sound (k : Nat) : SoundC env Tryd.prog 53 (f53.e k).F := f53i.all_ k k
def f32.l6.step {R : Type} (k : Nat) (rec_ : ByteArray → Int → Int → ByteArray → Int → Option R) (ret : ByteArray → Option R) (s7 : ByteArray) (a8 : Int) (a9 : Int) (s10 : ByteArray) (a11 : Int) : Option R :=
  if (decide (a11 < (8 : Int))) = true then
    if (decide (a11 = a8)) = true then
      if ByteArray.size s10 + ByteArray.size (⟨#[58, 58]⟩ : ByteArray) ≤ maxN then
        rec_ s7 a8 a9 (s10 ++ (⟨#[58, 58]⟩ : ByteArray)) (IntKind.i64.wrap ((IntKind.i64.wrap (a11 + (IntKind.i64.wrap (a9 - (1 : Int))))) + (1 : Int)))
      else none
    else
      if (decide (a11 > (0 : Int))) = true then
        if (decide (a11 ≠ (IntKind.i64.wrap (a8 + a9)))) = true then
          if ByteArray.size s10 + ByteArray.size (⟨#[58]⟩ : ByteArray) ≤ maxN then
            (f54 k s7 a11).bind fun t12 => (f53 k t12).bind fun t13 => if ByteArray.size (s10 ++ (⟨#[58]⟩ : ByteArray)) + ByteArray.size t13 ≤ maxN then
                  rec_ s7 a8 a9 ((s10 ++ (⟨#[58]⟩ : ByteArray)) ++ t13) (IntKind.i64.wrap (a11 + (1 : Int)))
                else none
          else none
        else
          (f54 k s7 a11).bind fun t14 => (f53 k t14).bind fun t15 => if ByteArray.size s10 + ByteArray.size t15 ≤ maxN then
                rec_ s7 a8 a9 (s10 ++ t15) (IntKind.i64.wrap (a11 + (1 : Int)))
              else none
      else
        (f54 k s7 a11).bind fun t16 => (f53 k t16).bind fun t17 => if ByteArray.size s10 + ByteArray.size t17 ≤ maxN then
              rec_ s7 a8 a9 (s10 ++ t17) (IntKind.i64.wrap (a11 + (1 : Int)))
            else none
  else
    ret s10
def f32.l6 (k : Nat) : Nat → ByteArray → Int → Int → ByteArray → Int → Option ByteArray
  | 0, _, _, _, _, _ => none
  | j + 1, s7, a8, a9, s10, a11 => f32.l6.step k (fun s7 a8 a9 s10 a11 => f32.l6 k j s7 a8 a9 s10 a11) some s7 a8 a9 s10 a11
def f32.l6.w {R : Type} : ByteArray → (Exit → St env → Option R) → Option R := fun t19 K => K (.exit 0) ⟨fullT [5] 0 68 [.v (.c (.s (.string t19)))], [], 769⟩
def f32.l6.st (s7 : ByteArray) (a8 : Int) (a9 : Int) (s10 : ByteArray) (a11 : Int) : St env := ⟨fullT [0, 3, 4, 5, 6] 0 68 [.v (.c (.s (.string s7))), .v (.c (.s (.int .i64 a8))), .v (.c (.s (.int .i64 a9))), .v (.c (.s (.string s10))), .v (.c (.s (.int .i64 a11)))], [], 209⟩
def f32.l6.hd (k : Nat) (ts_ : List (AV env)) (mm_ : Mem env) (n_ : Nat) : LCl env :=
  gTs LCl.no [0, 3, 4, 5, 6] 68 ts_ fun l_ => gV LCl.no l_ fun a_ l_ => rV LCl.no a_ fun v_ => vS LCl.no v_ fun s7 => gV LCl.no l_ fun a_ l_ => rV LCl.no a_ fun v_ => vI LCl.no .i64 v_ fun a8 => gV LCl.no l_ fun a_ l_ => rV LCl.no a_ fun v_ => vI LCl.no .i64 v_ fun a9 => gV LCl.no l_ fun a_ l_ => rV LCl.no a_ fun v_ => vS LCl.no v_ fun s10 => gV LCl.no l_ fun a_ l_ => rV LCl.no a_ fun v_ => vI LCl.no .i64 v_ fun a11 => gE LCl.no l_ <| gE LCl.no mm_ <| gN LCl.no 209 n_ { α := ByteArray, o := f32.l6 k k s7 a8 a9 s10 a11, w := f32.l6.w }
def f32.step {R : Type} (k : Nat) (ret : ByteArray → Option R) (s1 : ByteArray) : Option R :=
  if (decide ((((ByteArray.size s1) : Nat) : Int) = (4 : Int))) = true then
    if (0 : Int) < ((ByteArray.size s1 : Nat) : Int) then
      (f51 k (IntKind.i64.wrap (bt s1 (0 : Int)))).bind fun t2 => if ByteArray.size t2 + ByteArray.size (⟨#[46]⟩ : ByteArray) ≤ maxN then
          if (1 : Int) < ((ByteArray.size s1 : Nat) : Int) then
            (f51 k (IntKind.i64.wrap (bt s1 (1 : Int)))).bind fun t3 => if ByteArray.size (t2 ++ (⟨#[46]⟩ : ByteArray)) + ByteArray.size t3 ≤ maxN then
                if ByteArray.size ((t2 ++ (⟨#[46]⟩ : ByteArray)) ++ t3) + ByteArray.size (⟨#[46]⟩ : ByteArray) ≤ maxN then
                  if (2 : Int) < ((ByteArray.size s1 : Nat) : Int) then
                    (f51 k (IntKind.i64.wrap (bt s1 (2 : Int)))).bind fun t4 => if ByteArray.size (((t2 ++ (⟨#[46]⟩ : ByteArray)) ++ t3) ++ (⟨#[46]⟩ : ByteArray)) + ByteArray.size t4 ≤ maxN then
                        if ByteArray.size ((((t2 ++ (⟨#[46]⟩ : ByteArray)) ++ t3) ++ (⟨#[46]⟩ : ByteArray)) ++ t4) + ByteArray.size (⟨#[46]⟩ : ByteArray) ≤ maxN then
                          if (3 : Int) < ((ByteArray.size s1 : Nat) : Int) then
                            (f51 k (IntKind.i64.wrap (bt s1 (3 : Int)))).bind fun t5 => if ByteArray.size (((((t2 ++ (⟨#[46]⟩ : ByteArray)) ++ t3) ++ (⟨#[46]⟩ : ByteArray)) ++ t4) ++ (⟨#[46]⟩ : ByteArray)) + ByteArray.size t5 ≤ maxN then
                                ret ((((((t2 ++ (⟨#[46]⟩ : ByteArray)) ++ t3) ++ (⟨#[46]⟩ : ByteArray)) ++ t4) ++ (⟨#[46]⟩ : ByteArray)) ++ t5)
                              else none
                          else none
                        else none
                      else none
                  else none
                else none
              else none
          else none
        else none
    else none
  else
    (f52 k s1).bind fun t6 => (f32.l6 k k s1 t6.1 t6.2 (⟨#[]⟩ : ByteArray) (0 : Int)).bind fun t18 => ret t18
def f32 (k : Nat) (s1 : ByteArray) : Option ByteArray := f32.step k some s1
def f32.w {R : Type} : ByteArray → (Res env → Option R) → Option R := fun t20 K => K ⟨.v (.c (.s (.string t20))), [[]]⟩
theorem f32.wn (x : ByteArray) : ∃ res, ∀ {R : Type} (K : Res env → Option R), f32.w x K = K res := by
  exact ⟨_, fun _ => rfl⟩
def f32.hd (k : Nat) (ps_ : List (P2 env)) : Cl env :=
  gC Cl.no ps_ fun p_ ps_ => qC Cl.no p_ fun c_ => qS Cl.no c_ fun v_ => vS Cl.no v_ fun s1 => gE Cl.no ps_ <| { α := ByteArray, o := f32 k s1, w := f32.w, nat := fun x _ => f32.wn x }
def f32.e (k : Nat) : Entry env := ⟨f32.hd k, [], []⟩
def f32.X (k : Nat) : Ctx env := { C := lookE [(51, f51.e k), (52, f52.e k), (53, f53.e k), (54, f54.e k)], L := lookE [(6, fun S => f32.l6.hd k S.ts S.m S.n)], J := lookE [], keep := lookD [(6, [0, 3, 4, 5, 6])], keepX := lookD [(6, [5])], span := lookN [(6, 560)], eff := fun n => memN n [], prep := lookP [], np := 0 }
theorem f32.l6.nat {R : Type} (k : Nat) (rec_ : ByteArray → Int → Int → ByteArray → Int → Option ByteArray) (g : ByteArray → Option R) (s7 : ByteArray) (a8 : Int) (a9 : Int) (s10 : ByteArray) (a11 : Int) : (f32.l6.step k rec_ some s7 a8 a9 s10 a11).bind g = f32.l6.step k (fun s7 a8 a9 s10 a11 => (rec_ s7 a8 a9 s10 a11).bind g) g s7 a8 a9 s10 a11 := by
  simp only [f32.l6.step, bind_ite, bind_sum, Option.bind_assoc, Option.bind_some, Option.bind_none]
theorem f32.l6.good (k : Nat) (s7 : ByteArray) (a8 : Int) (a9 : Int) (s10 : ByteArray) (a11 : Int) : GoodL (f32.X k) (nthC 0 (loopsOf (bodyOf Tryd.f32))) (f32.l6.st s7 a8 a9 s10 a11) { α := ByteArray, o := f32.l6 k k s7 a8 a9 s10 a11, w := f32.l6.w } :=
  loop_good (ι := ByteArray × Int × Int × ByteArray × Int) (α := ByteArray) (fun i => f32.l6.st i.1 i.2.1 i.2.2.1 i.2.2.2.1 i.2.2.2.2) (fun j i => f32.l6 k j i.1 i.2.1 i.2.2.1 i.2.2.2.1 i.2.2.2.2) f32.l6.w (fun rec_ ret i => f32.l6.step k (fun s7 a8 a9 s10 a11 => rec_ (s7, a8, a9, s10, a11)) ret i.1 i.2.1 i.2.2.1 i.2.2.2.1 i.2.2.2.2)
    (fun _ => rfl) (fun _ _ => rfl) (fun rec_ g i => f32.l6.nat k _ g i.1 i.2.1 i.2.2.1 i.2.2.2.1 i.2.2.2.2) (fun {R} i0 i rec_ K => by kernel_rfl) k (s7, a8, a9, s10, a11)
theorem f32.l6.all (k : Nat) (S : St env) : GoodL (f32.X k) (nthC 0 (loopsOf (bodyOf Tryd.f32))) S (f32.l6.hd k S.ts S.m S.n) := by
  obtain ⟨ts_, m_, n_⟩ := S
  show GoodL _ _ _ (f32.l6.hd k ts_ m_ n_)
  unfold f32.l6.hd
  refine gTs_ok (p := GoodL _ _ _) goodL_no fun _ h => ?_
  subst h
  refine gV_ok (p := GoodL _ _ _) goodL_no fun _ _ h => ?_
  subst h
  refine rV_ok (p := GoodL _ _ _) goodL_no fun _ h => ?_
  subst h
  refine vS_ok (p := GoodL _ _ _) goodL_no fun _ h => ?_
  subst h
  refine gV_ok (p := GoodL _ _ _) goodL_no fun _ _ h => ?_
  subst h
  refine rV_ok (p := GoodL _ _ _) goodL_no fun _ h => ?_
  subst h
  refine vI_ok (p := GoodL _ _ _) goodL_no fun _ h => ?_
  subst h
  refine gV_ok (p := GoodL _ _ _) goodL_no fun _ _ h => ?_
  subst h
  refine rV_ok (p := GoodL _ _ _) goodL_no fun _ h => ?_
  subst h
  refine vI_ok (p := GoodL _ _ _) goodL_no fun _ h => ?_
  subst h
  refine gV_ok (p := GoodL _ _ _) goodL_no fun _ _ h => ?_
  subst h
  refine rV_ok (p := GoodL _ _ _) goodL_no fun _ h => ?_
  subst h
  refine vS_ok (p := GoodL _ _ _) goodL_no fun _ h => ?_
  subst h
  refine gV_ok (p := GoodL _ _ _) goodL_no fun _ _ h => ?_
  subst h
  refine rV_ok (p := GoodL _ _ _) goodL_no fun _ h => ?_
  subst h
  refine vI_ok (p := GoodL _ _ _) goodL_no fun _ h => ?_
  subst h
  refine gE_ok (p := GoodL _ _ _) goodL_no fun h => ?_
  subst h
  refine gE_ok (p := GoodL _ _ _) goodL_no fun h => ?_
  subst h
  refine gN_ok (p := GoodL _ _ _) goodL_no fun h => ?_
  subst h
  exact f32.l6.good k _ _ _ _ _
theorem f32.nat {R : Type} (k : Nat) (g : ByteArray → Option R) (s1 : ByteArray) : f32.step k g s1 = (f32 k s1).bind g := by
  simp only [f32, f32.step, bind_ite, bind_sum, Option.bind_assoc, Option.bind_some, Option.bind_none]
theorem f32.ev (k : Nat) (s1 : ByteArray) : evF (f32.X k) (bodyOf Tryd.f32) Tryd.f32.ntmps Tryd.f32.results.toList [.v (.c (.s (.string s1)))] = f32.step k (fun x => f32.w x some) s1 := by kernel_rfl
theorem f32.hok (k : Nat) : HOK (f32.X k) (bodyOf Tryd.f32) where
  l := allP_mem (by exact ⟨ls_of (h0 := fun S => f32.l6.hd k S.ts S.m S.n) (by kernel_rfl) (f32.l6.all k), trivial⟩)
  j := allP_mem (by exact trivial)
theorem f32.sound (k : Nat) : SoundC env Tryd.prog 32 ((f32.e k).F) := by
  intro ps_
  show GoodC _ _ _ ps_ (f32.hd k ps_)
  unfold f32.hd
  refine gC_ok (p := GoodC env Tryd.prog 32 _) goodC_no fun _ _ h => ?_
  subst h
  refine qC_ok (p := GoodC env Tryd.prog 32 _) goodC_no fun _ h => ?_
  subst h
  refine qS_ok (p := GoodC env Tryd.prog 32 _) goodC_no fun _ h => ?_
  subst h
  refine vS_ok (p := GoodC env Tryd.prog 32 _) goodC_no fun _ h => ?_
  subst h
  refine gE_ok (p := GoodC env Tryd.prog 32 _) goodC_no fun h => ?_
  subst h
  exact fun_good (fun_sound envOK (cs_sound _ (by exact ⟨⟨f51.sound k, f51.fnok⟩, ⟨f52.sound k, f52.fnok⟩, ⟨f53.sound k, f53.fnok⟩, ⟨f54.sound k, f54.fnok⟩, trivial⟩)) (f32.hok k) Tryd.func32 rfl) ((f32.ev k _).trans (f32.nat k _ _))
theorem f32.says (k : Nat) (s1 : ByteArray) (t21 : ByteArray) (h_ : f32 k s1 = some t21) : SoundAt env Tryd.prog 32 [.v (.c (.s (.string s1)))] ⟨.v (.c (.s (.string t21))), [[]]⟩ :=
  fun_sound envOK (cs_sound _ (by exact ⟨⟨f51.sound k, f51.fnok⟩, ⟨f52.sound k, f52.fnok⟩, ⟨f53.sound k, f53.fnok⟩, ⟨f54.sound k, f54.fnok⟩, trivial⟩)) (f32.hok k) Tryd.func32 rfl _ _ (((f32.ev k s1).trans (f32.nat k _ s1)).trans (by rw [h_]; rfl))
theorem f32.fnok : FnOK Tryd.prog 32 := fn_ok Tryd.func32 (by kernel_rfl) rfl
def f12.step {R : Type} (k : Nat) (ret : (ByteArray × Int) → Option R) (s1 : ByteArray) : Option R :=
  if (decide ((((ByteArray.size s1) : Nat) : Int) ≠ (4 : Int))) = true then
    if (decide ((((ByteArray.size s1) : Nat) : Int) ≠ (16 : Int))) = true then
      ret ((⟨#[]⟩ : ByteArray), (1 : Int))
    else
      (f32 k s1).bind fun t2 => ret (t2, (0 : Int))
  else
    (f32 k s1).bind fun t3 => ret (t3, (0 : Int))
def f12 (k : Nat) (s1 : ByteArray) : Option (ByteArray × Int) := f12.step k some s1
def f12.w {R : Type} : (ByteArray × Int) → (Res env → Option R) → Option R := fun t4 K => K ⟨.tup [.c (.s (.string t4.1)), .c (.s (.int .i64 t4.2))], [[]]⟩
theorem f12.wn (x : (ByteArray × Int)) : ∃ res, ∀ {R : Type} (K : Res env → Option R), f12.w x K = K res := by
  exact ⟨_, fun _ => rfl⟩
def f12.hd (k : Nat) (ps_ : List (P2 env)) : Cl env :=
  gC Cl.no ps_ fun p_ ps_ => qC Cl.no p_ fun c_ => qS Cl.no c_ fun v_ => vS Cl.no v_ fun s1 => gE Cl.no ps_ <| { α := ByteArray × Int, o := f12 k s1, w := f12.w, nat := fun x _ => f12.wn x }
def f12.e (k : Nat) : Entry env := ⟨f12.hd k, [], []⟩
def f12.X (k : Nat) : Ctx env := { C := lookE [(32, f32.e k)], L := lookE [], J := lookE [], keep := lookD [], keepX := lookD [], span := lookN [], eff := fun n => memN n [], prep := lookP [], np := 0 }
theorem f12.nat {R : Type} (k : Nat) (g : (ByteArray × Int) → Option R) (s1 : ByteArray) : f12.step k g s1 = (f12 k s1).bind g := by
  simp only [f12, f12.step, bind_ite, bind_sum, Option.bind_assoc, Option.bind_some, Option.bind_none]
theorem f12.ev (k : Nat) (s1 : ByteArray) : evF (f12.X k) (bodyOf Tryd.f12) Tryd.f12.ntmps Tryd.f12.results.toList [.v (.c (.s (.string s1)))] = f12.step k (fun x => f12.w x some) s1 := by kernel_rfl
theorem f12.hok (k : Nat) : HOK (f12.X k) (bodyOf Tryd.f12) where
  l := allP_mem (by exact trivial)
  j := allP_mem (by exact trivial)
theorem f12.sound (k : Nat) : SoundC env Tryd.prog 12 ((f12.e k).F) := by
  intro ps_
  show GoodC _ _ _ ps_ (f12.hd k ps_)
  unfold f12.hd
  refine gC_ok (p := GoodC env Tryd.prog 12 _) goodC_no fun _ _ h => ?_
  subst h
  refine qC_ok (p := GoodC env Tryd.prog 12 _) goodC_no fun _ h => ?_
  subst h
  refine qS_ok (p := GoodC env Tryd.prog 12 _) goodC_no fun _ h => ?_
  subst h
  refine vS_ok (p := GoodC env Tryd.prog 12 _) goodC_no fun _ h => ?_
  subst h
  refine gE_ok (p := GoodC env Tryd.prog 12 _) goodC_no fun h => ?_
  subst h
  exact fun_good (fun_sound envOK (cs_sound _ (by exact ⟨⟨f32.sound k, f32.fnok⟩, trivial⟩)) (f12.hok k) Tryd.func12 rfl) ((f12.ev k _).trans (f12.nat k _ _))
theorem f12.says (k : Nat) (s1 : ByteArray) (t5 : ByteArray × Int) (h_ : f12 k s1 = some t5) : SoundAt env Tryd.prog 12 [.v (.c (.s (.string s1)))] ⟨.tup [.c (.s (.string t5.1)), .c (.s (.int .i64 t5.2))], [[]]⟩ :=
  fun_sound envOK (cs_sound _ (by exact ⟨⟨f32.sound k, f32.fnok⟩, trivial⟩)) (f12.hok k) Tryd.func12 rfl _ _ (((f12.ev k s1).trans (f12.nat k _ s1)).trans (by rw [h_]; rfl))
theorem f12.fnok : FnOK Tryd.prog 12 := fn_ok Tryd.func12 (by kernel_rfl) rfl
def f20.l10.step {R : Type} (k : Nat) (rec_ : ByteArray → ByteArray → Int → Int → Option R) (ret : ((ByteArray × Int × Bool × ByteArray × Int) ⊕ (ByteArray × ByteArray × Int)) → Option R) (s2 : ByteArray) (s3 : ByteArray) (a4 : Int) (a5 : Int) : Option R :=
  if (decide (a5 < (((ByteArray.size s3) : Nat) : Int))) = true then
    if (0 : Int) ≤ a5 then
      if a5 < ((ByteArray.size s3 : Nat) : Int) then
        if (decide ((bt s3 a5) < (48 : Int))) = false then
          if (0 : Int) ≤ a5 then
            if a5 < ((ByteArray.size s3 : Nat) : Int) then
              if (decide ((bt s3 a5) > (57 : Int))) = true then
                ret (.inl (s2, (0 : Int), false, s3, a4))
              else
                if (0 : Int) ≤ a5 then
                  if a5 < ((ByteArray.size s3 : Nat) : Int) then
                    rec_ s2 s3 (IntKind.i64.wrap ((IntKind.i64.wrap ((10 : Int) * a4)) + (IntKind.i64.wrap (IntKind.u8.wrap ((bt s3 a5) - (48 : Int)))))) (IntKind.i64.wrap (a5 + (1 : Int)))
                  else none
                else none
            else none
          else none
        else
          ret (.inl (s2, (0 : Int), false, s3, a4))
      else none
    else none
  else
    ret (.inr (s2, s3, a4))
def f20.l10 (k : Nat) : Nat → ByteArray → ByteArray → Int → Int → Option ((ByteArray × Int × Bool × ByteArray × Int) ⊕ (ByteArray × ByteArray × Int))
  | 0, _, _, _, _ => none
  | j + 1, s2, s3, a4, a5 => f20.l10.step k (fun s2 s3 a4 a5 => f20.l10 k j s2 s3 a4 a5) some s2 s3 a4 a5
def f20.l10.w {R : Type} : ((ByteArray × Int × Bool × ByteArray × Int) ⊕ (ByteArray × ByteArray × Int)) → (Exit → St env → Option R) → Option R := fun x K => Sum.elim (fun t22 => K .ret ⟨fullT [0, 2, 3, 4, 5] 0 71 [.v (.c (.s (.string t22.1))), .v (.c (.s (.int .i64 t22.2.1))), .v (.c (.s (.bool t22.2.2.1))), .v (.c (.s (.string t22.2.2.2.1))), .v (.c (.s (.int .i64 t22.2.2.2.2)))], [], 1057⟩) (fun t23 => K (.exit 0) ⟨fullT [0, 4, 5] 0 71 [.v (.c (.s (.string t23.1))), .v (.c (.s (.string t23.2.1))), .v (.c (.s (.int .i64 t23.2.2)))], [], 1057⟩) x
def f20.l10.st (s2 : ByteArray) (s3 : ByteArray) (a4 : Int) (a5 : Int) : St env := ⟨fullT [0, 4, 5, 6] 0 71 [.v (.c (.s (.string s2))), .v (.c (.s (.string s3))), .v (.c (.s (.int .i64 a4))), .v (.c (.s (.int .i64 a5)))], [], 609⟩
def f20.l10_1.step {R : Type} (k : Nat) (rec_ : ByteArray → ByteArray → Int → Int → Option R) (ret : ((ByteArray × Int × Bool × ByteArray × Int) ⊕ (ByteArray × ByteArray × Int)) → Option R) (s10 : ByteArray) (s11 : ByteArray) (a12 : Int) (a13 : Int) : Option R :=
  if (decide (a13 < (((ByteArray.size s11) : Nat) : Int))) = true then
    if (0 : Int) ≤ a13 then
      if a13 < ((ByteArray.size s11 : Nat) : Int) then
        if (decide ((bt s11 a13) < (48 : Int))) = false then
          if (0 : Int) ≤ a13 then
            if a13 < ((ByteArray.size s11 : Nat) : Int) then
              if (decide ((bt s11 a13) > (57 : Int))) = true then
                ret (.inl (s10, (0 : Int), false, s11, a12))
              else
                if (0 : Int) ≤ a13 then
                  if a13 < ((ByteArray.size s11 : Nat) : Int) then
                    rec_ s10 s11 (IntKind.i64.wrap ((IntKind.i64.wrap ((10 : Int) * a12)) + (IntKind.i64.wrap (IntKind.u8.wrap ((bt s11 a13) - (48 : Int)))))) (IntKind.i64.wrap (a13 + (1 : Int)))
                  else none
                else none
            else none
          else none
        else
          ret (.inl (s10, (0 : Int), false, s11, a12))
      else none
    else none
  else
    ret (.inr (s10, s11, a12))
def f20.l10_1 (k : Nat) : Nat → ByteArray → ByteArray → Int → Int → Option ((ByteArray × Int × Bool × ByteArray × Int) ⊕ (ByteArray × ByteArray × Int))
  | 0, _, _, _, _ => none
  | j + 1, s10, s11, a12, a13 => f20.l10_1.step k (fun s10 s11 a12 a13 => f20.l10_1 k j s10 s11 a12 a13) some s10 s11 a12 a13
def f20.l10_1.w {R : Type} : ((ByteArray × Int × Bool × ByteArray × Int) ⊕ (ByteArray × ByteArray × Int)) → (Exit → St env → Option R) → Option R := fun x K => Sum.elim (fun t24 => K .ret ⟨fullT [0, 2, 3, 4, 5] 0 71 [.v (.c (.s (.string t24.1))), .v (.c (.s (.int .i64 t24.2.1))), .v (.c (.s (.bool t24.2.2.1))), .v (.c (.s (.string t24.2.2.2.1))), .v (.c (.s (.int .i64 t24.2.2.2.2)))], [], 1009⟩) (fun t25 => K (.exit 0) ⟨fullT [0, 4, 5] 0 71 [.v (.c (.s (.string t25.1))), .v (.c (.s (.string t25.2.1))), .v (.c (.s (.int .i64 t25.2.2)))], [], 1009⟩) x
def f20.l10_1.st (s10 : ByteArray) (s11 : ByteArray) (a12 : Int) (a13 : Int) : St env := ⟨fullT [0, 4, 5, 6] 0 71 [.v (.c (.s (.string s10))), .v (.c (.s (.string s11))), .v (.c (.s (.int .i64 a12))), .v (.c (.s (.int .i64 a13)))], [], 561⟩
def f20.l10_1.hd (k : Nat) (ts_ : List (AV env)) (mm_ : Mem env) (n_ : Nat) : LCl env :=
  gTs LCl.no [0, 4, 5, 6] 71 ts_ fun l_ => gV LCl.no l_ fun a_ l_ => rV LCl.no a_ fun v_ => vS LCl.no v_ fun s10 => gV LCl.no l_ fun a_ l_ => rV LCl.no a_ fun v_ => vS LCl.no v_ fun s11 => gV LCl.no l_ fun a_ l_ => rV LCl.no a_ fun v_ => vI LCl.no .i64 v_ fun a12 => gV LCl.no l_ fun a_ l_ => rV LCl.no a_ fun v_ => vI LCl.no .i64 v_ fun a13 => gE LCl.no l_ <| gE LCl.no mm_ <| gN LCl.no 561 n_ { α := (ByteArray × Int × Bool × ByteArray × Int) ⊕ (ByteArray × ByteArray × Int), o := f20.l10_1 k k s10 s11 a12 a13, w := f20.l10_1.w }
def f20.l10.hd (k : Nat) (ts_ : List (AV env)) (mm_ : Mem env) (n_ : Nat) : LCl env :=
  gTs (f20.l10_1.hd k ts_ mm_ n_) [0, 4, 5, 6] 71 ts_ fun l_ => gV (f20.l10_1.hd k ts_ mm_ n_) l_ fun a_ l_ => rV (f20.l10_1.hd k ts_ mm_ n_) a_ fun v_ => vS (f20.l10_1.hd k ts_ mm_ n_) v_ fun s2 => gV (f20.l10_1.hd k ts_ mm_ n_) l_ fun a_ l_ => rV (f20.l10_1.hd k ts_ mm_ n_) a_ fun v_ => vS (f20.l10_1.hd k ts_ mm_ n_) v_ fun s3 => gV (f20.l10_1.hd k ts_ mm_ n_) l_ fun a_ l_ => rV (f20.l10_1.hd k ts_ mm_ n_) a_ fun v_ => vI (f20.l10_1.hd k ts_ mm_ n_) .i64 v_ fun a4 => gV (f20.l10_1.hd k ts_ mm_ n_) l_ fun a_ l_ => rV (f20.l10_1.hd k ts_ mm_ n_) a_ fun v_ => vI (f20.l10_1.hd k ts_ mm_ n_) .i64 v_ fun a5 => gE (f20.l10_1.hd k ts_ mm_ n_) l_ <| gE (f20.l10_1.hd k ts_ mm_ n_) mm_ <| gN (f20.l10_1.hd k ts_ mm_ n_) 609 n_ { α := (ByteArray × Int × Bool × ByteArray × Int) ⊕ (ByteArray × ByteArray × Int), o := f20.l10 k k s2 s3 a4 a5, w := f20.l10.w }
def f20.step {R : Type} (k : Nat) (ret : (Int × Bool) → Option R) (s1 : ByteArray) : Option R :=
  if (decide ((((ByteArray.size s1) : Nat) : Int) > (0 : Int))) = true then
    if (0 : Int) < ((ByteArray.size s1 : Nat) : Int) then
      if (decide ((bt s1 (0 : Int)) = (45 : Int))) = true then
        if (1 : Int) ≤ ((ByteArray.size s1 : Nat) : Int) then
          if ((ByteArray.size s1 : Nat) : Int) ≤ ((ByteArray.size s1 : Nat) : Int) then
            if (decide ((((ByteArray.size (ByteArray.extract s1 1 (Int.toNat ((ByteArray.size s1 : Nat) : Int)))) : Nat) : Int) < (1 : Int))) = false then
              if (decide ((((ByteArray.size (ByteArray.extract s1 1 (Int.toNat ((ByteArray.size s1 : Nat) : Int)))) : Nat) : Int) > (18 : Int))) = true then
                ret ((0 : Int), false)
              else
                if (0 : Int) < ((ByteArray.size (ByteArray.extract s1 1 (Int.toNat ((ByteArray.size s1 : Nat) : Int))) : Nat) : Int) then
                  if (decide ((bt (ByteArray.extract s1 1 (Int.toNat ((ByteArray.size s1 : Nat) : Int))) (0 : Int)) = (48 : Int))) = true then
                    if (decide ((((ByteArray.size (ByteArray.extract s1 1 (Int.toNat ((ByteArray.size s1 : Nat) : Int)))) : Nat) : Int) > (1 : Int))) = false then
                      if (decide ((((ByteArray.size s1) : Nat) : Int) > (1 : Int))) = true then
                        ret ((0 : Int), false)
                      else
                        (f20.l10 k k s1 (ByteArray.extract s1 1 (Int.toNat ((ByteArray.size s1 : Nat) : Int))) (0 : Int) (0 : Int)).bind (Sum.elim (fun t6 => ret (t6.2.1, t6.2.2.1)) (fun t7 => if (decide ((((ByteArray.size t7.2.1) : Nat) : Int) < (((ByteArray.size t7.1) : Nat) : Int))) = true then
                            ret ((IntKind.i64.wrap (0 - t7.2.2)), true)
                          else
                            ret (t7.2.2, true)))
                    else
                      ret ((0 : Int), false)
                  else
                    (f20.l10 k k s1 (ByteArray.extract s1 1 (Int.toNat ((ByteArray.size s1 : Nat) : Int))) (0 : Int) (0 : Int)).bind (Sum.elim (fun t8 => ret (t8.2.1, t8.2.2.1)) (fun t9 => if (decide ((((ByteArray.size t9.2.1) : Nat) : Int) < (((ByteArray.size t9.1) : Nat) : Int))) = true then
                        ret ((IntKind.i64.wrap (0 - t9.2.2)), true)
                      else
                        ret (t9.2.2, true)))
                else none
            else
              ret ((0 : Int), false)
          else none
        else none
      else
        if (decide ((((ByteArray.size s1) : Nat) : Int) < (1 : Int))) = false then
          if (decide ((((ByteArray.size s1) : Nat) : Int) > (18 : Int))) = true then
            ret ((0 : Int), false)
          else
            if (0 : Int) < ((ByteArray.size s1 : Nat) : Int) then
              if (decide ((bt s1 (0 : Int)) = (48 : Int))) = true then
                if (decide ((((ByteArray.size s1) : Nat) : Int) > (1 : Int))) = false then
                  if (decide ((((ByteArray.size s1) : Nat) : Int) > (1 : Int))) = true then
                    ret ((0 : Int), false)
                  else
                    (f20.l10_1 k k s1 s1 (0 : Int) (0 : Int)).bind (Sum.elim (fun t14 => ret (t14.2.1, t14.2.2.1)) (fun t15 => if (decide ((((ByteArray.size t15.2.1) : Nat) : Int) < (((ByteArray.size t15.1) : Nat) : Int))) = true then
                        ret ((IntKind.i64.wrap (0 - t15.2.2)), true)
                      else
                        ret (t15.2.2, true)))
                else
                  ret ((0 : Int), false)
              else
                (f20.l10_1 k k s1 s1 (0 : Int) (0 : Int)).bind (Sum.elim (fun t16 => ret (t16.2.1, t16.2.2.1)) (fun t17 => if (decide ((((ByteArray.size t17.2.1) : Nat) : Int) < (((ByteArray.size t17.1) : Nat) : Int))) = true then
                    ret ((IntKind.i64.wrap (0 - t17.2.2)), true)
                  else
                    ret (t17.2.2, true)))
            else none
        else
          ret ((0 : Int), false)
    else none
  else
    if (decide ((((ByteArray.size s1) : Nat) : Int) < (1 : Int))) = false then
      if (decide ((((ByteArray.size s1) : Nat) : Int) > (18 : Int))) = true then
        ret ((0 : Int), false)
      else
        if (0 : Int) < ((ByteArray.size s1 : Nat) : Int) then
          if (decide ((bt s1 (0 : Int)) = (48 : Int))) = true then
            if (decide ((((ByteArray.size s1) : Nat) : Int) > (1 : Int))) = false then
              if (decide ((((ByteArray.size s1) : Nat) : Int) > (1 : Int))) = true then
                ret ((0 : Int), false)
              else
                (f20.l10_1 k k s1 s1 (0 : Int) (0 : Int)).bind (Sum.elim (fun t18 => ret (t18.2.1, t18.2.2.1)) (fun t19 => if (decide ((((ByteArray.size t19.2.1) : Nat) : Int) < (((ByteArray.size t19.1) : Nat) : Int))) = true then
                    ret ((IntKind.i64.wrap (0 - t19.2.2)), true)
                  else
                    ret (t19.2.2, true)))
            else
              ret ((0 : Int), false)
          else
            (f20.l10_1 k k s1 s1 (0 : Int) (0 : Int)).bind (Sum.elim (fun t20 => ret (t20.2.1, t20.2.2.1)) (fun t21 => if (decide ((((ByteArray.size t21.2.1) : Nat) : Int) < (((ByteArray.size t21.1) : Nat) : Int))) = true then
                ret ((IntKind.i64.wrap (0 - t21.2.2)), true)
              else
                ret (t21.2.2, true)))
        else none
    else
      ret ((0 : Int), false)
def f20 (k : Nat) (s1 : ByteArray) : Option (Int × Bool) := f20.step k some s1
def f20.w {R : Type} : (Int × Bool) → (Res env → Option R) → Option R := fun t26 K => K ⟨.tup [.c (.s (.int .i64 t26.1)), .c (.s (.bool t26.2))], [[]]⟩
theorem f20.wn (x : (Int × Bool)) : ∃ res, ∀ {R : Type} (K : Res env → Option R), f20.w x K = K res := by
  exact ⟨_, fun _ => rfl⟩
def f20.hd (k : Nat) (ps_ : List (P2 env)) : Cl env :=
  gC Cl.no ps_ fun p_ ps_ => qC Cl.no p_ fun c_ => qS Cl.no c_ fun v_ => vS Cl.no v_ fun s1 => gE Cl.no ps_ <| { α := Int × Bool, o := f20 k s1, w := f20.w, nat := fun x _ => f20.wn x }
def f20.e (k : Nat) : Entry env := ⟨f20.hd k, [], []⟩
def f20.X (k : Nat) : Ctx env := { C := lookE [], L := lookE [(10, fun S => f20.l10.hd k S.ts S.m S.n)], J := lookE [], keep := lookD [(10, [0, 4, 5, 6])], keepX := lookD [(10, [0, 2, 3, 4, 5])], span := lookN [(10, 448)], eff := fun n => memN n [], prep := lookP [], np := 0 }
theorem f20.l10_1.nat {R : Type} (k : Nat) (rec_ : ByteArray → ByteArray → Int → Int → Option ((ByteArray × Int × Bool × ByteArray × Int) ⊕ (ByteArray × ByteArray × Int))) (g : ((ByteArray × Int × Bool × ByteArray × Int) ⊕ (ByteArray × ByteArray × Int)) → Option R) (s10 : ByteArray) (s11 : ByteArray) (a12 : Int) (a13 : Int) : (f20.l10_1.step k rec_ some s10 s11 a12 a13).bind g = f20.l10_1.step k (fun s10 s11 a12 a13 => (rec_ s10 s11 a12 a13).bind g) g s10 s11 a12 a13 := by
  simp only [f20.l10_1.step, bind_ite, bind_sum, Option.bind_assoc, Option.bind_some, Option.bind_none]
theorem f20.l10_1.good (k : Nat) (s10 : ByteArray) (s11 : ByteArray) (a12 : Int) (a13 : Int) : GoodL (f20.X k) (nthC 0 (loopsOf (bodyOf Tryd.f20))) (f20.l10_1.st s10 s11 a12 a13) { α := ((ByteArray × Int × Bool × ByteArray × Int) ⊕ (ByteArray × ByteArray × Int)), o := f20.l10_1 k k s10 s11 a12 a13, w := f20.l10_1.w } :=
  loop_good (ι := ByteArray × ByteArray × Int × Int) (α := ((ByteArray × Int × Bool × ByteArray × Int) ⊕ (ByteArray × ByteArray × Int))) (fun i => f20.l10_1.st i.1 i.2.1 i.2.2.1 i.2.2.2) (fun j i => f20.l10_1 k j i.1 i.2.1 i.2.2.1 i.2.2.2) f20.l10_1.w (fun rec_ ret i => f20.l10_1.step k (fun s10 s11 a12 a13 => rec_ (s10, s11, a12, a13)) ret i.1 i.2.1 i.2.2.1 i.2.2.2)
    (fun _ => rfl) (fun _ _ => rfl) (fun rec_ g i => f20.l10_1.nat k _ g i.1 i.2.1 i.2.2.1 i.2.2.2) (fun {R} i0 i rec_ K => by kernel_rfl) k (s10, s11, a12, a13)
theorem f20.l10_1.all (k : Nat) (S : St env) : GoodL (f20.X k) (nthC 0 (loopsOf (bodyOf Tryd.f20))) S (f20.l10_1.hd k S.ts S.m S.n) := by
  obtain ⟨ts_, m_, n_⟩ := S
  show GoodL _ _ _ (f20.l10_1.hd k ts_ m_ n_)
  unfold f20.l10_1.hd
  refine gTs_ok (p := GoodL _ _ _) goodL_no fun _ h => ?_
  subst h
  refine gV_ok (p := GoodL _ _ _) goodL_no fun _ _ h => ?_
  subst h
  refine rV_ok (p := GoodL _ _ _) goodL_no fun _ h => ?_
  subst h
  refine vS_ok (p := GoodL _ _ _) goodL_no fun _ h => ?_
  subst h
  refine gV_ok (p := GoodL _ _ _) goodL_no fun _ _ h => ?_
  subst h
  refine rV_ok (p := GoodL _ _ _) goodL_no fun _ h => ?_
  subst h
  refine vS_ok (p := GoodL _ _ _) goodL_no fun _ h => ?_
  subst h
  refine gV_ok (p := GoodL _ _ _) goodL_no fun _ _ h => ?_
  subst h
  refine rV_ok (p := GoodL _ _ _) goodL_no fun _ h => ?_
  subst h
  refine vI_ok (p := GoodL _ _ _) goodL_no fun _ h => ?_
  subst h
  refine gV_ok (p := GoodL _ _ _) goodL_no fun _ _ h => ?_
  subst h
  refine rV_ok (p := GoodL _ _ _) goodL_no fun _ h => ?_
  subst h
  refine vI_ok (p := GoodL _ _ _) goodL_no fun _ h => ?_
  subst h
  refine gE_ok (p := GoodL _ _ _) goodL_no fun h => ?_
  subst h
  refine gE_ok (p := GoodL _ _ _) goodL_no fun h => ?_
  subst h
  refine gN_ok (p := GoodL _ _ _) goodL_no fun h => ?_
  subst h
  exact f20.l10_1.good k _ _ _ _
theorem f20.l10.nat {R : Type} (k : Nat) (rec_ : ByteArray → ByteArray → Int → Int → Option ((ByteArray × Int × Bool × ByteArray × Int) ⊕ (ByteArray × ByteArray × Int))) (g : ((ByteArray × Int × Bool × ByteArray × Int) ⊕ (ByteArray × ByteArray × Int)) → Option R) (s2 : ByteArray) (s3 : ByteArray) (a4 : Int) (a5 : Int) : (f20.l10.step k rec_ some s2 s3 a4 a5).bind g = f20.l10.step k (fun s2 s3 a4 a5 => (rec_ s2 s3 a4 a5).bind g) g s2 s3 a4 a5 := by
  simp only [f20.l10.step, bind_ite, bind_sum, Option.bind_assoc, Option.bind_some, Option.bind_none]
theorem f20.l10.good (k : Nat) (s2 : ByteArray) (s3 : ByteArray) (a4 : Int) (a5 : Int) : GoodL (f20.X k) (nthC 0 (loopsOf (bodyOf Tryd.f20))) (f20.l10.st s2 s3 a4 a5) { α := ((ByteArray × Int × Bool × ByteArray × Int) ⊕ (ByteArray × ByteArray × Int)), o := f20.l10 k k s2 s3 a4 a5, w := f20.l10.w } :=
  loop_good (ι := ByteArray × ByteArray × Int × Int) (α := ((ByteArray × Int × Bool × ByteArray × Int) ⊕ (ByteArray × ByteArray × Int))) (fun i => f20.l10.st i.1 i.2.1 i.2.2.1 i.2.2.2) (fun j i => f20.l10 k j i.1 i.2.1 i.2.2.1 i.2.2.2) f20.l10.w (fun rec_ ret i => f20.l10.step k (fun s2 s3 a4 a5 => rec_ (s2, s3, a4, a5)) ret i.1 i.2.1 i.2.2.1 i.2.2.2)
    (fun _ => rfl) (fun _ _ => rfl) (fun rec_ g i => f20.l10.nat k _ g i.1 i.2.1 i.2.2.1 i.2.2.2) (fun {R} i0 i rec_ K => by kernel_rfl) k (s2, s3, a4, a5)
theorem f20.l10.all (k : Nat) (S : St env) : GoodL (f20.X k) (nthC 0 (loopsOf (bodyOf Tryd.f20))) S (f20.l10.hd k S.ts S.m S.n) := by
  obtain ⟨ts_, m_, n_⟩ := S
  have hN_ := f20.l10_1.all k ⟨ts_, m_, n_⟩
  show GoodL _ _ _ (f20.l10.hd k ts_ m_ n_)
  unfold f20.l10.hd
  refine gTs_ok (p := GoodL _ _ _) hN_ fun _ h => ?_
  subst h
  refine gV_ok (p := GoodL _ _ _) hN_ fun _ _ h => ?_
  subst h
  refine rV_ok (p := GoodL _ _ _) hN_ fun _ h => ?_
  subst h
  refine vS_ok (p := GoodL _ _ _) hN_ fun _ h => ?_
  subst h
  refine gV_ok (p := GoodL _ _ _) hN_ fun _ _ h => ?_
  subst h
  refine rV_ok (p := GoodL _ _ _) hN_ fun _ h => ?_
  subst h
  refine vS_ok (p := GoodL _ _ _) hN_ fun _ h => ?_
  subst h
  refine gV_ok (p := GoodL _ _ _) hN_ fun _ _ h => ?_
  subst h
  refine rV_ok (p := GoodL _ _ _) hN_ fun _ h => ?_
  subst h
  refine vI_ok (p := GoodL _ _ _) hN_ fun _ h => ?_
  subst h
  refine gV_ok (p := GoodL _ _ _) hN_ fun _ _ h => ?_
  subst h
  refine rV_ok (p := GoodL _ _ _) hN_ fun _ h => ?_
  subst h
  refine vI_ok (p := GoodL _ _ _) hN_ fun _ h => ?_
  subst h
  refine gE_ok (p := GoodL _ _ _) hN_ fun h => ?_
  subst h
  refine gE_ok (p := GoodL _ _ _) hN_ fun h => ?_
  subst h
  refine gN_ok (p := GoodL _ _ _) hN_ fun h => ?_
  subst h
  exact f20.l10.good k _ _ _ _
theorem f20.nat {R : Type} (k : Nat) (g : (Int × Bool) → Option R) (s1 : ByteArray) : f20.step k g s1 = (f20 k s1).bind g := by
  simp only [f20, f20.step, bind_ite, bind_sum, Option.bind_assoc, Option.bind_some, Option.bind_none]
theorem f20.ev (k : Nat) (s1 : ByteArray) : evF (f20.X k) (bodyOf Tryd.f20) Tryd.f20.ntmps Tryd.f20.results.toList [.v (.c (.s (.string s1)))] = f20.step k (fun x => f20.w x some) s1 := by kernel_rfl
theorem f20.hok (k : Nat) : HOK (f20.X k) (bodyOf Tryd.f20) where
  l := allP_mem (by exact ⟨ls_of (h0 := fun S => f20.l10.hd k S.ts S.m S.n) (by kernel_rfl) (f20.l10.all k), trivial⟩)
  j := allP_mem (by exact trivial)
theorem f20.sound (k : Nat) : SoundC env Tryd.prog 20 ((f20.e k).F) := by
  intro ps_
  show GoodC _ _ _ ps_ (f20.hd k ps_)
  unfold f20.hd
  refine gC_ok (p := GoodC env Tryd.prog 20 _) goodC_no fun _ _ h => ?_
  subst h
  refine qC_ok (p := GoodC env Tryd.prog 20 _) goodC_no fun _ h => ?_
  subst h
  refine qS_ok (p := GoodC env Tryd.prog 20 _) goodC_no fun _ h => ?_
  subst h
  refine vS_ok (p := GoodC env Tryd.prog 20 _) goodC_no fun _ h => ?_
  subst h
  refine gE_ok (p := GoodC env Tryd.prog 20 _) goodC_no fun h => ?_
  subst h
  exact fun_good (fun_sound envOK (cs_sound _ (by exact trivial)) (f20.hok k) Tryd.func20 rfl) ((f20.ev k _).trans (f20.nat k _ _))
theorem f20.says (k : Nat) (s1 : ByteArray) (t27 : Int × Bool) (h_ : f20 k s1 = some t27) : SoundAt env Tryd.prog 20 [.v (.c (.s (.string s1)))] ⟨.tup [.c (.s (.int .i64 t27.1)), .c (.s (.bool t27.2))], [[]]⟩ :=
  fun_sound envOK (cs_sound _ (by exact trivial)) (f20.hok k) Tryd.func20 rfl _ _ (((f20.ev k s1).trans (f20.nat k _ s1)).trans (by rw [h_]; rfl))
theorem f20.fnok : FnOK Tryd.prog 20 := fn_ok Tryd.func20 (by kernel_rfl) rfl
def f21.step {R : Type} (k : Nat) (ret : Bool → Option R) (a1 : Int) (a2 : Int) (a3 : Int) : Option R :=
  if (decide (a1 ≥ a2)) = true then
    ret (decide (a1 ≤ a3))
  else
    ret false
def f21 (k : Nat) (a1 : Int) (a2 : Int) (a3 : Int) : Option Bool := f21.step k some a1 a2 a3
def f21.w {R : Type} : Bool → (Res env → Option R) → Option R := fun t4 K => K ⟨.v (.c (.s (.bool t4))), [[], [], []]⟩
theorem f21.wn (x : Bool) : ∃ res, ∀ {R : Type} (K : Res env → Option R), f21.w x K = K res := by
  exact ⟨_, fun _ => rfl⟩
def f21.hd (k : Nat) (ps_ : List (P2 env)) : Cl env :=
  gC Cl.no ps_ fun p_ ps_ => qC Cl.no p_ fun c_ => qS Cl.no c_ fun v_ => vI Cl.no .i64 v_ fun a1 => gC Cl.no ps_ fun p_ ps_ => qC Cl.no p_ fun c_ => qS Cl.no c_ fun v_ => vI Cl.no .i64 v_ fun a2 => gC Cl.no ps_ fun p_ ps_ => qC Cl.no p_ fun c_ => qS Cl.no c_ fun v_ => vI Cl.no .i64 v_ fun a3 => gE Cl.no ps_ <| { α := Bool, o := f21 k a1 a2 a3, w := f21.w, nat := fun x _ => f21.wn x }
def f21.e (k : Nat) : Entry env := ⟨f21.hd k, [], []⟩
def f21.X (k : Nat) : Ctx env := { C := lookE [], L := lookE [], J := lookE [], keep := lookD [], keepX := lookD [], span := lookN [], eff := fun n => memN n [], prep := lookP [], np := 0 }
theorem f21.nat {R : Type} (k : Nat) (g : Bool → Option R) (a1 : Int) (a2 : Int) (a3 : Int) : f21.step k g a1 a2 a3 = (f21 k a1 a2 a3).bind g := by
  simp only [f21, f21.step, bind_ite, bind_sum, Option.bind_assoc, Option.bind_some, Option.bind_none]
theorem f21.ev (k : Nat) (a1 : Int) (a2 : Int) (a3 : Int) : evF (f21.X k) (bodyOf Tryd.f21) Tryd.f21.ntmps Tryd.f21.results.toList [.v (.c (.s (.int .i64 a1))), .v (.c (.s (.int .i64 a2))), .v (.c (.s (.int .i64 a3)))] = f21.step k (fun x => f21.w x some) a1 a2 a3 := by kernel_rfl
theorem f21.hok (k : Nat) : HOK (f21.X k) (bodyOf Tryd.f21) where
  l := allP_mem (by exact trivial)
  j := allP_mem (by exact trivial)
theorem f21.sound (k : Nat) : SoundC env Tryd.prog 21 ((f21.e k).F) := by
  intro ps_
  show GoodC _ _ _ ps_ (f21.hd k ps_)
  unfold f21.hd
  refine gC_ok (p := GoodC env Tryd.prog 21 _) goodC_no fun _ _ h => ?_
  subst h
  refine qC_ok (p := GoodC env Tryd.prog 21 _) goodC_no fun _ h => ?_
  subst h
  refine qS_ok (p := GoodC env Tryd.prog 21 _) goodC_no fun _ h => ?_
  subst h
  refine vI_ok (p := GoodC env Tryd.prog 21 _) goodC_no fun _ h => ?_
  subst h
  refine gC_ok (p := GoodC env Tryd.prog 21 _) goodC_no fun _ _ h => ?_
  subst h
  refine qC_ok (p := GoodC env Tryd.prog 21 _) goodC_no fun _ h => ?_
  subst h
  refine qS_ok (p := GoodC env Tryd.prog 21 _) goodC_no fun _ h => ?_
  subst h
  refine vI_ok (p := GoodC env Tryd.prog 21 _) goodC_no fun _ h => ?_
  subst h
  refine gC_ok (p := GoodC env Tryd.prog 21 _) goodC_no fun _ _ h => ?_
  subst h
  refine qC_ok (p := GoodC env Tryd.prog 21 _) goodC_no fun _ h => ?_
  subst h
  refine qS_ok (p := GoodC env Tryd.prog 21 _) goodC_no fun _ h => ?_
  subst h
  refine vI_ok (p := GoodC env Tryd.prog 21 _) goodC_no fun _ h => ?_
  subst h
  refine gE_ok (p := GoodC env Tryd.prog 21 _) goodC_no fun h => ?_
  subst h
  exact fun_good (fun_sound envOK (cs_sound _ (by exact trivial)) (f21.hok k) Tryd.func21 rfl) ((f21.ev k _ _ _).trans (f21.nat k _ _ _ _))
theorem f21.says (k : Nat) (a1 : Int) (a2 : Int) (a3 : Int) (t5 : Bool) (h_ : f21 k a1 a2 a3 = some t5) : SoundAt env Tryd.prog 21 [.v (.c (.s (.int .i64 a1))), .v (.c (.s (.int .i64 a2))), .v (.c (.s (.int .i64 a3)))] ⟨.v (.c (.s (.bool t5))), [[], [], []]⟩ :=
  fun_sound envOK (cs_sound _ (by exact trivial)) (f21.hok k) Tryd.func21 rfl _ _ (((f21.ev k a1 a2 a3).trans (f21.nat k _ a1 a2 a3)).trans (by rw [h_]; rfl))
theorem f21.fnok : FnOK Tryd.prog 21 := fn_ok Tryd.func21 (by kernel_rfl) rfl
def f16.l6.step {R : Type} (k : Nat) (rec_ : Int → Int → (List ByteArray) → (List Int) → Option R) (ret : ((ByteArray × Bool × (List Int)) ⊕ ((List Int))) → Option R) (a3 : Int) (a4 : Int) (xs5 : List ByteArray) (xs6 : List Int) : Option R :=
  if (decide (a4 < a3)) = true then
    if (0 : Int) ≤ a4 then
      if a4 < ((List.length xs5 : Nat) : Int) then
        (f20 k (List.getD xs5 (Int.toNat a4) ByteArray.empty)).bind fun t7 => if (!t7.2) = false then
            (f21 k t7.1 (0 : Int) (255 : Int)).bind fun t8 => if (!t8) = true then
                ret (.inl ((⟨#[]⟩ : ByteArray), false, xs6))
              else
                if (0 : Int) ≤ a4 then
                  if a4 < ((List.length xs6 : Nat) : Int) then
                    rec_ a3 (IntKind.i64.wrap (a4 + (1 : Int))) xs5 (List.set xs6 (Int.toNat a4) (IntKind.u8.wrap t7.1))
                  else none
                else none
          else
            ret (.inl ((⟨#[]⟩ : ByteArray), false, xs6))
      else none
    else none
  else
    ret (.inr xs6)
def f16.l6 (k : Nat) : Nat → Int → Int → (List ByteArray) → (List Int) → Option ((ByteArray × Bool × (List Int)) ⊕ ((List Int)))
  | 0, _, _, _, _ => none
  | j + 1, a3, a4, xs5, xs6 => f16.l6.step k (fun a3 a4 xs5 xs6 => f16.l6 k j a3 a4 xs5 xs6) some a3 a4 xs5 xs6
def f16.l6.w {R : Type} : ((ByteArray × Bool × (List Int)) ⊕ ((List Int))) → (Exit → St env → Option R) → Option R := fun x K => Sum.elim (fun t11 => K .ret ⟨fullT [2, 3, 5] 0 43 [.v (.c (.s (.string t11.1))), .v (.c (.s (.bool t11.2.1))), .v (.c (.row 129))], [(129, .row true 5 t11.2.2)], 689⟩) (fun t12 => K (.exit 0) ⟨fullT [5] 0 43 [.v (.c (.row 129))], [(129, .row true 5 t12)], 689⟩) x
def f16.l6.st (a3 : Int) (a4 : Int) (xs5 : List ByteArray) (xs6 : List Int) : St env := ⟨fullT [5, 16, 17, 18] 0 43 [.v (.c (.row 129)), .v (.c (.row 49)), .v (.c (.s (.int .i64 a3))), .v (.c (.s (.int .i64 a4)))], [(49, .row true 9 xs5), (129, .row true 5 xs6)], 209⟩
def f16.l6.hd (k : Nat) (ts_ : List (AV env)) (mm_ : Mem env) (n_ : Nat) : LCl env :=
  gTs LCl.no [5, 16, 17, 18] 43 ts_ fun l_ => gV LCl.no l_ fun a_ l_ => rRow LCl.no 129 a_ <| gV LCl.no l_ fun a_ l_ => rRow LCl.no 49 a_ <| gV LCl.no l_ fun a_ l_ => rV LCl.no a_ fun v_ => vI LCl.no .i64 v_ fun a3 => gV LCl.no l_ fun a_ l_ => rV LCl.no a_ fun v_ => vI LCl.no .i64 v_ fun a4 => gE LCl.no l_ <| mRow LCl.no 49 true 9 mm_ fun xs5 m_ => mRow LCl.no 129 true 5 m_ fun xs6 m_ => gE LCl.no m_ <| gN LCl.no 209 n_ { α := (ByteArray × Bool × (List Int)) ⊕ ((List Int)), o := f16.l6 k k a3 a4 xs5 xs6, w := f16.l6.w }
def f16.step {R : Type} (k : Nat) (ret : (ByteArray × Bool) → Option R) (s1 : ByteArray) : Option R :=
  (f36 k s1 (⟨#[46]⟩ : ByteArray)).bind fun t2 => if (decide ((((List.length t2) : Nat) : Int) ≠ (4 : Int))) = true then
      ret ((⟨#[]⟩ : ByteArray), false)
    else
      (f16.l6 k k (((List.length t2) : Nat) : Int) (0 : Int) t2 (List.replicate 4 (0 : Int))).bind (Sum.elim (fun t9 => ret (t9.1, t9.2.1)) (fun t10 => ret ((strOf t10), true)))
def f16 (k : Nat) (s1 : ByteArray) : Option (ByteArray × Bool) := f16.step k some s1
def f16.w {R : Type} : (ByteArray × Bool) → (Res env → Option R) → Option R := fun t13 K => K ⟨.tup [.c (.s (.string t13.1)), .c (.s (.bool t13.2))], [[]]⟩
theorem f16.wn (x : (ByteArray × Bool)) : ∃ res, ∀ {R : Type} (K : Res env → Option R), f16.w x K = K res := by
  exact ⟨_, fun _ => rfl⟩
def f16.hd (k : Nat) (ps_ : List (P2 env)) : Cl env :=
  gC Cl.no ps_ fun p_ ps_ => qC Cl.no p_ fun c_ => qS Cl.no c_ fun v_ => vS Cl.no v_ fun s1 => gE Cl.no ps_ <| { α := ByteArray × Bool, o := f16 k s1, w := f16.w, nat := fun x _ => f16.wn x }
def f16.e (k : Nat) : Entry env := ⟨f16.hd k, [], []⟩
def f16.X (k : Nat) : Ctx env := { C := lookE [(20, f20.e k), (21, f21.e k), (36, f36.e k)], L := lookE [(6, fun S => f16.l6.hd k S.ts S.m S.n)], J := lookE [], keep := lookD [(6, [5, 16, 17, 18])], keepX := lookD [(6, [2, 3, 5])], span := lookN [(6, 480)], eff := fun n => memN n [], prep := lookP [], np := 0 }
theorem f16.l6.nat {R : Type} (k : Nat) (rec_ : Int → Int → (List ByteArray) → (List Int) → Option ((ByteArray × Bool × (List Int)) ⊕ ((List Int)))) (g : ((ByteArray × Bool × (List Int)) ⊕ ((List Int))) → Option R) (a3 : Int) (a4 : Int) (xs5 : List ByteArray) (xs6 : List Int) : (f16.l6.step k rec_ some a3 a4 xs5 xs6).bind g = f16.l6.step k (fun a3 a4 xs5 xs6 => (rec_ a3 a4 xs5 xs6).bind g) g a3 a4 xs5 xs6 := by
  simp only [f16.l6.step, bind_ite, bind_sum, Option.bind_assoc, Option.bind_some, Option.bind_none]
theorem f16.l6.good (k : Nat) (a3 : Int) (a4 : Int) (xs5 : List ByteArray) (xs6 : List Int) : GoodL (f16.X k) (nthC 0 (loopsOf (bodyOf Tryd.f16))) (f16.l6.st a3 a4 xs5 xs6) { α := ((ByteArray × Bool × (List Int)) ⊕ ((List Int))), o := f16.l6 k k a3 a4 xs5 xs6, w := f16.l6.w } :=
  loop_good (ι := Int × Int × (List ByteArray) × (List Int)) (α := ((ByteArray × Bool × (List Int)) ⊕ ((List Int)))) (fun i => f16.l6.st i.1 i.2.1 i.2.2.1 i.2.2.2) (fun j i => f16.l6 k j i.1 i.2.1 i.2.2.1 i.2.2.2) f16.l6.w (fun rec_ ret i => f16.l6.step k (fun a3 a4 xs5 xs6 => rec_ (a3, a4, xs5, xs6)) ret i.1 i.2.1 i.2.2.1 i.2.2.2)
    (fun _ => rfl) (fun _ _ => rfl) (fun rec_ g i => f16.l6.nat k _ g i.1 i.2.1 i.2.2.1 i.2.2.2) (fun {R} i0 i rec_ K => by kernel_rfl) k (a3, a4, xs5, xs6)
theorem f16.l6.all (k : Nat) (S : St env) : GoodL (f16.X k) (nthC 0 (loopsOf (bodyOf Tryd.f16))) S (f16.l6.hd k S.ts S.m S.n) := by
  obtain ⟨ts_, m_, n_⟩ := S
  show GoodL _ _ _ (f16.l6.hd k ts_ m_ n_)
  unfold f16.l6.hd
  refine gTs_ok (p := GoodL _ _ _) goodL_no fun _ h => ?_
  subst h
  refine gV_ok (p := GoodL _ _ _) goodL_no fun _ _ h => ?_
  subst h
  refine rRow_ok (p := GoodL _ _ _) goodL_no fun h => ?_
  subst h
  refine gV_ok (p := GoodL _ _ _) goodL_no fun _ _ h => ?_
  subst h
  refine rRow_ok (p := GoodL _ _ _) goodL_no fun h => ?_
  subst h
  refine gV_ok (p := GoodL _ _ _) goodL_no fun _ _ h => ?_
  subst h
  refine rV_ok (p := GoodL _ _ _) goodL_no fun _ h => ?_
  subst h
  refine vI_ok (p := GoodL _ _ _) goodL_no fun _ h => ?_
  subst h
  refine gV_ok (p := GoodL _ _ _) goodL_no fun _ _ h => ?_
  subst h
  refine rV_ok (p := GoodL _ _ _) goodL_no fun _ h => ?_
  subst h
  refine vI_ok (p := GoodL _ _ _) goodL_no fun _ h => ?_
  subst h
  refine gE_ok (p := GoodL _ _ _) goodL_no fun h => ?_
  subst h
  refine mRow_ok (p := GoodL _ _ _) goodL_no fun _ _ h => ?_
  subst h
  refine mRow_ok (p := GoodL _ _ _) goodL_no fun _ _ h => ?_
  subst h
  refine gE_ok (p := GoodL _ _ _) goodL_no fun h => ?_
  subst h
  refine gN_ok (p := GoodL _ _ _) goodL_no fun h => ?_
  subst h
  exact f16.l6.good k _ _ _ _
theorem f16.nat {R : Type} (k : Nat) (g : (ByteArray × Bool) → Option R) (s1 : ByteArray) : f16.step k g s1 = (f16 k s1).bind g := by
  simp only [f16, f16.step, bind_ite, bind_sum, Option.bind_assoc, Option.bind_some, Option.bind_none]
theorem f16.ev (k : Nat) (s1 : ByteArray) : evF (f16.X k) (bodyOf Tryd.f16) Tryd.f16.ntmps Tryd.f16.results.toList [.v (.c (.s (.string s1)))] = f16.step k (fun x => f16.w x some) s1 := by kernel_rfl
theorem f16.hok (k : Nat) : HOK (f16.X k) (bodyOf Tryd.f16) where
  l := allP_mem (by exact ⟨ls_of (h0 := fun S => f16.l6.hd k S.ts S.m S.n) (by kernel_rfl) (f16.l6.all k), trivial⟩)
  j := allP_mem (by exact trivial)
theorem f16.sound (k : Nat) : SoundC env Tryd.prog 16 ((f16.e k).F) := by
  intro ps_
  show GoodC _ _ _ ps_ (f16.hd k ps_)
  unfold f16.hd
  refine gC_ok (p := GoodC env Tryd.prog 16 _) goodC_no fun _ _ h => ?_
  subst h
  refine qC_ok (p := GoodC env Tryd.prog 16 _) goodC_no fun _ h => ?_
  subst h
  refine qS_ok (p := GoodC env Tryd.prog 16 _) goodC_no fun _ h => ?_
  subst h
  refine vS_ok (p := GoodC env Tryd.prog 16 _) goodC_no fun _ h => ?_
  subst h
  refine gE_ok (p := GoodC env Tryd.prog 16 _) goodC_no fun h => ?_
  subst h
  exact fun_good (fun_sound envOK (cs_sound _ (by exact ⟨⟨f20.sound k, f20.fnok⟩, ⟨f21.sound k, f21.fnok⟩, ⟨f36.sound k, f36.fnok⟩, trivial⟩)) (f16.hok k) Tryd.func16 rfl) ((f16.ev k _).trans (f16.nat k _ _))
theorem f16.says (k : Nat) (s1 : ByteArray) (t14 : ByteArray × Bool) (h_ : f16 k s1 = some t14) : SoundAt env Tryd.prog 16 [.v (.c (.s (.string s1)))] ⟨.tup [.c (.s (.string t14.1)), .c (.s (.bool t14.2))], [[]]⟩ :=
  fun_sound envOK (cs_sound _ (by exact ⟨⟨f20.sound k, f20.fnok⟩, ⟨f21.sound k, f21.fnok⟩, ⟨f36.sound k, f36.fnok⟩, trivial⟩)) (f16.hok k) Tryd.func16 rfl _ _ (((f16.ev k s1).trans (f16.nat k _ s1)).trans (by rw [h_]; rfl))
theorem f16.fnok : FnOK Tryd.prog 16 := fn_ok Tryd.func16 (by kernel_rfl) rfl
def f60.step {R : Type} (k : Nat) (ret : Int → Option R) (a1 : Int) : Option R :=
  if (decide (a1 ≥ (48 : Int))) = true then
    if (decide (a1 ≤ (57 : Int))) = true then
      ret (IntKind.i64.wrap (IntKind.u8.wrap (a1 - (48 : Int))))
    else
      if (decide (a1 ≥ (97 : Int))) = true then
        if (decide (a1 ≤ (102 : Int))) = true then
          ret (IntKind.i64.wrap ((IntKind.i64.wrap (IntKind.u8.wrap (a1 - (97 : Int)))) + (10 : Int)))
        else
          if (decide (a1 ≥ (65 : Int))) = true then
            if (decide (a1 ≤ (70 : Int))) = true then
              ret (IntKind.i64.wrap ((IntKind.i64.wrap (IntKind.u8.wrap (a1 - (65 : Int)))) + (10 : Int)))
            else
              ret (-1 : Int)
          else
            ret (-1 : Int)
      else
        if (decide (a1 ≥ (65 : Int))) = true then
          if (decide (a1 ≤ (70 : Int))) = true then
            ret (IntKind.i64.wrap ((IntKind.i64.wrap (IntKind.u8.wrap (a1 - (65 : Int)))) + (10 : Int)))
          else
            ret (-1 : Int)
        else
          ret (-1 : Int)
  else
    if (decide (a1 ≥ (97 : Int))) = true then
      if (decide (a1 ≤ (102 : Int))) = true then
        ret (IntKind.i64.wrap ((IntKind.i64.wrap (IntKind.u8.wrap (a1 - (97 : Int)))) + (10 : Int)))
      else
        if (decide (a1 ≥ (65 : Int))) = true then
          if (decide (a1 ≤ (70 : Int))) = true then
            ret (IntKind.i64.wrap ((IntKind.i64.wrap (IntKind.u8.wrap (a1 - (65 : Int)))) + (10 : Int)))
          else
            ret (-1 : Int)
        else
          ret (-1 : Int)
    else
      if (decide (a1 ≥ (65 : Int))) = true then
        if (decide (a1 ≤ (70 : Int))) = true then
          ret (IntKind.i64.wrap ((IntKind.i64.wrap (IntKind.u8.wrap (a1 - (65 : Int)))) + (10 : Int)))
        else
          ret (-1 : Int)
      else
        ret (-1 : Int)
def f60 (k : Nat) (a1 : Int) : Option Int := f60.step k some a1
def f60.w {R : Type} : Int → (Res env → Option R) → Option R := fun t2 K => K ⟨.v (.c (.s (.int .i64 t2))), [[]]⟩
theorem f60.wn (x : Int) : ∃ res, ∀ {R : Type} (K : Res env → Option R), f60.w x K = K res := by
  exact ⟨_, fun _ => rfl⟩
def f60.hd (k : Nat) (ps_ : List (P2 env)) : Cl env :=
  gC Cl.no ps_ fun p_ ps_ => qC Cl.no p_ fun c_ => qS Cl.no c_ fun v_ => vI Cl.no .u8 v_ fun a1 => gE Cl.no ps_ <| { α := Int, o := f60 k a1, w := f60.w, nat := fun x _ => f60.wn x }
def f60.e (k : Nat) : Entry env := ⟨f60.hd k, [], []⟩
def f60.X (k : Nat) : Ctx env := { C := lookE [], L := lookE [], J := lookE [], keep := lookD [], keepX := lookD [], span := lookN [], eff := fun n => memN n [], prep := lookP [], np := 0 }
theorem f60.nat {R : Type} (k : Nat) (g : Int → Option R) (a1 : Int) : f60.step k g a1 = (f60 k a1).bind g := by
  simp only [f60, f60.step, bind_ite, bind_sum, Option.bind_assoc, Option.bind_some, Option.bind_none]
theorem f60.ev (k : Nat) (a1 : Int) : evF (f60.X k) (bodyOf Tryd.f60) Tryd.f60.ntmps Tryd.f60.results.toList [.v (.c (.s (.int .u8 a1)))] = f60.step k (fun x => f60.w x some) a1 := by kernel_rfl
theorem f60.hok (k : Nat) : HOK (f60.X k) (bodyOf Tryd.f60) where
  l := allP_mem (by exact trivial)
  j := allP_mem (by exact trivial)
theorem f60.sound (k : Nat) : SoundC env Tryd.prog 60 ((f60.e k).F) := by
  intro ps_
  show GoodC _ _ _ ps_ (f60.hd k ps_)
  unfold f60.hd
  refine gC_ok (p := GoodC env Tryd.prog 60 _) goodC_no fun _ _ h => ?_
  subst h
  refine qC_ok (p := GoodC env Tryd.prog 60 _) goodC_no fun _ h => ?_
  subst h
  refine qS_ok (p := GoodC env Tryd.prog 60 _) goodC_no fun _ h => ?_
  subst h
  refine vI_ok (p := GoodC env Tryd.prog 60 _) goodC_no fun _ h => ?_
  subst h
  refine gE_ok (p := GoodC env Tryd.prog 60 _) goodC_no fun h => ?_
  subst h
  exact fun_good (fun_sound envOK (cs_sound _ (by exact trivial)) (f60.hok k) Tryd.func60 rfl) ((f60.ev k _).trans (f60.nat k _ _))
theorem f60.says (k : Nat) (a1 : Int) (t3 : Int) (h_ : f60 k a1 = some t3) : SoundAt env Tryd.prog 60 [.v (.c (.s (.int .u8 a1)))] ⟨.v (.c (.s (.int .i64 t3))), [[]]⟩ :=
  fun_sound envOK (cs_sound _ (by exact trivial)) (f60.hok k) Tryd.func60 rfl _ _ (((f60.ev k a1).trans (f60.nat k _ a1)).trans (by rw [h_]; rfl))
theorem f60.fnok : FnOK Tryd.prog 60 := fn_ok Tryd.func60 (by kernel_rfl) rfl
def f61.step {R : Type} (k : Nat) (ret : ((List Int)) → Option R) (a1 : Int) : Option R :=
  ret ([(IntKind.u8.wrap (Int.fdiv a1 (2 ^ (min (8 : Int).toNat IntKind.i64.bits)))), (IntKind.u8.wrap a1)] : List Int)
def f61 (k : Nat) (a1 : Int) : Option ((List Int)) := f61.step k some a1
def f61.w {R : Type} : ((List Int)) → (Res env → Option R) → Option R := fun t2 K => K ⟨.v (.c (.own true 5 t2)), [[]]⟩
theorem f61.wn (x : ((List Int))) : ∃ res, ∀ {R : Type} (K : Res env → Option R), f61.w x K = K res := by
  exact ⟨_, fun _ => rfl⟩
def f61.hd (k : Nat) (ps_ : List (P2 env)) : Cl env :=
  gC Cl.no ps_ fun p_ ps_ => qC Cl.no p_ fun c_ => qS Cl.no c_ fun v_ => vI Cl.no .i64 v_ fun a1 => gE Cl.no ps_ <| { α := (List Int), o := f61 k a1, w := f61.w, nat := fun x _ => f61.wn x }
def f61.e (k : Nat) : Entry env := ⟨f61.hd k, [], []⟩
def f61.X (k : Nat) : Ctx env := { C := lookE [], L := lookE [], J := lookE [], keep := lookD [], keepX := lookD [], span := lookN [], eff := fun n => memN n [], prep := lookP [], np := 0 }
theorem f61.nat {R : Type} (k : Nat) (g : ((List Int)) → Option R) (a1 : Int) : f61.step k g a1 = (f61 k a1).bind g := by
  simp only [f61, f61.step, bind_ite, bind_sum, Option.bind_assoc, Option.bind_some, Option.bind_none]
theorem f61.ev (k : Nat) (a1 : Int) : evF (f61.X k) (bodyOf Tryd.f61) Tryd.f61.ntmps Tryd.f61.results.toList [.v (.c (.s (.int .i64 a1)))] = f61.step k (fun x => f61.w x some) a1 := by kernel_rfl
theorem f61.hok (k : Nat) : HOK (f61.X k) (bodyOf Tryd.f61) where
  l := allP_mem (by exact trivial)
  j := allP_mem (by exact trivial)
theorem f61.sound (k : Nat) : SoundC env Tryd.prog 61 ((f61.e k).F) := by
  intro ps_
  show GoodC _ _ _ ps_ (f61.hd k ps_)
  unfold f61.hd
  refine gC_ok (p := GoodC env Tryd.prog 61 _) goodC_no fun _ _ h => ?_
  subst h
  refine qC_ok (p := GoodC env Tryd.prog 61 _) goodC_no fun _ h => ?_
  subst h
  refine qS_ok (p := GoodC env Tryd.prog 61 _) goodC_no fun _ h => ?_
  subst h
  refine vI_ok (p := GoodC env Tryd.prog 61 _) goodC_no fun _ h => ?_
  subst h
  refine gE_ok (p := GoodC env Tryd.prog 61 _) goodC_no fun h => ?_
  subst h
  exact fun_good (fun_sound envOK (cs_sound _ (by exact trivial)) (f61.hok k) Tryd.func61 rfl) ((f61.ev k _).trans (f61.nat k _ _))
theorem f61.says (k : Nat) (a1 : Int) (t3 : (List Int)) (h_ : f61 k a1 = some t3) : SoundAt env Tryd.prog 61 [.v (.c (.s (.int .i64 a1)))] ⟨.v (.c (.own true 5 t3)), [[]]⟩ :=
  fun_sound envOK (cs_sound _ (by exact trivial)) (f61.hok k) Tryd.func61 rfl _ _ (((f61.ev k a1).trans (f61.nat k _ a1)).trans (by rw [h_]; rfl))
theorem f61.fnok : FnOK Tryd.prog 61 := fn_ok Tryd.func61 (by kernel_rfl) rfl
def f37.l11.step {R : Type} (k : Nat) (rec_ : ByteArray → Int → Int → Int → Int → (List Int) → (List ByteArray) → Option R) (ret : ((Bool × Int × Int × Int × (List Int) × (List ByteArray)) ⊕ (Int × Int × Int × (List Int) × (List ByteArray))) → Option R) (s7 : ByteArray) (a8 : Int) (a9 : Int) (a10 : Int) (a11 : Int) (xs12 : List Int) (xs13 : List ByteArray) : Option R :=
  if (decide (a9 < (((ByteArray.size s7) : Nat) : Int))) = true then
    if (0 : Int) ≤ a9 then
      if a9 < ((ByteArray.size s7 : Nat) : Int) then
        (f60 k (bt s7 a9)).bind fun t14 => if (decide (t14 < (0 : Int))) = true then
            ret (.inl (false, a8, a10, a11, xs12, xs13))
          else
            rec_ s7 (IntKind.i64.wrap ((IntKind.i64.wrap ((16 : Int) * a8)) + t14)) (IntKind.i64.wrap (a9 + (1 : Int))) a10 a11 xs12 xs13
      else none
    else none
  else
    ret (.inr (a8, a10, a11, xs12, xs13))
def f37.l11 (k : Nat) : Nat → ByteArray → Int → Int → Int → Int → (List Int) → (List ByteArray) → Option ((Bool × Int × Int × Int × (List Int) × (List ByteArray)) ⊕ (Int × Int × Int × (List Int) × (List ByteArray)))
  | 0, _, _, _, _, _, _, _ => none
  | j + 1, s7, a8, a9, a10, a11, xs12, xs13 => f37.l11.step k (fun s7 a8 a9 a10 a11 xs12 xs13 => f37.l11 k j s7 a8 a9 a10 a11 xs12 xs13) some s7 a8 a9 a10 a11 xs12 xs13
def f37.l11.w {R : Type} : ((Bool × Int × Int × Int × (List Int) × (List ByteArray)) ⊕ (Int × Int × Int × (List Int) × (List ByteArray))) → (Exit → St env → Option R) → Option R := fun x K => Sum.elim (fun t20 => K .ret ⟨fullT [2, 3, 4, 7, 15, 16, 17] 0 51 [.v (.c (.s (.slice none 0 0))), .v (.c (.s (.bool t20.1))), .v (.c (.row 33)), .v (.c (.s (.int .i64 t20.2.1))), .v (.c (.row 113)), .v (.c (.s (.int .i64 t20.2.2.1))), .v (.c (.s (.int .i64 t20.2.2.2.1)))], [(33, .row true 5 t20.2.2.2.2.1), (113, .row true 9 t20.2.2.2.2.2)], 721⟩) (fun t21 => K (.exit 2) ⟨fullT [4, 7, 15, 16, 17] 0 51 [.v (.c (.row 33)), .v (.c (.s (.int .i64 t21.1))), .v (.c (.row 113)), .v (.c (.s (.int .i64 t21.2.1))), .v (.c (.s (.int .i64 t21.2.2.1)))], [(33, .row true 5 t21.2.2.2.1), (113, .row true 9 t21.2.2.2.2)], 721⟩) x
def f37.l11.st (s7 : ByteArray) (a8 : Int) (a9 : Int) (a10 : Int) (a11 : Int) (xs12 : List Int) (xs13 : List ByteArray) : St env := ⟨fullT [4, 6, 7, 8, 15, 16, 17] 0 51 [.v (.c (.row 33)), .v (.c (.s (.string s7))), .v (.c (.s (.int .i64 a8))), .v (.c (.s (.int .i64 a9))), .v (.c (.row 113)), .v (.c (.s (.int .i64 a10))), .v (.c (.s (.int .i64 a11)))], [(33, .row true 5 xs12), (113, .row true 9 xs13)], 385⟩
def f37.l5.step {R : Type} (k : Nat) (rec_ : Int → Int → (List Int) → (List ByteArray) → Option R) (ret : ((Bool × (List Int)) ⊕ ((List Int))) → Option R) (a3 : Int) (a4 : Int) (xs5 : List Int) (xs6 : List ByteArray) : Option R :=
  if (decide (a4 < a3)) = true then
    if (0 : Int) ≤ a4 then
      if a4 < ((List.length xs6 : Nat) : Int) then
        if (decide ((((ByteArray.size (List.getD xs6 (Int.toNat a4) ByteArray.empty)) : Nat) : Int) < (1 : Int))) = false then
          if (decide ((((ByteArray.size (List.getD xs6 (Int.toNat a4) ByteArray.empty)) : Nat) : Int) > (4 : Int))) = true then
            ret (.inl (false, xs5))
          else
            (f37.l11 k k (List.getD xs6 (Int.toNat a4) ByteArray.empty) (0 : Int) (0 : Int) a3 a4 xs5 xs6).bind (Sum.elim (fun t15 => ret (.inl (t15.1, t15.2.2.2.2.1))) (fun t16 => (f61 k t16.1).bind fun t17 => if (List.length t16.2.2.2.1 + List.length t17) * 1 ≤ maxN then
                  rec_ t16.2.1 (IntKind.i64.wrap (t16.2.2.1 + (1 : Int))) (t16.2.2.2.1 ++ t17) t16.2.2.2.2
                else none))
        else
          ret (.inl (false, xs5))
      else none
    else none
  else
    ret (.inr xs5)
def f37.l5 (k : Nat) : Nat → Int → Int → (List Int) → (List ByteArray) → Option ((Bool × (List Int)) ⊕ ((List Int)))
  | 0, _, _, _, _ => none
  | j + 1, a3, a4, xs5, xs6 => f37.l5.step k (fun a3 a4 xs5 xs6 => f37.l5 k j a3 a4 xs5 xs6) some a3 a4 xs5 xs6
def f37.l5.w {R : Type} : ((Bool × (List Int)) ⊕ ((List Int))) → (Exit → St env → Option R) → Option R := fun x K => Sum.elim (fun t22 => K .ret ⟨fullT [2, 3, 4] 0 51 [.v (.c (.s (.slice none 0 0))), .v (.c (.s (.bool t22.1))), .v (.c (.row 33))], [(33, .row true 5 t22.2)], 865⟩) (fun t23 => K (.exit 0) ⟨fullT [4] 0 51 [.v (.c (.row 33))], [(33, .row true 5 t23)], 865⟩) x
def f37.l5.st (a3 : Int) (a4 : Int) (xs5 : List Int) (xs6 : List ByteArray) : St env := ⟨fullT [4, 15, 16, 17] 0 51 [.v (.c (.row 33)), .v (.c (.row 113)), .v (.c (.s (.int .i64 a3))), .v (.c (.s (.int .i64 a4)))], [(33, .row true 5 xs5), (113, .row true 9 xs6)], 161⟩
def f37.l11.hd (k : Nat) (ts_ : List (AV env)) (mm_ : Mem env) (n_ : Nat) : LCl env :=
  gTs LCl.no [4, 6, 7, 8, 15, 16, 17] 51 ts_ fun l_ => gV LCl.no l_ fun a_ l_ => rRow LCl.no 33 a_ <| gV LCl.no l_ fun a_ l_ => rV LCl.no a_ fun v_ => vS LCl.no v_ fun s7 => gV LCl.no l_ fun a_ l_ => rV LCl.no a_ fun v_ => vI LCl.no .i64 v_ fun a8 => gV LCl.no l_ fun a_ l_ => rV LCl.no a_ fun v_ => vI LCl.no .i64 v_ fun a9 => gV LCl.no l_ fun a_ l_ => rRow LCl.no 113 a_ <| gV LCl.no l_ fun a_ l_ => rV LCl.no a_ fun v_ => vI LCl.no .i64 v_ fun a10 => gV LCl.no l_ fun a_ l_ => rV LCl.no a_ fun v_ => vI LCl.no .i64 v_ fun a11 => gE LCl.no l_ <| mRow LCl.no 33 true 5 mm_ fun xs12 m_ => mRow LCl.no 113 true 9 m_ fun xs13 m_ => gE LCl.no m_ <| gN LCl.no 385 n_ { α := (Bool × Int × Int × Int × (List Int) × (List ByteArray)) ⊕ (Int × Int × Int × (List Int) × (List ByteArray)), o := f37.l11 k k s7 a8 a9 a10 a11 xs12 xs13, w := f37.l11.w }
def f37.l5.hd (k : Nat) (ts_ : List (AV env)) (mm_ : Mem env) (n_ : Nat) : LCl env :=
  gTs LCl.no [4, 15, 16, 17] 51 ts_ fun l_ => gV LCl.no l_ fun a_ l_ => rRow LCl.no 33 a_ <| gV LCl.no l_ fun a_ l_ => rRow LCl.no 113 a_ <| gV LCl.no l_ fun a_ l_ => rV LCl.no a_ fun v_ => vI LCl.no .i64 v_ fun a3 => gV LCl.no l_ fun a_ l_ => rV LCl.no a_ fun v_ => vI LCl.no .i64 v_ fun a4 => gE LCl.no l_ <| mRow LCl.no 33 true 5 mm_ fun xs5 m_ => mRow LCl.no 113 true 9 m_ fun xs6 m_ => gE LCl.no m_ <| gN LCl.no 161 n_ { α := (Bool × (List Int)) ⊕ ((List Int)), o := f37.l5 k k a3 a4 xs5 xs6, w := f37.l5.w }
def f37.step {R : Type} (k : Nat) (ret : (((List Int) × Bool) ⊕ (Bool)) → Option R) (s1 : ByteArray) : Option R :=
  if (decide (ByteArray.toList s1 = ByteArray.toList (⟨#[]⟩ : ByteArray))) = true then
    ret (.inl (([] : List Int), true))
  else
    (f36 k s1 (⟨#[58]⟩ : ByteArray)).bind fun t2 => (f37.l5 k k (((List.length t2) : Nat) : Int) (0 : Int) ([] : List Int) t2).bind (Sum.elim (fun t18 => ret (.inr t18.1)) (fun t19 => ret (.inl (t19, true))))
def f37 (k : Nat) (s1 : ByteArray) : Option (((List Int) × Bool) ⊕ (Bool)) := f37.step k some s1
def f37.w {R : Type} : (((List Int) × Bool) ⊕ (Bool)) → (Res env → Option R) → Option R := fun x K => Sum.elim (fun t24 => K ⟨.tup [.c (.own true 5 t24.1), .c (.s (.bool t24.2))], [[]]⟩) (fun t25 => K ⟨.tup [.c (.s (.slice none 0 0)), .c (.s (.bool t25))], [[]]⟩) x
theorem f37.wn (x : (((List Int) × Bool) ⊕ (Bool))) : ∃ res, ∀ {R : Type} (K : Res env → Option R), f37.w x K = K res := by
  rcases x with x | x <;> exact ⟨_, fun _ => rfl⟩
def f37.hd (k : Nat) (ps_ : List (P2 env)) : Cl env :=
  gC Cl.no ps_ fun p_ ps_ => qC Cl.no p_ fun c_ => qS Cl.no c_ fun v_ => vS Cl.no v_ fun s1 => gE Cl.no ps_ <| { α := ((List Int) × Bool) ⊕ (Bool), o := f37 k s1, w := f37.w, nat := fun x _ => f37.wn x }
def f37.e (k : Nat) : Entry env := ⟨f37.hd k, [], []⟩
def f37.X (k : Nat) : Ctx env := { C := lookE [(36, f36.e k), (60, f60.e k), (61, f61.e k)], L := lookE [(11, fun S => f37.l11.hd k S.ts S.m S.n), (5, fun S => f37.l5.hd k S.ts S.m S.n)], J := lookE [], keep := lookD [(11, [4, 6, 7, 8, 15, 16, 17]), (5, [4, 15, 16, 17])], keepX := lookD [(11, [2, 3, 4, 7, 15, 16, 17]), (5, [2, 3, 4])], span := lookN [(11, 336), (5, 704)], eff := fun n => memN n [], prep := lookP [], np := 0 }
theorem f37.l11.nat {R : Type} (k : Nat) (rec_ : ByteArray → Int → Int → Int → Int → (List Int) → (List ByteArray) → Option ((Bool × Int × Int × Int × (List Int) × (List ByteArray)) ⊕ (Int × Int × Int × (List Int) × (List ByteArray)))) (g : ((Bool × Int × Int × Int × (List Int) × (List ByteArray)) ⊕ (Int × Int × Int × (List Int) × (List ByteArray))) → Option R) (s7 : ByteArray) (a8 : Int) (a9 : Int) (a10 : Int) (a11 : Int) (xs12 : List Int) (xs13 : List ByteArray) : (f37.l11.step k rec_ some s7 a8 a9 a10 a11 xs12 xs13).bind g = f37.l11.step k (fun s7 a8 a9 a10 a11 xs12 xs13 => (rec_ s7 a8 a9 a10 a11 xs12 xs13).bind g) g s7 a8 a9 a10 a11 xs12 xs13 := by
  simp only [f37.l11.step, bind_ite, bind_sum, Option.bind_assoc, Option.bind_some, Option.bind_none]
theorem f37.l11.good (k : Nat) (s7 : ByteArray) (a8 : Int) (a9 : Int) (a10 : Int) (a11 : Int) (xs12 : List Int) (xs13 : List ByteArray) : GoodL (f37.X k) (nthC 1 (loopsOf (bodyOf Tryd.f37))) (f37.l11.st s7 a8 a9 a10 a11 xs12 xs13) { α := ((Bool × Int × Int × Int × (List Int) × (List ByteArray)) ⊕ (Int × Int × Int × (List Int) × (List ByteArray))), o := f37.l11 k k s7 a8 a9 a10 a11 xs12 xs13, w := f37.l11.w } :=
  loop_good (ι := ByteArray × Int × Int × Int × Int × (List Int) × (List ByteArray)) (α := ((Bool × Int × Int × Int × (List Int) × (List ByteArray)) ⊕ (Int × Int × Int × (List Int) × (List ByteArray)))) (fun i => f37.l11.st i.1 i.2.1 i.2.2.1 i.2.2.2.1 i.2.2.2.2.1 i.2.2.2.2.2.1 i.2.2.2.2.2.2) (fun j i => f37.l11 k j i.1 i.2.1 i.2.2.1 i.2.2.2.1 i.2.2.2.2.1 i.2.2.2.2.2.1 i.2.2.2.2.2.2) f37.l11.w (fun rec_ ret i => f37.l11.step k (fun s7 a8 a9 a10 a11 xs12 xs13 => rec_ (s7, a8, a9, a10, a11, xs12, xs13)) ret i.1 i.2.1 i.2.2.1 i.2.2.2.1 i.2.2.2.2.1 i.2.2.2.2.2.1 i.2.2.2.2.2.2)
    (fun _ => rfl) (fun _ _ => rfl) (fun rec_ g i => f37.l11.nat k _ g i.1 i.2.1 i.2.2.1 i.2.2.2.1 i.2.2.2.2.1 i.2.2.2.2.2.1 i.2.2.2.2.2.2) (fun {R} i0 i rec_ K => by kernel_rfl) k (s7, a8, a9, a10, a11, xs12, xs13)
theorem f37.l11.all (k : Nat) (S : St env) : GoodL (f37.X k) (nthC 1 (loopsOf (bodyOf Tryd.f37))) S (f37.l11.hd k S.ts S.m S.n) := by
  obtain ⟨ts_, m_, n_⟩ := S
  show GoodL _ _ _ (f37.l11.hd k ts_ m_ n_)
  unfold f37.l11.hd
  refine gTs_ok (p := GoodL _ _ _) goodL_no fun _ h => ?_
  subst h
  refine gV_ok (p := GoodL _ _ _) goodL_no fun _ _ h => ?_
  subst h
  refine rRow_ok (p := GoodL _ _ _) goodL_no fun h => ?_
  subst h
  refine gV_ok (p := GoodL _ _ _) goodL_no fun _ _ h => ?_
  subst h
  refine rV_ok (p := GoodL _ _ _) goodL_no fun _ h => ?_
  subst h
  refine vS_ok (p := GoodL _ _ _) goodL_no fun _ h => ?_
  subst h
  refine gV_ok (p := GoodL _ _ _) goodL_no fun _ _ h => ?_
  subst h
  refine rV_ok (p := GoodL _ _ _) goodL_no fun _ h => ?_
  subst h
  refine vI_ok (p := GoodL _ _ _) goodL_no fun _ h => ?_
  subst h
  refine gV_ok (p := GoodL _ _ _) goodL_no fun _ _ h => ?_
  subst h
  refine rV_ok (p := GoodL _ _ _) goodL_no fun _ h => ?_
  subst h
  refine vI_ok (p := GoodL _ _ _) goodL_no fun _ h => ?_
  subst h
  refine gV_ok (p := GoodL _ _ _) goodL_no fun _ _ h => ?_
  subst h
  refine rRow_ok (p := GoodL _ _ _) goodL_no fun h => ?_
  subst h
  refine gV_ok (p := GoodL _ _ _) goodL_no fun _ _ h => ?_
  subst h
  refine rV_ok (p := GoodL _ _ _) goodL_no fun _ h => ?_
  subst h
  refine vI_ok (p := GoodL _ _ _) goodL_no fun _ h => ?_
  subst h
  refine gV_ok (p := GoodL _ _ _) goodL_no fun _ _ h => ?_
  subst h
  refine rV_ok (p := GoodL _ _ _) goodL_no fun _ h => ?_
  subst h
  refine vI_ok (p := GoodL _ _ _) goodL_no fun _ h => ?_
  subst h
  refine gE_ok (p := GoodL _ _ _) goodL_no fun h => ?_
  subst h
  refine mRow_ok (p := GoodL _ _ _) goodL_no fun _ _ h => ?_
  subst h
  refine mRow_ok (p := GoodL _ _ _) goodL_no fun _ _ h => ?_
  subst h
  refine gE_ok (p := GoodL _ _ _) goodL_no fun h => ?_
  subst h
  refine gN_ok (p := GoodL _ _ _) goodL_no fun h => ?_
  subst h
  exact f37.l11.good k _ _ _ _ _ _ _
theorem f37.l5.nat {R : Type} (k : Nat) (rec_ : Int → Int → (List Int) → (List ByteArray) → Option ((Bool × (List Int)) ⊕ ((List Int)))) (g : ((Bool × (List Int)) ⊕ ((List Int))) → Option R) (a3 : Int) (a4 : Int) (xs5 : List Int) (xs6 : List ByteArray) : (f37.l5.step k rec_ some a3 a4 xs5 xs6).bind g = f37.l5.step k (fun a3 a4 xs5 xs6 => (rec_ a3 a4 xs5 xs6).bind g) g a3 a4 xs5 xs6 := by
  simp only [f37.l5.step, bind_ite, bind_sum, Option.bind_assoc, Option.bind_some, Option.bind_none]
theorem f37.l5.good (k : Nat) (a3 : Int) (a4 : Int) (xs5 : List Int) (xs6 : List ByteArray) : GoodL (f37.X k) (nthC 0 (loopsOf (bodyOf Tryd.f37))) (f37.l5.st a3 a4 xs5 xs6) { α := ((Bool × (List Int)) ⊕ ((List Int))), o := f37.l5 k k a3 a4 xs5 xs6, w := f37.l5.w } :=
  loop_good (ι := Int × Int × (List Int) × (List ByteArray)) (α := ((Bool × (List Int)) ⊕ ((List Int)))) (fun i => f37.l5.st i.1 i.2.1 i.2.2.1 i.2.2.2) (fun j i => f37.l5 k j i.1 i.2.1 i.2.2.1 i.2.2.2) f37.l5.w (fun rec_ ret i => f37.l5.step k (fun a3 a4 xs5 xs6 => rec_ (a3, a4, xs5, xs6)) ret i.1 i.2.1 i.2.2.1 i.2.2.2)
    (fun _ => rfl) (fun _ _ => rfl) (fun rec_ g i => f37.l5.nat k _ g i.1 i.2.1 i.2.2.1 i.2.2.2) (fun {R} i0 i rec_ K => by kernel_rfl) k (a3, a4, xs5, xs6)
theorem f37.l5.all (k : Nat) (S : St env) : GoodL (f37.X k) (nthC 0 (loopsOf (bodyOf Tryd.f37))) S (f37.l5.hd k S.ts S.m S.n) := by
  obtain ⟨ts_, m_, n_⟩ := S
  show GoodL _ _ _ (f37.l5.hd k ts_ m_ n_)
  unfold f37.l5.hd
  refine gTs_ok (p := GoodL _ _ _) goodL_no fun _ h => ?_
  subst h
  refine gV_ok (p := GoodL _ _ _) goodL_no fun _ _ h => ?_
  subst h
  refine rRow_ok (p := GoodL _ _ _) goodL_no fun h => ?_
  subst h
  refine gV_ok (p := GoodL _ _ _) goodL_no fun _ _ h => ?_
  subst h
  refine rRow_ok (p := GoodL _ _ _) goodL_no fun h => ?_
  subst h
  refine gV_ok (p := GoodL _ _ _) goodL_no fun _ _ h => ?_
  subst h
  refine rV_ok (p := GoodL _ _ _) goodL_no fun _ h => ?_
  subst h
  refine vI_ok (p := GoodL _ _ _) goodL_no fun _ h => ?_
  subst h
  refine gV_ok (p := GoodL _ _ _) goodL_no fun _ _ h => ?_
  subst h
  refine rV_ok (p := GoodL _ _ _) goodL_no fun _ h => ?_
  subst h
  refine vI_ok (p := GoodL _ _ _) goodL_no fun _ h => ?_
  subst h
  refine gE_ok (p := GoodL _ _ _) goodL_no fun h => ?_
  subst h
  refine mRow_ok (p := GoodL _ _ _) goodL_no fun _ _ h => ?_
  subst h
  refine mRow_ok (p := GoodL _ _ _) goodL_no fun _ _ h => ?_
  subst h
  refine gE_ok (p := GoodL _ _ _) goodL_no fun h => ?_
  subst h
  refine gN_ok (p := GoodL _ _ _) goodL_no fun h => ?_
  subst h
  exact f37.l5.good k _ _ _ _
theorem f37.nat {R : Type} (k : Nat) (g : (((List Int) × Bool) ⊕ (Bool)) → Option R) (s1 : ByteArray) : f37.step k g s1 = (f37 k s1).bind g := by
  simp only [f37, f37.step, bind_ite, bind_sum, Option.bind_assoc, Option.bind_some, Option.bind_none]
theorem f37.ev (k : Nat) (s1 : ByteArray) : evF (f37.X k) (bodyOf Tryd.f37) Tryd.f37.ntmps Tryd.f37.results.toList [.v (.c (.s (.string s1)))] = f37.step k (fun x => f37.w x some) s1 := by kernel_rfl
theorem f37.hok (k : Nat) : HOK (f37.X k) (bodyOf Tryd.f37) where
  l := allP_mem (by exact ⟨ls_of (h0 := fun S => f37.l5.hd k S.ts S.m S.n) (by kernel_rfl) (f37.l5.all k), ls_of (h0 := fun S => f37.l11.hd k S.ts S.m S.n) (by kernel_rfl) (f37.l11.all k), trivial⟩)
  j := allP_mem (by exact trivial)
theorem f37.sound (k : Nat) : SoundC env Tryd.prog 37 ((f37.e k).F) := by
  intro ps_
  show GoodC _ _ _ ps_ (f37.hd k ps_)
  unfold f37.hd
  refine gC_ok (p := GoodC env Tryd.prog 37 _) goodC_no fun _ _ h => ?_
  subst h
  refine qC_ok (p := GoodC env Tryd.prog 37 _) goodC_no fun _ h => ?_
  subst h
  refine qS_ok (p := GoodC env Tryd.prog 37 _) goodC_no fun _ h => ?_
  subst h
  refine vS_ok (p := GoodC env Tryd.prog 37 _) goodC_no fun _ h => ?_
  subst h
  refine gE_ok (p := GoodC env Tryd.prog 37 _) goodC_no fun h => ?_
  subst h
  exact fun_good (fun_sound envOK (cs_sound _ (by exact ⟨⟨f36.sound k, f36.fnok⟩, ⟨f60.sound k, f60.fnok⟩, ⟨f61.sound k, f61.fnok⟩, trivial⟩)) (f37.hok k) Tryd.func37 rfl) ((f37.ev k _).trans (f37.nat k _ _))
theorem f37.fnok : FnOK Tryd.prog 37 := fn_ok Tryd.func37 (by kernel_rfl) rfl
def f17.step {R : Type} (k : Nat) (ret : (ByteArray × Bool) → Option R) (s1 : ByteArray) : Option R :=
  (f19 k s1 (⟨#[58, 58]⟩ : ByteArray)).bind fun t2 => (f37 k t2.1).bind (Sum.elim (fun t3 => if (!t3.2) = true then
        ret ((⟨#[]⟩ : ByteArray), false)
      else
        if (!t2.2.2) = true then
          ret ((strOf t3.1), (decide ((((List.length t3.1) : Nat) : Int) = (16 : Int))))
        else
          (f37 k t2.2.1).bind (Sum.elim (fun t4 => if (!t4.2) = false then
              if (decide ((IntKind.i64.wrap ((((List.length t3.1) : Nat) : Int) + (((List.length t4.1) : Nat) : Int))) > (14 : Int))) = true then
                ret ((⟨#[]⟩ : ByteArray), false)
              else
                if (0 : Int) ≤ (IntKind.i64.wrap ((16 : Int) - (((List.length t4.1) : Nat) : Int))) then
                  if (IntKind.i64.wrap ((16 : Int) - (((List.length t4.1) : Nat) : Int))) ≤ ((List.length (copyL (List.replicate 16 (0 : Int)) 0 (List.length (List.replicate 16 (0 : Int))) t3.1) : Nat) : Int) then
                    if ((List.length (copyL (List.replicate 16 (0 : Int)) 0 (List.length (List.replicate 16 (0 : Int))) t3.1) : Nat) : Int) ≤ ((List.length (copyL (List.replicate 16 (0 : Int)) 0 (List.length (List.replicate 16 (0 : Int))) t3.1) : Nat) : Int) then
                      ret ((strOf (copyL (copyL (List.replicate 16 (0 : Int)) 0 (List.length (List.replicate 16 (0 : Int))) t3.1) (Int.toNat (IntKind.i64.wrap ((16 : Int) - (((List.length t4.1) : Nat) : Int)))) ((Int.toNat ((List.length (copyL (List.replicate 16 (0 : Int)) 0 (List.length (List.replicate 16 (0 : Int))) t3.1) : Nat) : Int)) - (Int.toNat (IntKind.i64.wrap ((16 : Int) - (((List.length t4.1) : Nat) : Int))))) t4.1)), true)
                    else none
                  else none
                else none
            else
              ret ((⟨#[]⟩ : ByteArray), false)) (fun t5 => if (!t5) = false then
              if (decide ((IntKind.i64.wrap ((((List.length t3.1) : Nat) : Int) + (0 : Int))) > (14 : Int))) = true then
                ret ((⟨#[]⟩ : ByteArray), false)
              else
                if (16 : Int) ≤ ((List.length (copyL (List.replicate 16 (0 : Int)) 0 (List.length (List.replicate 16 (0 : Int))) t3.1) : Nat) : Int) then
                  if ((List.length (copyL (List.replicate 16 (0 : Int)) 0 (List.length (List.replicate 16 (0 : Int))) t3.1) : Nat) : Int) ≤ ((List.length (copyL (List.replicate 16 (0 : Int)) 0 (List.length (List.replicate 16 (0 : Int))) t3.1) : Nat) : Int) then
                    none
                  else none
                else none
            else
              ret ((⟨#[]⟩ : ByteArray), false)))) (fun t6 => if (!t6) = true then
        ret ((⟨#[]⟩ : ByteArray), false)
      else
        if (!t2.2.2) = true then
          ret (ByteArray.empty, false)
        else
          (f37 k t2.2.1).bind (Sum.elim (fun t7 => if (!t7.2) = false then
              if (decide ((IntKind.i64.wrap ((0 : Int) + (((List.length t7.1) : Nat) : Int))) > (14 : Int))) = true then
                ret ((⟨#[]⟩ : ByteArray), false)
              else
                none
            else
              ret ((⟨#[]⟩ : ByteArray), false)) (fun t8 => if (!t8) = false then
              none
            else
              ret ((⟨#[]⟩ : ByteArray), false)))))
def f17 (k : Nat) (s1 : ByteArray) : Option (ByteArray × Bool) := f17.step k some s1
def f17.w {R : Type} : (ByteArray × Bool) → (Res env → Option R) → Option R := fun t9 K => K ⟨.tup [.c (.s (.string t9.1)), .c (.s (.bool t9.2))], [[]]⟩
theorem f17.wn (x : (ByteArray × Bool)) : ∃ res, ∀ {R : Type} (K : Res env → Option R), f17.w x K = K res := by
  exact ⟨_, fun _ => rfl⟩
def f17.hd (k : Nat) (ps_ : List (P2 env)) : Cl env :=
  gC Cl.no ps_ fun p_ ps_ => qC Cl.no p_ fun c_ => qS Cl.no c_ fun v_ => vS Cl.no v_ fun s1 => gE Cl.no ps_ <| { α := ByteArray × Bool, o := f17 k s1, w := f17.w, nat := fun x _ => f17.wn x }
def f17.e (k : Nat) : Entry env := ⟨f17.hd k, [], []⟩
def f17.X (k : Nat) : Ctx env := { C := lookE [(19, f19.e k), (37, f37.e k)], L := lookE [], J := lookE [], keep := lookD [], keepX := lookD [], span := lookN [], eff := fun n => memN n [], prep := lookP [], np := 0 }
theorem f17.nat {R : Type} (k : Nat) (g : (ByteArray × Bool) → Option R) (s1 : ByteArray) : f17.step k g s1 = (f17 k s1).bind g := by
  simp only [f17, f17.step, bind_ite, bind_sum, Option.bind_assoc, Option.bind_some, Option.bind_none]
theorem f17.ev (k : Nat) (s1 : ByteArray) : evF (f17.X k) (bodyOf Tryd.f17) Tryd.f17.ntmps Tryd.f17.results.toList [.v (.c (.s (.string s1)))] = f17.step k (fun x => f17.w x some) s1 := by kernel_rfl
theorem f17.hok (k : Nat) : HOK (f17.X k) (bodyOf Tryd.f17) where
  l := allP_mem (by exact trivial)
  j := allP_mem (by exact trivial)
theorem f17.sound (k : Nat) : SoundC env Tryd.prog 17 ((f17.e k).F) := by
  intro ps_
  show GoodC _ _ _ ps_ (f17.hd k ps_)
  unfold f17.hd
  refine gC_ok (p := GoodC env Tryd.prog 17 _) goodC_no fun _ _ h => ?_
  subst h
  refine qC_ok (p := GoodC env Tryd.prog 17 _) goodC_no fun _ h => ?_
  subst h
  refine qS_ok (p := GoodC env Tryd.prog 17 _) goodC_no fun _ h => ?_
  subst h
  refine vS_ok (p := GoodC env Tryd.prog 17 _) goodC_no fun _ h => ?_
  subst h
  refine gE_ok (p := GoodC env Tryd.prog 17 _) goodC_no fun h => ?_
  subst h
  exact fun_good (fun_sound envOK (cs_sound _ (by exact ⟨⟨f19.sound k, f19.fnok⟩, ⟨f37.sound k, f37.fnok⟩, trivial⟩)) (f17.hok k) Tryd.func17 rfl) ((f17.ev k _).trans (f17.nat k _ _))
theorem f17.says (k : Nat) (s1 : ByteArray) (t10 : ByteArray × Bool) (h_ : f17 k s1 = some t10) : SoundAt env Tryd.prog 17 [.v (.c (.s (.string s1)))] ⟨.tup [.c (.s (.string t10.1)), .c (.s (.bool t10.2))], [[]]⟩ :=
  fun_sound envOK (cs_sound _ (by exact ⟨⟨f19.sound k, f19.fnok⟩, ⟨f37.sound k, f37.fnok⟩, trivial⟩)) (f17.hok k) Tryd.func17 rfl _ _ (((f17.ev k s1).trans (f17.nat k _ s1)).trans (by rw [h_]; rfl))
theorem f17.fnok : FnOK Tryd.prog 17 := fn_ok Tryd.func17 (by kernel_rfl) rfl
def f7.step {R : Type} (k : Nat) (ret : (ByteArray × Int) → Option R) (s1 : ByteArray) : Option R :=
  (f15 k ([s1] : List ByteArray)).bind fun t2 => if t2 = true then
      ret ((⟨#[]⟩ : ByteArray), (2 : Int))
    else
      if (decide ((((ByteArray.size s1) : Nat) : Int) > (60 : Int))) = true then
        ret ((⟨#[]⟩ : ByteArray), (3 : Int))
      else
        (f16 k s1).bind fun t3 => if t3.2 = true then
            ret (t3.1, (0 : Int))
          else
            (f17 k s1).bind fun t4 => if t4.2 = true then
                ret (t4.1, (0 : Int))
              else
                ret ((⟨#[]⟩ : ByteArray), (3 : Int))
def f7 (k : Nat) (s1 : ByteArray) : Option (ByteArray × Int) := f7.step k some s1
def f7.w {R : Type} : (ByteArray × Int) → (Res env → Option R) → Option R := fun t5 K => K ⟨.tup [.c (.s (.string t5.1)), .c (.s (.int .i64 t5.2))], [[]]⟩
theorem f7.wn (x : (ByteArray × Int)) : ∃ res, ∀ {R : Type} (K : Res env → Option R), f7.w x K = K res := by
  exact ⟨_, fun _ => rfl⟩
def f7.hd (k : Nat) (ps_ : List (P2 env)) : Cl env :=
  gC Cl.no ps_ fun p_ ps_ => qC Cl.no p_ fun c_ => qS Cl.no c_ fun v_ => vS Cl.no v_ fun s1 => gE Cl.no ps_ <| { α := ByteArray × Int, o := f7 k s1, w := f7.w, nat := fun x _ => f7.wn x }
def f7.e (k : Nat) : Entry env := ⟨f7.hd k, [], []⟩
def f7.X (k : Nat) : Ctx env := { C := lookE [(15, f15.e k), (16, f16.e k), (17, f17.e k)], L := lookE [], J := lookE [], keep := lookD [], keepX := lookD [], span := lookN [], eff := fun n => memN n [], prep := lookP [], np := 0 }
theorem f7.nat {R : Type} (k : Nat) (g : (ByteArray × Int) → Option R) (s1 : ByteArray) : f7.step k g s1 = (f7 k s1).bind g := by
  simp only [f7, f7.step, bind_ite, bind_sum, Option.bind_assoc, Option.bind_some, Option.bind_none]
theorem f7.ev (k : Nat) (s1 : ByteArray) : evF (f7.X k) (bodyOf Tryd.f7) Tryd.f7.ntmps Tryd.f7.results.toList [.v (.c (.s (.string s1)))] = f7.step k (fun x => f7.w x some) s1 := by kernel_rfl
theorem f7.hok (k : Nat) : HOK (f7.X k) (bodyOf Tryd.f7) where
  l := allP_mem (by exact trivial)
  j := allP_mem (by exact trivial)
theorem f7.sound (k : Nat) : SoundC env Tryd.prog 7 ((f7.e k).F) := by
  intro ps_
  show GoodC _ _ _ ps_ (f7.hd k ps_)
  unfold f7.hd
  refine gC_ok (p := GoodC env Tryd.prog 7 _) goodC_no fun _ _ h => ?_
  subst h
  refine qC_ok (p := GoodC env Tryd.prog 7 _) goodC_no fun _ h => ?_
  subst h
  refine qS_ok (p := GoodC env Tryd.prog 7 _) goodC_no fun _ h => ?_
  subst h
  refine vS_ok (p := GoodC env Tryd.prog 7 _) goodC_no fun _ h => ?_
  subst h
  refine gE_ok (p := GoodC env Tryd.prog 7 _) goodC_no fun h => ?_
  subst h
  exact fun_good (fun_sound envOK (cs_sound _ (by exact ⟨⟨f15.sound k, f15.fnok⟩, ⟨f16.sound k, f16.fnok⟩, ⟨f17.sound k, f17.fnok⟩, trivial⟩)) (f7.hok k) Tryd.func7 rfl) ((f7.ev k _).trans (f7.nat k _ _))
theorem f7.says (k : Nat) (s1 : ByteArray) (t6 : ByteArray × Int) (h_ : f7 k s1 = some t6) : SoundAt env Tryd.prog 7 [.v (.c (.s (.string s1)))] ⟨.tup [.c (.s (.string t6.1)), .c (.s (.int .i64 t6.2))], [[]]⟩ :=
  fun_sound envOK (cs_sound _ (by exact ⟨⟨f15.sound k, f15.fnok⟩, ⟨f16.sound k, f16.fnok⟩, ⟨f17.sound k, f17.fnok⟩, trivial⟩)) (f7.hok k) Tryd.func7 rfl _ _ (((f7.ev k s1).trans (f7.nat k _ s1)).trans (by rw [h_]; rfl))
theorem f7.fnok : FnOK Tryd.prog 7 := fn_ok Tryd.func7 (by kernel_rfl) rfl
def f56.step {R : Type} (k : Nat) (ret : (ByteArray × (List Int) × Int × Int) → Option R) (xs1 : List Int) (a2 : Int) (a3 : Int) (xs4 : List ByteArray) : Option R :=
  if (decide ((((List.length xs4) : Nat) : Int) = (0 : Int))) = true then
    ret ((⟨#[]⟩ : ByteArray), xs1, a2, a3)
  else
    (f55 k xs1 a2 a3 (((List.length xs4) : Nat) : Int)).bind fun t5 => if (0 : Int) ≤ t5.1 then
        if t5.1 < ((List.length xs4 : Nat) : Int) then
          ret ((List.getD xs4 (Int.toNat t5.1) ByteArray.empty), t5.2.1, t5.2.2.1, t5.2.2.2)
        else none
      else none
def f56 (k : Nat) (xs1 : List Int) (a2 : Int) (a3 : Int) (xs4 : List ByteArray) : Option (ByteArray × (List Int) × Int × Int) := f56.step k some xs1 a2 a3 xs4
def f56.w {R : Type} : (ByteArray × (List Int) × Int × Int) → (Res env → Option R) → Option R := fun t6 K => K ⟨.v (.c (.s (.string t6.1))), [[.sl 5 t6.2.1, .s (.int .i64 t6.2.2.1), .s (.int .i64 t6.2.2.2)], []]⟩
theorem f56.wn (x : (ByteArray × (List Int) × Int × Int)) : ∃ res, ∀ {R : Type} (K : Res env → Option R), f56.w x K = K res := by
  exact ⟨_, fun _ => rfl⟩
def f56.hd (k : Nat) (ps_ : List (P2 env)) : Cl env :=
  gC Cl.no ps_ fun p_ ps_ => qP Cl.no p_ fun cs_ => gC Cl.no cs_ fun c_ cs_ => qSl Cl.no 5 c_ fun xs1 => gC Cl.no cs_ fun c_ cs_ => qS Cl.no c_ fun v_ => vI Cl.no .i64 v_ fun a2 => gC Cl.no cs_ fun c_ cs_ => qS Cl.no c_ fun v_ => vI Cl.no .i64 v_ fun a3 => gE Cl.no cs_ <| gC Cl.no ps_ fun p_ ps_ => qC Cl.no p_ fun c_ => qSl Cl.no 9 c_ fun xs4 => gE Cl.no ps_ <| { α := ByteArray × (List Int) × Int × Int, o := f56 k xs1 a2 a3 xs4, w := f56.w, nat := fun x _ => f56.wn x }
def f56.e (k : Nat) : Entry env := ⟨fun ps => f56.hd k (coer [[.rd 5, .no, .no], [.rd 9]] ps), [], []⟩
def f56.X (k : Nat) : Ctx env := { C := lookE [(55, f55.e k)], L := lookE [], J := lookE [], keep := lookD [], keepX := lookD [], span := lookN [], eff := fun n => memN n [], prep := lookP [], np := 0 }
theorem f56.nat {R : Type} (k : Nat) (g : (ByteArray × (List Int) × Int × Int) → Option R) (xs1 : List Int) (a2 : Int) (a3 : Int) (xs4 : List ByteArray) : f56.step k g xs1 a2 a3 xs4 = (f56 k xs1 a2 a3 xs4).bind g := by
  simp only [f56, f56.step, bind_ite, bind_sum, Option.bind_assoc, Option.bind_some, Option.bind_none]
theorem f56.ev (k : Nat) (xs1 : List Int) (a2 : Int) (a3 : Int) (xs4 : List ByteArray) : evF (f56.X k) (bodyOf Tryd.f56) Tryd.f56.ntmps Tryd.f56.results.toList [.v (.ptr [.sl 5 xs1, .s (.int .i64 a2), .s (.int .i64 a3)]), .v (.c (.sl 9 xs4))] = f56.step k (fun x => f56.w x some) xs1 a2 a3 xs4 := by kernel_rfl
theorem f56.hok (k : Nat) : HOK (f56.X k) (bodyOf Tryd.f56) where
  l := allP_mem (by exact trivial)
  j := allP_mem (by exact trivial)
theorem f56.sound0 (k : Nat) : SoundC env Tryd.prog 56 (f56.hd k) := by
  intro ps_
  show GoodC _ _ _ ps_ (f56.hd k ps_)
  unfold f56.hd
  refine gC_ok (p := GoodC env Tryd.prog 56 _) goodC_no fun _ _ h => ?_
  subst h
  refine qP_ok (p := GoodC env Tryd.prog 56 _) goodC_no fun _ h => ?_
  subst h
  refine gC_ok (p := GoodC env Tryd.prog 56 _) goodC_no fun _ _ h => ?_
  subst h
  refine qSl_ok (p := GoodC env Tryd.prog 56 _) goodC_no fun _ h => ?_
  subst h
  refine gC_ok (p := GoodC env Tryd.prog 56 _) goodC_no fun _ _ h => ?_
  subst h
  refine qS_ok (p := GoodC env Tryd.prog 56 _) goodC_no fun _ h => ?_
  subst h
  refine vI_ok (p := GoodC env Tryd.prog 56 _) goodC_no fun _ h => ?_
  subst h
  refine gC_ok (p := GoodC env Tryd.prog 56 _) goodC_no fun _ _ h => ?_
  subst h
  refine qS_ok (p := GoodC env Tryd.prog 56 _) goodC_no fun _ h => ?_
  subst h
  refine vI_ok (p := GoodC env Tryd.prog 56 _) goodC_no fun _ h => ?_
  subst h
  refine gE_ok (p := GoodC env Tryd.prog 56 _) goodC_no fun h => ?_
  subst h
  refine gC_ok (p := GoodC env Tryd.prog 56 _) goodC_no fun _ _ h => ?_
  subst h
  refine qC_ok (p := GoodC env Tryd.prog 56 _) goodC_no fun _ h => ?_
  subst h
  refine qSl_ok (p := GoodC env Tryd.prog 56 _) goodC_no fun _ h => ?_
  subst h
  refine gE_ok (p := GoodC env Tryd.prog 56 _) goodC_no fun h => ?_
  subst h
  exact fun_good (fun_sound envOK (cs_sound _ (by exact ⟨⟨f55.sound k, f55.fnok⟩, trivial⟩)) (f56.hok k) Tryd.func56 rfl) ((f56.ev k _ _ _ _).trans (f56.nat k _ _ _ _ _))
theorem f56.sound (k : Nat) : SoundC env Tryd.prog 56 (f56.e k).F := soundC_coer (f56.sound0 k) [[.rd 5, .no, .no], [.rd 9]]
theorem f56.says (k : Nat) (xs1 : List Int) (a2 : Int) (a3 : Int) (xs4 : List ByteArray) (t7 : ByteArray × (List Int) × Int × Int) (h_ : f56 k xs1 a2 a3 xs4 = some t7) : SoundAt env Tryd.prog 56 [.v (.ptr [.sl 5 xs1, .s (.int .i64 a2), .s (.int .i64 a3)]), .v (.c (.sl 9 xs4))] ⟨.v (.c (.s (.string t7.1))), [[.sl 5 t7.2.1, .s (.int .i64 t7.2.2.1), .s (.int .i64 t7.2.2.2)], []]⟩ :=
  fun_sound envOK (cs_sound _ (by exact ⟨⟨f55.sound k, f55.fnok⟩, trivial⟩)) (f56.hok k) Tryd.func56 rfl _ _ (((f56.ev k xs1 a2 a3 xs4).trans (f56.nat k _ xs1 a2 a3 xs4)).trans (by rw [h_]; rfl))
theorem f56.fnok : FnOK Tryd.prog 56 := fn_ok Tryd.func56 (by kernel_rfl) rfl
def f33.step {R : Type} (k : Nat) (ret : ByteArray → Option R) (xs1 : List Int) : Option R :=
  (f25 k xs1).bind fun t2 => (f26 k t2.1 t2.2.1 t2.2.2).bind fun t3 => (f32 k t3.1).bind fun t4 => (f43 k t3.2.1 t3.2.2.1 t3.2.2.2 (2 : Int)).bind fun t5 => if t5.1 = true then
            (f55 k t5.2.1 t5.2.2.1 t5.2.2.2 (IntKind.i64.wrap ((((ByteArray.size t4) : Nat) : Int) + (1 : Int)))).bind fun t6 => if (0 : Int) ≤ t6.1 then
                if t6.1 ≤ ((ByteArray.size t4 : Nat) : Int) then
                  (f56 k t6.2.1 t6.2.2.1 t6.2.2.2 ([(⟨#[58]⟩ : ByteArray), (⟨#[58, 58]⟩ : ByteArray), (⟨#[46]⟩ : ByteArray), (⟨#[48]⟩ : ByteArray), (⟨#[102]⟩ : ByteArray), (⟨#[70]⟩ : ByteArray), (⟨#[50, 53, 54]⟩ : ByteArray), (⟨#[103]⟩ : ByteArray), (⟨#[49, 50, 51, 52, 53]⟩ : ByteArray)] : List ByteArray)).bind fun t7 => if ByteArray.size (ByteArray.extract t4 0 (Int.toNat t6.1)) + ByteArray.size t7.1 ≤ maxN then
                      (f55 k t7.2.1 t7.2.2.1 t7.2.2.2 (3 : Int)).bind fun t8 => if (0 : Int) ≤ (if (IntKind.i64.wrap (t6.1 + t8.1)) < (((ByteArray.size t4) : Nat) : Int) then (IntKind.i64.wrap (t6.1 + t8.1)) else (((ByteArray.size t4) : Nat) : Int)) then
                          if (if (IntKind.i64.wrap (t6.1 + t8.1)) < (((ByteArray.size t4) : Nat) : Int) then (IntKind.i64.wrap (t6.1 + t8.1)) else (((ByteArray.size t4) : Nat) : Int)) ≤ ((ByteArray.size t4 : Nat) : Int) then
                            if ((ByteArray.size t4 : Nat) : Int) ≤ ((ByteArray.size t4 : Nat) : Int) then
                              if ByteArray.size ((ByteArray.extract t4 0 (Int.toNat t6.1)) ++ t7.1) + ByteArray.size (ByteArray.extract t4 (Int.toNat (if (IntKind.i64.wrap (t6.1 + t8.1)) < (((ByteArray.size t4) : Nat) : Int) then (IntKind.i64.wrap (t6.1 + t8.1)) else (((ByteArray.size t4) : Nat) : Int))) (Int.toNat ((ByteArray.size t4 : Nat) : Int))) ≤ maxN then
                                ret (((ByteArray.extract t4 0 (Int.toNat t6.1)) ++ t7.1) ++ (ByteArray.extract t4 (Int.toNat (if (IntKind.i64.wrap (t6.1 + t8.1)) < (((ByteArray.size t4) : Nat) : Int) then (IntKind.i64.wrap (t6.1 + t8.1)) else (((ByteArray.size t4) : Nat) : Int))) (Int.toNat ((ByteArray.size t4 : Nat) : Int))))
                              else none
                            else none
                          else none
                        else none
                    else none
                else none
              else none
          else
            ret t4
def f33 (k : Nat) (xs1 : List Int) : Option ByteArray := f33.step k some xs1
def f33.w {R : Type} : ByteArray → (Res env → Option R) → Option R := fun t9 K => K ⟨.v (.c (.s (.string t9))), [[]]⟩
theorem f33.wn (x : ByteArray) : ∃ res, ∀ {R : Type} (K : Res env → Option R), f33.w x K = K res := by
  exact ⟨_, fun _ => rfl⟩
def f33.hd (k : Nat) (ps_ : List (P2 env)) : Cl env :=
  gC Cl.no ps_ fun p_ ps_ => qC Cl.no p_ fun c_ => qSl Cl.no 5 c_ fun xs1 => gE Cl.no ps_ <| { α := ByteArray, o := f33 k xs1, w := f33.w, nat := fun x _ => f33.wn x }
def f33.e (k : Nat) : Entry env := ⟨fun ps => f33.hd k (coer [[.rd 5]] ps), [], []⟩
def f33.X (k : Nat) : Ctx env := { C := lookE [(25, f25.e k), (26, f26.e k), (32, f32.e k), (43, f43.e k), (55, f55.e k), (56, f56.e k)], L := lookE [], J := lookE [], keep := lookD [], keepX := lookD [], span := lookN [], eff := fun n => memN n [5], prep := lookP [], np := 0 }
theorem f33.nat {R : Type} (k : Nat) (g : ByteArray → Option R) (xs1 : List Int) : f33.step k g xs1 = (f33 k xs1).bind g := by
  simp only [f33, f33.step, bind_ite, bind_sum, Option.bind_assoc, Option.bind_some, Option.bind_none]
theorem f33.ev (k : Nat) (xs1 : List Int) : evF (f33.X k) (bodyOf Tryd.f33) Tryd.f33.ntmps Tryd.f33.results.toList [.v (.c (.sl 5 xs1))] = f33.step k (fun x => f33.w x some) xs1 := by kernel_rfl
theorem f33.hok (k : Nat) : HOK (f33.X k) (bodyOf Tryd.f33) where
  l := allP_mem (by exact trivial)
  j := allP_mem (by exact trivial)
theorem f33.sound0 (k : Nat) : SoundC env Tryd.prog 33 (f33.hd k) := by
  intro ps_
  show GoodC _ _ _ ps_ (f33.hd k ps_)
  unfold f33.hd
  refine gC_ok (p := GoodC env Tryd.prog 33 _) goodC_no fun _ _ h => ?_
  subst h
  refine qC_ok (p := GoodC env Tryd.prog 33 _) goodC_no fun _ h => ?_
  subst h
  refine qSl_ok (p := GoodC env Tryd.prog 33 _) goodC_no fun _ h => ?_
  subst h
  refine gE_ok (p := GoodC env Tryd.prog 33 _) goodC_no fun h => ?_
  subst h
  exact fun_good (fun_sound envOK (cs_sound _ (by exact ⟨⟨f25.sound k, f25.fnok⟩, ⟨f26.sound k, f26.fnok⟩, ⟨f32.sound k, f32.fnok⟩, ⟨f43.sound k, f43.fnok⟩, ⟨f55.sound k, f55.fnok⟩, ⟨f56.sound k, f56.fnok⟩, trivial⟩)) (f33.hok k) Tryd.func33 rfl) ((f33.ev k _).trans (f33.nat k _ _))
theorem f33.sound (k : Nat) : SoundC env Tryd.prog 33 (f33.e k).F := soundC_coer (f33.sound0 k) [[.rd 5]]
theorem f33.says (k : Nat) (xs1 : List Int) (t10 : ByteArray) (h_ : f33 k xs1 = some t10) : SoundAt env Tryd.prog 33 [.v (.c (.sl 5 xs1))] ⟨.v (.c (.s (.string t10))), [[]]⟩ :=
  fun_sound envOK (cs_sound _ (by exact ⟨⟨f25.sound k, f25.fnok⟩, ⟨f26.sound k, f26.fnok⟩, ⟨f32.sound k, f32.fnok⟩, ⟨f43.sound k, f43.fnok⟩, ⟨f55.sound k, f55.fnok⟩, ⟨f56.sound k, f56.fnok⟩, trivial⟩)) (f33.hok k) Tryd.func33 rfl _ _ (((f33.ev k xs1).trans (f33.nat k _ xs1)).trans (by rw [h_]; rfl))
theorem f33.fnok : FnOK Tryd.prog 33 := fn_ok Tryd.func33 (by kernel_rfl) rfl
def f13.step {R : Type} (k : Nat) (ret : ByteArray → Option R) (xs1 : List Int) : Option R :=
  (f33 k xs1).bind fun t2 => ret t2
def f13 (k : Nat) (xs1 : List Int) : Option ByteArray := f13.step k some xs1
def f13.w {R : Type} : ByteArray → (Res env → Option R) → Option R := fun t3 K => K ⟨.v (.c (.s (.string t3))), [[]]⟩
theorem f13.wn (x : ByteArray) : ∃ res, ∀ {R : Type} (K : Res env → Option R), f13.w x K = K res := by
  exact ⟨_, fun _ => rfl⟩
def f13.hd (k : Nat) (ps_ : List (P2 env)) : Cl env :=
  gC Cl.no ps_ fun p_ ps_ => qC Cl.no p_ fun c_ => qSl Cl.no 5 c_ fun xs1 => gE Cl.no ps_ <| { α := ByteArray, o := f13 k xs1, w := f13.w, nat := fun x _ => f13.wn x }
def f13.e (k : Nat) : Entry env := ⟨fun ps => f13.hd k (coer [[.rd 5]] ps), [], []⟩
def f13.X (k : Nat) : Ctx env := { C := lookE [(33, f33.e k)], L := lookE [], J := lookE [], keep := lookD [], keepX := lookD [], span := lookN [], eff := fun n => memN n [], prep := lookP [], np := 0 }
theorem f13.nat {R : Type} (k : Nat) (g : ByteArray → Option R) (xs1 : List Int) : f13.step k g xs1 = (f13 k xs1).bind g := by
  simp only [f13, f13.step, bind_ite, bind_sum, Option.bind_assoc, Option.bind_some, Option.bind_none]
theorem f13.ev (k : Nat) (xs1 : List Int) : evF (f13.X k) (bodyOf Tryd.f13) Tryd.f13.ntmps Tryd.f13.results.toList [.v (.c (.sl 5 xs1))] = f13.step k (fun x => f13.w x some) xs1 := by kernel_rfl
theorem f13.hok (k : Nat) : HOK (f13.X k) (bodyOf Tryd.f13) where
  l := allP_mem (by exact trivial)
  j := allP_mem (by exact trivial)
theorem f13.sound0 (k : Nat) : SoundC env Tryd.prog 13 (f13.hd k) := by
  intro ps_
  show GoodC _ _ _ ps_ (f13.hd k ps_)
  unfold f13.hd
  refine gC_ok (p := GoodC env Tryd.prog 13 _) goodC_no fun _ _ h => ?_
  subst h
  refine qC_ok (p := GoodC env Tryd.prog 13 _) goodC_no fun _ h => ?_
  subst h
  refine qSl_ok (p := GoodC env Tryd.prog 13 _) goodC_no fun _ h => ?_
  subst h
  refine gE_ok (p := GoodC env Tryd.prog 13 _) goodC_no fun h => ?_
  subst h
  exact fun_good (fun_sound envOK (cs_sound _ (by exact ⟨⟨f33.sound k, f33.fnok⟩, trivial⟩)) (f13.hok k) Tryd.func13 rfl) ((f13.ev k _).trans (f13.nat k _ _))
theorem f13.sound (k : Nat) : SoundC env Tryd.prog 13 (f13.e k).F := soundC_coer (f13.sound0 k) [[.rd 5]]
theorem f13.says (k : Nat) (xs1 : List Int) (t4 : ByteArray) (h_ : f13 k xs1 = some t4) : SoundAt env Tryd.prog 13 [.v (.c (.sl 5 xs1))] ⟨.v (.c (.s (.string t4))), [[]]⟩ :=
  fun_sound envOK (cs_sound _ (by exact ⟨⟨f33.sound k, f33.fnok⟩, trivial⟩)) (f13.hok k) Tryd.func13 rfl _ _ (((f13.ev k xs1).trans (f13.nat k _ xs1)).trans (by rw [h_]; rfl))
theorem f13.fnok : FnOK Tryd.prog 13 := fn_ok Tryd.func13 (by kernel_rfl) rfl
def f57.l4.step {R : Type} (k : Nat) (rec_ : ByteArray → Int → Int → Int → (List ByteArray) → Option R) (ret : (ByteArray × Int × (List ByteArray)) → Option R) (s3 : ByteArray) (a4 : Int) (a5 : Int) (a6 : Int) (xs7 : List ByteArray) : Option R :=
  if (decide (a6 < (((ByteArray.size s3) : Nat) : Int))) = true then
    if (0 : Int) ≤ a6 then
      if a6 < ((ByteArray.size s3 : Nat) : Int) then
        if (decide ((bt s3 a6) = a4)) = true then
          if (0 : Int) ≤ a5 then
            if a5 ≤ a6 then
              if a6 ≤ ((ByteArray.size s3 : Nat) : Int) then
                if (List.length xs7 + List.length ([(ByteArray.extract s3 (Int.toNat a5) (Int.toNat a6))] : List ByteArray)) * 16 ≤ maxN then
                  rec_ s3 a4 (IntKind.i64.wrap (a6 + (1 : Int))) (IntKind.i64.wrap (a6 + (1 : Int))) (xs7 ++ ([(ByteArray.extract s3 (Int.toNat a5) (Int.toNat a6))] : List ByteArray))
                else none
              else none
            else none
          else none
        else
          rec_ s3 a4 a5 (IntKind.i64.wrap (a6 + (1 : Int))) xs7
      else none
    else none
  else
    ret (s3, a5, xs7)
def f57.l4 (k : Nat) : Nat → ByteArray → Int → Int → Int → (List ByteArray) → Option (ByteArray × Int × (List ByteArray))
  | 0, _, _, _, _, _ => none
  | j + 1, s3, a4, a5, a6, xs7 => f57.l4.step k (fun s3 a4 a5 a6 xs7 => f57.l4 k j s3 a4 a5 a6 xs7) some s3 a4 a5 a6 xs7
def f57.l4.w {R : Type} : (ByteArray × Int × (List ByteArray)) → (Exit → St env → Option R) → Option R := fun t9 K => K (.exit 0) ⟨fullT [0, 5, 6] 0 35 [.v (.c (.s (.string t9.1))), .v (.c (.row 18)), .v (.c (.s (.int .i64 t9.2.1)))], [(18, .row true 9 t9.2.2)], 450⟩
def f57.l4.st (s3 : ByteArray) (a4 : Int) (a5 : Int) (a6 : Int) (xs7 : List ByteArray) : St env := ⟨fullT [0, 1, 5, 6, 7] 0 35 [.v (.c (.s (.string s3))), .v (.c (.s (.int .u8 a4))), .v (.c (.row 18)), .v (.c (.s (.int .i64 a5))), .v (.c (.s (.int .i64 a6)))], [(18, .row true 9 xs7)], 82⟩
def f57.l4.hd (k : Nat) (ts_ : List (AV env)) (mm_ : Mem env) (n_ : Nat) : LCl env :=
  gTs LCl.no [0, 1, 5, 6, 7] 35 ts_ fun l_ => gV LCl.no l_ fun a_ l_ => rV LCl.no a_ fun v_ => vS LCl.no v_ fun s3 => gV LCl.no l_ fun a_ l_ => rV LCl.no a_ fun v_ => vI LCl.no .u8 v_ fun a4 => gV LCl.no l_ fun a_ l_ => rRow LCl.no 18 a_ <| gV LCl.no l_ fun a_ l_ => rV LCl.no a_ fun v_ => vI LCl.no .i64 v_ fun a5 => gV LCl.no l_ fun a_ l_ => rV LCl.no a_ fun v_ => vI LCl.no .i64 v_ fun a6 => gE LCl.no l_ <| mRow LCl.no 18 true 9 mm_ fun xs7 m_ => gE LCl.no m_ <| gN LCl.no 82 n_ { α := ByteArray × Int × (List ByteArray), o := f57.l4 k k s3 a4 a5 a6 xs7, w := f57.l4.w }
def f57.step {R : Type} (k : Nat) (ret : ((List ByteArray)) → Option R) (s1 : ByteArray) (a2 : Int) : Option R :=
  (f57.l4 k k s1 a2 (0 : Int) (0 : Int) ([] : List ByteArray)).bind fun t8 => if (0 : Int) ≤ t8.2.1 then
      if t8.2.1 ≤ ((ByteArray.size t8.1 : Nat) : Int) then
        if ((ByteArray.size t8.1 : Nat) : Int) ≤ ((ByteArray.size t8.1 : Nat) : Int) then
          if (List.length t8.2.2 + List.length ([(ByteArray.extract t8.1 (Int.toNat t8.2.1) (Int.toNat ((ByteArray.size t8.1 : Nat) : Int)))] : List ByteArray)) * 16 ≤ maxN then
            ret (t8.2.2 ++ ([(ByteArray.extract t8.1 (Int.toNat t8.2.1) (Int.toNat ((ByteArray.size t8.1 : Nat) : Int)))] : List ByteArray))
          else none
        else none
      else none
    else none
def f57 (k : Nat) (s1 : ByteArray) (a2 : Int) : Option ((List ByteArray)) := f57.step k some s1 a2
def f57.w {R : Type} : ((List ByteArray)) → (Res env → Option R) → Option R := fun t10 K => K ⟨.v (.c (.own true 9 t10)), [[], []]⟩
theorem f57.wn (x : ((List ByteArray))) : ∃ res, ∀ {R : Type} (K : Res env → Option R), f57.w x K = K res := by
  exact ⟨_, fun _ => rfl⟩
def f57.hd (k : Nat) (ps_ : List (P2 env)) : Cl env :=
  gC Cl.no ps_ fun p_ ps_ => qC Cl.no p_ fun c_ => qS Cl.no c_ fun v_ => vS Cl.no v_ fun s1 => gC Cl.no ps_ fun p_ ps_ => qC Cl.no p_ fun c_ => qS Cl.no c_ fun v_ => vI Cl.no .u8 v_ fun a2 => gE Cl.no ps_ <| { α := (List ByteArray), o := f57 k s1 a2, w := f57.w, nat := fun x _ => f57.wn x }
def f57.e (k : Nat) : Entry env := ⟨f57.hd k, [], []⟩
def f57.X (k : Nat) : Ctx env := { C := lookE [], L := lookE [(4, fun S => f57.l4.hd k S.ts S.m S.n)], J := lookE [], keep := lookD [(4, [0, 1, 5, 6, 7])], keepX := lookD [(4, [0, 5, 6])], span := lookN [(4, 368)], eff := fun n => memN n [], prep := lookP [], np := 0 }
theorem f57.l4.nat {R : Type} (k : Nat) (rec_ : ByteArray → Int → Int → Int → (List ByteArray) → Option (ByteArray × Int × (List ByteArray))) (g : (ByteArray × Int × (List ByteArray)) → Option R) (s3 : ByteArray) (a4 : Int) (a5 : Int) (a6 : Int) (xs7 : List ByteArray) : (f57.l4.step k rec_ some s3 a4 a5 a6 xs7).bind g = f57.l4.step k (fun s3 a4 a5 a6 xs7 => (rec_ s3 a4 a5 a6 xs7).bind g) g s3 a4 a5 a6 xs7 := by
  simp only [f57.l4.step, bind_ite, bind_sum, Option.bind_assoc, Option.bind_some, Option.bind_none]
theorem f57.l4.good (k : Nat) (s3 : ByteArray) (a4 : Int) (a5 : Int) (a6 : Int) (xs7 : List ByteArray) : GoodL (f57.X k) (nthC 0 (loopsOf (bodyOf Tryd.f57))) (f57.l4.st s3 a4 a5 a6 xs7) { α := (ByteArray × Int × (List ByteArray)), o := f57.l4 k k s3 a4 a5 a6 xs7, w := f57.l4.w } :=
  loop_good (ι := ByteArray × Int × Int × Int × (List ByteArray)) (α := (ByteArray × Int × (List ByteArray))) (fun i => f57.l4.st i.1 i.2.1 i.2.2.1 i.2.2.2.1 i.2.2.2.2) (fun j i => f57.l4 k j i.1 i.2.1 i.2.2.1 i.2.2.2.1 i.2.2.2.2) f57.l4.w (fun rec_ ret i => f57.l4.step k (fun s3 a4 a5 a6 xs7 => rec_ (s3, a4, a5, a6, xs7)) ret i.1 i.2.1 i.2.2.1 i.2.2.2.1 i.2.2.2.2)
    (fun _ => rfl) (fun _ _ => rfl) (fun rec_ g i => f57.l4.nat k _ g i.1 i.2.1 i.2.2.1 i.2.2.2.1 i.2.2.2.2) (fun {R} i0 i rec_ K => by kernel_rfl) k (s3, a4, a5, a6, xs7)
theorem f57.l4.all (k : Nat) (S : St env) : GoodL (f57.X k) (nthC 0 (loopsOf (bodyOf Tryd.f57))) S (f57.l4.hd k S.ts S.m S.n) := by
  obtain ⟨ts_, m_, n_⟩ := S
  show GoodL _ _ _ (f57.l4.hd k ts_ m_ n_)
  unfold f57.l4.hd
  refine gTs_ok (p := GoodL _ _ _) goodL_no fun _ h => ?_
  subst h
  refine gV_ok (p := GoodL _ _ _) goodL_no fun _ _ h => ?_
  subst h
  refine rV_ok (p := GoodL _ _ _) goodL_no fun _ h => ?_
  subst h
  refine vS_ok (p := GoodL _ _ _) goodL_no fun _ h => ?_
  subst h
  refine gV_ok (p := GoodL _ _ _) goodL_no fun _ _ h => ?_
  subst h
  refine rV_ok (p := GoodL _ _ _) goodL_no fun _ h => ?_
  subst h
  refine vI_ok (p := GoodL _ _ _) goodL_no fun _ h => ?_
  subst h
  refine gV_ok (p := GoodL _ _ _) goodL_no fun _ _ h => ?_
  subst h
  refine rRow_ok (p := GoodL _ _ _) goodL_no fun h => ?_
  subst h
  refine gV_ok (p := GoodL _ _ _) goodL_no fun _ _ h => ?_
  subst h
  refine rV_ok (p := GoodL _ _ _) goodL_no fun _ h => ?_
  subst h
  refine vI_ok (p := GoodL _ _ _) goodL_no fun _ h => ?_
  subst h
  refine gV_ok (p := GoodL _ _ _) goodL_no fun _ _ h => ?_
  subst h
  refine rV_ok (p := GoodL _ _ _) goodL_no fun _ h => ?_
  subst h
  refine vI_ok (p := GoodL _ _ _) goodL_no fun _ h => ?_
  subst h
  refine gE_ok (p := GoodL _ _ _) goodL_no fun h => ?_
  subst h
  refine mRow_ok (p := GoodL _ _ _) goodL_no fun _ _ h => ?_
  subst h
  refine gE_ok (p := GoodL _ _ _) goodL_no fun h => ?_
  subst h
  refine gN_ok (p := GoodL _ _ _) goodL_no fun h => ?_
  subst h
  exact f57.l4.good k _ _ _ _ _
theorem f57.nat {R : Type} (k : Nat) (g : ((List ByteArray)) → Option R) (s1 : ByteArray) (a2 : Int) : f57.step k g s1 a2 = (f57 k s1 a2).bind g := by
  simp only [f57, f57.step, bind_ite, bind_sum, Option.bind_assoc, Option.bind_some, Option.bind_none]
theorem f57.ev (k : Nat) (s1 : ByteArray) (a2 : Int) : evF (f57.X k) (bodyOf Tryd.f57) Tryd.f57.ntmps Tryd.f57.results.toList [.v (.c (.s (.string s1))), .v (.c (.s (.int .u8 a2)))] = f57.step k (fun x => f57.w x some) s1 a2 := by kernel_rfl
theorem f57.hok (k : Nat) : HOK (f57.X k) (bodyOf Tryd.f57) where
  l := allP_mem (by exact ⟨ls_of (h0 := fun S => f57.l4.hd k S.ts S.m S.n) (by kernel_rfl) (f57.l4.all k), trivial⟩)
  j := allP_mem (by exact trivial)
theorem f57.sound (k : Nat) : SoundC env Tryd.prog 57 ((f57.e k).F) := by
  intro ps_
  show GoodC _ _ _ ps_ (f57.hd k ps_)
  unfold f57.hd
  refine gC_ok (p := GoodC env Tryd.prog 57 _) goodC_no fun _ _ h => ?_
  subst h
  refine qC_ok (p := GoodC env Tryd.prog 57 _) goodC_no fun _ h => ?_
  subst h
  refine qS_ok (p := GoodC env Tryd.prog 57 _) goodC_no fun _ h => ?_
  subst h
  refine vS_ok (p := GoodC env Tryd.prog 57 _) goodC_no fun _ h => ?_
  subst h
  refine gC_ok (p := GoodC env Tryd.prog 57 _) goodC_no fun _ _ h => ?_
  subst h
  refine qC_ok (p := GoodC env Tryd.prog 57 _) goodC_no fun _ h => ?_
  subst h
  refine qS_ok (p := GoodC env Tryd.prog 57 _) goodC_no fun _ h => ?_
  subst h
  refine vI_ok (p := GoodC env Tryd.prog 57 _) goodC_no fun _ h => ?_
  subst h
  refine gE_ok (p := GoodC env Tryd.prog 57 _) goodC_no fun h => ?_
  subst h
  exact fun_good (fun_sound envOK (cs_sound _ (by exact trivial)) (f57.hok k) Tryd.func57 rfl) ((f57.ev k _ _).trans (f57.nat k _ _ _))
theorem f57.says (k : Nat) (s1 : ByteArray) (a2 : Int) (t11 : (List ByteArray)) (h_ : f57 k s1 a2 = some t11) : SoundAt env Tryd.prog 57 [.v (.c (.s (.string s1))), .v (.c (.s (.int .u8 a2)))] ⟨.v (.c (.own true 9 t11)), [[], []]⟩ :=
  fun_sound envOK (cs_sound _ (by exact trivial)) (f57.hok k) Tryd.func57 rfl _ _ (((f57.ev k s1 a2).trans (f57.nat k _ s1 a2)).trans (by rw [h_]; rfl))
theorem f57.fnok : FnOK Tryd.prog 57 := fn_ok Tryd.func57 (by kernel_rfl) rfl
def f38.l9.step {R : Type} (k : Nat) (rec_ : ByteArray → Int → Int → Int → Option R) (ret : ((Int × Bool × Int × Int) ⊕ (Int × Int)) → Option R) (s2 : ByteArray) (a3 : Int) (a4 : Int) (a5 : Int) : Option R :=
  if (decide (a5 < (((ByteArray.size s2) : Nat) : Int))) = true then
    if (0 : Int) ≤ a5 then
      if a5 < ((ByteArray.size s2 : Nat) : Int) then
        if (decide ((bt s2 a5) < (48 : Int))) = false then
          if (0 : Int) ≤ a5 then
            if a5 < ((ByteArray.size s2 : Nat) : Int) then
              if (decide ((bt s2 a5) > (57 : Int))) = true then
                ret (.inl ((0 : Int), false, a3, a4))
              else
                if (0 : Int) ≤ a5 then
                  if a5 < ((ByteArray.size s2 : Nat) : Int) then
                    rec_ s2 a3 (IntKind.i64.wrap ((IntKind.i64.wrap ((IntKind.i64.wrap (a4 * (10 : Int))) + (IntKind.i64.wrap (bt s2 a5)))) - (48 : Int))) (IntKind.i64.wrap (a5 + (1 : Int)))
                  else none
                else none
            else none
          else none
        else
          ret (.inl ((0 : Int), false, a3, a4))
      else none
    else none
  else
    ret (.inr (a3, a4))
def f38.l9 (k : Nat) : Nat → ByteArray → Int → Int → Int → Option ((Int × Bool × Int × Int) ⊕ (Int × Int))
  | 0, _, _, _, _ => none
  | j + 1, s2, a3, a4, a5 => f38.l9.step k (fun s2 a3 a4 a5 => f38.l9 k j s2 a3 a4 a5) some s2 a3 a4 a5
def f38.l9.w {R : Type} : ((Int × Bool × Int × Int) ⊕ (Int × Int)) → (Exit → St env → Option R) → Option R := fun x K => Sum.elim (fun t20 => K .ret ⟨fullT [2, 3, 4, 5] 0 66 [.v (.c (.s (.int .i64 t20.1))), .v (.c (.s (.bool t20.2.1))), .v (.c (.s (.int .i64 t20.2.2.1))), .v (.c (.s (.int .i64 t20.2.2.2)))], [], 1073⟩) (fun t21 => K (.exit 0) ⟨fullT [4, 5] 0 66 [.v (.c (.s (.int .i64 t21.1))), .v (.c (.s (.int .i64 t21.2)))], [], 1073⟩) x
def f38.l9.st (s2 : ByteArray) (a3 : Int) (a4 : Int) (a5 : Int) : St env := ⟨fullT [0, 4, 5, 6] 0 66 [.v (.c (.s (.string s2))), .v (.c (.s (.int .i64 a3))), .v (.c (.s (.int .i64 a4))), .v (.c (.s (.int .i64 a5)))], [], 625⟩
def f38.l9_1.step {R : Type} (k : Nat) (rec_ : ByteArray → Int → Int → Int → Option R) (ret : ((Int × Bool × Int × Int) ⊕ (Int × Int)) → Option R) (s8 : ByteArray) (a9 : Int) (a10 : Int) (a11 : Int) : Option R :=
  if (decide (a11 < (((ByteArray.size s8) : Nat) : Int))) = true then
    if (0 : Int) ≤ a11 then
      if a11 < ((ByteArray.size s8 : Nat) : Int) then
        if (decide ((bt s8 a11) < (48 : Int))) = false then
          if (0 : Int) ≤ a11 then
            if a11 < ((ByteArray.size s8 : Nat) : Int) then
              if (decide ((bt s8 a11) > (57 : Int))) = true then
                ret (.inl ((0 : Int), false, a9, a10))
              else
                if (0 : Int) ≤ a11 then
                  if a11 < ((ByteArray.size s8 : Nat) : Int) then
                    rec_ s8 a9 (IntKind.i64.wrap ((IntKind.i64.wrap ((IntKind.i64.wrap (a10 * (10 : Int))) + (IntKind.i64.wrap (bt s8 a11)))) - (48 : Int))) (IntKind.i64.wrap (a11 + (1 : Int)))
                  else none
                else none
            else none
          else none
        else
          ret (.inl ((0 : Int), false, a9, a10))
      else none
    else none
  else
    ret (.inr (a9, a10))
def f38.l9_1 (k : Nat) : Nat → ByteArray → Int → Int → Int → Option ((Int × Bool × Int × Int) ⊕ (Int × Int))
  | 0, _, _, _, _ => none
  | j + 1, s8, a9, a10, a11 => f38.l9_1.step k (fun s8 a9 a10 a11 => f38.l9_1 k j s8 a9 a10 a11) some s8 a9 a10 a11
def f38.l9_1.w {R : Type} : ((Int × Bool × Int × Int) ⊕ (Int × Int)) → (Exit → St env → Option R) → Option R := fun x K => Sum.elim (fun t22 => K .ret ⟨fullT [2, 3, 4, 5] 0 66 [.v (.c (.s (.int .i64 t22.1))), .v (.c (.s (.bool t22.2.1))), .v (.c (.s (.int .i64 t22.2.2.1))), .v (.c (.s (.int .i64 t22.2.2.2)))], [], 1009⟩) (fun t23 => K (.exit 0) ⟨fullT [4, 5] 0 66 [.v (.c (.s (.int .i64 t23.1))), .v (.c (.s (.int .i64 t23.2)))], [], 1009⟩) x
def f38.l9_1.st (s8 : ByteArray) (a9 : Int) (a10 : Int) (a11 : Int) : St env := ⟨fullT [0, 4, 5, 6] 0 66 [.v (.c (.s (.string s8))), .v (.c (.s (.int .i64 a9))), .v (.c (.s (.int .i64 a10))), .v (.c (.s (.int .i64 a11)))], [], 561⟩
def f38.l9_1.hd (k : Nat) (ts_ : List (AV env)) (mm_ : Mem env) (n_ : Nat) : LCl env :=
  gTs LCl.no [0, 4, 5, 6] 66 ts_ fun l_ => gV LCl.no l_ fun a_ l_ => rV LCl.no a_ fun v_ => vS LCl.no v_ fun s8 => gV LCl.no l_ fun a_ l_ => rV LCl.no a_ fun v_ => vI LCl.no .i64 v_ fun a9 => gV LCl.no l_ fun a_ l_ => rV LCl.no a_ fun v_ => vI LCl.no .i64 v_ fun a10 => gV LCl.no l_ fun a_ l_ => rV LCl.no a_ fun v_ => vI LCl.no .i64 v_ fun a11 => gE LCl.no l_ <| gE LCl.no mm_ <| gN LCl.no 561 n_ { α := (Int × Bool × Int × Int) ⊕ (Int × Int), o := f38.l9_1 k k s8 a9 a10 a11, w := f38.l9_1.w }
def f38.l9.hd (k : Nat) (ts_ : List (AV env)) (mm_ : Mem env) (n_ : Nat) : LCl env :=
  gTs (f38.l9_1.hd k ts_ mm_ n_) [0, 4, 5, 6] 66 ts_ fun l_ => gV (f38.l9_1.hd k ts_ mm_ n_) l_ fun a_ l_ => rV (f38.l9_1.hd k ts_ mm_ n_) a_ fun v_ => vS (f38.l9_1.hd k ts_ mm_ n_) v_ fun s2 => gV (f38.l9_1.hd k ts_ mm_ n_) l_ fun a_ l_ => rV (f38.l9_1.hd k ts_ mm_ n_) a_ fun v_ => vI (f38.l9_1.hd k ts_ mm_ n_) .i64 v_ fun a3 => gV (f38.l9_1.hd k ts_ mm_ n_) l_ fun a_ l_ => rV (f38.l9_1.hd k ts_ mm_ n_) a_ fun v_ => vI (f38.l9_1.hd k ts_ mm_ n_) .i64 v_ fun a4 => gV (f38.l9_1.hd k ts_ mm_ n_) l_ fun a_ l_ => rV (f38.l9_1.hd k ts_ mm_ n_) a_ fun v_ => vI (f38.l9_1.hd k ts_ mm_ n_) .i64 v_ fun a5 => gE (f38.l9_1.hd k ts_ mm_ n_) l_ <| gE (f38.l9_1.hd k ts_ mm_ n_) mm_ <| gN (f38.l9_1.hd k ts_ mm_ n_) 625 n_ { α := (Int × Bool × Int × Int) ⊕ (Int × Int), o := f38.l9 k k s2 a3 a4 a5, w := f38.l9.w }
def f38.step {R : Type} (k : Nat) (ret : (Int × Bool) → Option R) (s1 : ByteArray) : Option R :=
  if (decide ((((ByteArray.size s1) : Nat) : Int) > (0 : Int))) = true then
    if (0 : Int) < ((ByteArray.size s1 : Nat) : Int) then
      if (decide ((bt s1 (0 : Int)) = (45 : Int))) = true then
        if (1 : Int) ≤ ((ByteArray.size s1 : Nat) : Int) then
          if ((ByteArray.size s1 : Nat) : Int) ≤ ((ByteArray.size s1 : Nat) : Int) then
            if (decide ((((ByteArray.size (ByteArray.extract s1 1 (Int.toNat ((ByteArray.size s1 : Nat) : Int)))) : Nat) : Int) = (0 : Int))) = false then
              if (decide ((((ByteArray.size (ByteArray.extract s1 1 (Int.toNat ((ByteArray.size s1 : Nat) : Int)))) : Nat) : Int) > (18 : Int))) = false then
                if (0 : Int) < ((ByteArray.size (ByteArray.extract s1 1 (Int.toNat ((ByteArray.size s1 : Nat) : Int))) : Nat) : Int) then
                  if (decide ((bt (ByteArray.extract s1 1 (Int.toNat ((ByteArray.size s1 : Nat) : Int))) (0 : Int)) = (48 : Int))) = true then
                    if (decide ((((ByteArray.size (ByteArray.extract s1 1 (Int.toNat ((ByteArray.size s1 : Nat) : Int)))) : Nat) : Int) > (1 : Int))) = false then
                      ret ((0 : Int), false)
                    else
                      ret ((0 : Int), false)
                  else
                    (f38.l9 k k (ByteArray.extract s1 1 (Int.toNat ((ByteArray.size s1 : Nat) : Int))) (-1 : Int) (0 : Int) (0 : Int)).bind (Sum.elim (fun t6 => ret (t6.1, t6.2.1)) (fun t7 => ret ((IntKind.i64.wrap (t7.1 * t7.2)), true)))
                else none
              else
                ret ((0 : Int), false)
            else
              ret ((0 : Int), false)
          else none
        else none
      else
        if (decide ((((ByteArray.size s1) : Nat) : Int) = (0 : Int))) = false then
          if (decide ((((ByteArray.size s1) : Nat) : Int) > (18 : Int))) = false then
            if (0 : Int) < ((ByteArray.size s1 : Nat) : Int) then
              if (decide ((bt s1 (0 : Int)) = (48 : Int))) = true then
                if (decide ((((ByteArray.size s1) : Nat) : Int) > (1 : Int))) = false then
                  (f38.l9_1 k k s1 (1 : Int) (0 : Int) (0 : Int)).bind (Sum.elim (fun t12 => ret (t12.1, t12.2.1)) (fun t13 => ret ((IntKind.i64.wrap (t13.1 * t13.2)), true)))
                else
                  ret ((0 : Int), false)
              else
                (f38.l9_1 k k s1 (1 : Int) (0 : Int) (0 : Int)).bind (Sum.elim (fun t14 => ret (t14.1, t14.2.1)) (fun t15 => ret ((IntKind.i64.wrap (t15.1 * t15.2)), true)))
            else none
          else
            ret ((0 : Int), false)
        else
          ret ((0 : Int), false)
    else none
  else
    if (decide ((((ByteArray.size s1) : Nat) : Int) = (0 : Int))) = false then
      if (decide ((((ByteArray.size s1) : Nat) : Int) > (18 : Int))) = false then
        if (0 : Int) < ((ByteArray.size s1 : Nat) : Int) then
          if (decide ((bt s1 (0 : Int)) = (48 : Int))) = true then
            if (decide ((((ByteArray.size s1) : Nat) : Int) > (1 : Int))) = false then
              (f38.l9_1 k k s1 (1 : Int) (0 : Int) (0 : Int)).bind (Sum.elim (fun t16 => ret (t16.1, t16.2.1)) (fun t17 => ret ((IntKind.i64.wrap (t17.1 * t17.2)), true)))
            else
              ret ((0 : Int), false)
          else
            (f38.l9_1 k k s1 (1 : Int) (0 : Int) (0 : Int)).bind (Sum.elim (fun t18 => ret (t18.1, t18.2.1)) (fun t19 => ret ((IntKind.i64.wrap (t19.1 * t19.2)), true)))
        else none
      else
        ret ((0 : Int), false)
    else
      ret ((0 : Int), false)
def f38 (k : Nat) (s1 : ByteArray) : Option (Int × Bool) := f38.step k some s1
def f38.w {R : Type} : (Int × Bool) → (Res env → Option R) → Option R := fun t24 K => K ⟨.tup [.c (.s (.int .i64 t24.1)), .c (.s (.bool t24.2))], [[]]⟩
theorem f38.wn (x : (Int × Bool)) : ∃ res, ∀ {R : Type} (K : Res env → Option R), f38.w x K = K res := by
  exact ⟨_, fun _ => rfl⟩
def f38.hd (k : Nat) (ps_ : List (P2 env)) : Cl env :=
  gC Cl.no ps_ fun p_ ps_ => qC Cl.no p_ fun c_ => qS Cl.no c_ fun v_ => vS Cl.no v_ fun s1 => gE Cl.no ps_ <| { α := Int × Bool, o := f38 k s1, w := f38.w, nat := fun x _ => f38.wn x }
def f38.e (k : Nat) : Entry env := ⟨f38.hd k, [], []⟩
def f38.X (k : Nat) : Ctx env := { C := lookE [], L := lookE [(9, fun S => f38.l9.hd k S.ts S.m S.n)], J := lookE [], keep := lookD [(9, [0, 4, 5, 6])], keepX := lookD [(9, [2, 3, 4, 5])], span := lookN [(9, 448)], eff := fun n => memN n [], prep := lookP [], np := 0 }
theorem f38.l9_1.nat {R : Type} (k : Nat) (rec_ : ByteArray → Int → Int → Int → Option ((Int × Bool × Int × Int) ⊕ (Int × Int))) (g : ((Int × Bool × Int × Int) ⊕ (Int × Int)) → Option R) (s8 : ByteArray) (a9 : Int) (a10 : Int) (a11 : Int) : (f38.l9_1.step k rec_ some s8 a9 a10 a11).bind g = f38.l9_1.step k (fun s8 a9 a10 a11 => (rec_ s8 a9 a10 a11).bind g) g s8 a9 a10 a11 := by
  simp only [f38.l9_1.step, bind_ite, bind_sum, Option.bind_assoc, Option.bind_some, Option.bind_none]
theorem f38.l9_1.good (k : Nat) (s8 : ByteArray) (a9 : Int) (a10 : Int) (a11 : Int) : GoodL (f38.X k) (nthC 0 (loopsOf (bodyOf Tryd.f38))) (f38.l9_1.st s8 a9 a10 a11) { α := ((Int × Bool × Int × Int) ⊕ (Int × Int)), o := f38.l9_1 k k s8 a9 a10 a11, w := f38.l9_1.w } :=
  loop_good (ι := ByteArray × Int × Int × Int) (α := ((Int × Bool × Int × Int) ⊕ (Int × Int))) (fun i => f38.l9_1.st i.1 i.2.1 i.2.2.1 i.2.2.2) (fun j i => f38.l9_1 k j i.1 i.2.1 i.2.2.1 i.2.2.2) f38.l9_1.w (fun rec_ ret i => f38.l9_1.step k (fun s8 a9 a10 a11 => rec_ (s8, a9, a10, a11)) ret i.1 i.2.1 i.2.2.1 i.2.2.2)
    (fun _ => rfl) (fun _ _ => rfl) (fun rec_ g i => f38.l9_1.nat k _ g i.1 i.2.1 i.2.2.1 i.2.2.2) (fun {R} i0 i rec_ K => by kernel_rfl) k (s8, a9, a10, a11)
theorem f38.l9_1.all (k : Nat) (S : St env) : GoodL (f38.X k) (nthC 0 (loopsOf (bodyOf Tryd.f38))) S (f38.l9_1.hd k S.ts S.m S.n) := by
  obtain ⟨ts_, m_, n_⟩ := S
  show GoodL _ _ _ (f38.l9_1.hd k ts_ m_ n_)
  unfold f38.l9_1.hd
  refine gTs_ok (p := GoodL _ _ _) goodL_no fun _ h => ?_
  subst h
  refine gV_ok (p := GoodL _ _ _) goodL_no fun _ _ h => ?_
  subst h
  refine rV_ok (p := GoodL _ _ _) goodL_no fun _ h => ?_
  subst h
  refine vS_ok (p := GoodL _ _ _) goodL_no fun _ h => ?_
  subst h
  refine gV_ok (p := GoodL _ _ _) goodL_no fun _ _ h => ?_
  subst h
  refine rV_ok (p := GoodL _ _ _) goodL_no fun _ h => ?_
  subst h
  refine vI_ok (p := GoodL _ _ _) goodL_no fun _ h => ?_
  subst h
  refine gV_ok (p := GoodL _ _ _) goodL_no fun _ _ h => ?_
  subst h
  refine rV_ok (p := GoodL _ _ _) goodL_no fun _ h => ?_
  subst h
  refine vI_ok (p := GoodL _ _ _) goodL_no fun _ h => ?_
  subst h
  refine gV_ok (p := GoodL _ _ _) goodL_no fun _ _ h => ?_
  subst h
  refine rV_ok (p := GoodL _ _ _) goodL_no fun _ h => ?_
  subst h
  refine vI_ok (p := GoodL _ _ _) goodL_no fun _ h => ?_
  subst h
  refine gE_ok (p := GoodL _ _ _) goodL_no fun h => ?_
  subst h
  refine gE_ok (p := GoodL _ _ _) goodL_no fun h => ?_
  subst h
  refine gN_ok (p := GoodL _ _ _) goodL_no fun h => ?_
  subst h
  exact f38.l9_1.good k _ _ _ _
theorem f38.l9.nat {R : Type} (k : Nat) (rec_ : ByteArray → Int → Int → Int → Option ((Int × Bool × Int × Int) ⊕ (Int × Int))) (g : ((Int × Bool × Int × Int) ⊕ (Int × Int)) → Option R) (s2 : ByteArray) (a3 : Int) (a4 : Int) (a5 : Int) : (f38.l9.step k rec_ some s2 a3 a4 a5).bind g = f38.l9.step k (fun s2 a3 a4 a5 => (rec_ s2 a3 a4 a5).bind g) g s2 a3 a4 a5 := by
  simp only [f38.l9.step, bind_ite, bind_sum, Option.bind_assoc, Option.bind_some, Option.bind_none]
theorem f38.l9.good (k : Nat) (s2 : ByteArray) (a3 : Int) (a4 : Int) (a5 : Int) : GoodL (f38.X k) (nthC 0 (loopsOf (bodyOf Tryd.f38))) (f38.l9.st s2 a3 a4 a5) { α := ((Int × Bool × Int × Int) ⊕ (Int × Int)), o := f38.l9 k k s2 a3 a4 a5, w := f38.l9.w } :=
  loop_good (ι := ByteArray × Int × Int × Int) (α := ((Int × Bool × Int × Int) ⊕ (Int × Int))) (fun i => f38.l9.st i.1 i.2.1 i.2.2.1 i.2.2.2) (fun j i => f38.l9 k j i.1 i.2.1 i.2.2.1 i.2.2.2) f38.l9.w (fun rec_ ret i => f38.l9.step k (fun s2 a3 a4 a5 => rec_ (s2, a3, a4, a5)) ret i.1 i.2.1 i.2.2.1 i.2.2.2)
    (fun _ => rfl) (fun _ _ => rfl) (fun rec_ g i => f38.l9.nat k _ g i.1 i.2.1 i.2.2.1 i.2.2.2) (fun {R} i0 i rec_ K => by kernel_rfl) k (s2, a3, a4, a5)
theorem f38.l9.all (k : Nat) (S : St env) : GoodL (f38.X k) (nthC 0 (loopsOf (bodyOf Tryd.f38))) S (f38.l9.hd k S.ts S.m S.n) := by
  obtain ⟨ts_, m_, n_⟩ := S
  have hN_ := f38.l9_1.all k ⟨ts_, m_, n_⟩
  show GoodL _ _ _ (f38.l9.hd k ts_ m_ n_)
  unfold f38.l9.hd
  refine gTs_ok (p := GoodL _ _ _) hN_ fun _ h => ?_
  subst h
  refine gV_ok (p := GoodL _ _ _) hN_ fun _ _ h => ?_
  subst h
  refine rV_ok (p := GoodL _ _ _) hN_ fun _ h => ?_
  subst h
  refine vS_ok (p := GoodL _ _ _) hN_ fun _ h => ?_
  subst h
  refine gV_ok (p := GoodL _ _ _) hN_ fun _ _ h => ?_
  subst h
  refine rV_ok (p := GoodL _ _ _) hN_ fun _ h => ?_
  subst h
  refine vI_ok (p := GoodL _ _ _) hN_ fun _ h => ?_
  subst h
  refine gV_ok (p := GoodL _ _ _) hN_ fun _ _ h => ?_
  subst h
  refine rV_ok (p := GoodL _ _ _) hN_ fun _ h => ?_
  subst h
  refine vI_ok (p := GoodL _ _ _) hN_ fun _ h => ?_
  subst h
  refine gV_ok (p := GoodL _ _ _) hN_ fun _ _ h => ?_
  subst h
  refine rV_ok (p := GoodL _ _ _) hN_ fun _ h => ?_
  subst h
  refine vI_ok (p := GoodL _ _ _) hN_ fun _ h => ?_
  subst h
  refine gE_ok (p := GoodL _ _ _) hN_ fun h => ?_
  subst h
  refine gE_ok (p := GoodL _ _ _) hN_ fun h => ?_
  subst h
  refine gN_ok (p := GoodL _ _ _) hN_ fun h => ?_
  subst h
  exact f38.l9.good k _ _ _ _
theorem f38.nat {R : Type} (k : Nat) (g : (Int × Bool) → Option R) (s1 : ByteArray) : f38.step k g s1 = (f38 k s1).bind g := by
  simp only [f38, f38.step, bind_ite, bind_sum, Option.bind_assoc, Option.bind_some, Option.bind_none]
theorem f38.ev (k : Nat) (s1 : ByteArray) : evF (f38.X k) (bodyOf Tryd.f38) Tryd.f38.ntmps Tryd.f38.results.toList [.v (.c (.s (.string s1)))] = f38.step k (fun x => f38.w x some) s1 := by kernel_rfl
theorem f38.hok (k : Nat) : HOK (f38.X k) (bodyOf Tryd.f38) where
  l := allP_mem (by exact ⟨ls_of (h0 := fun S => f38.l9.hd k S.ts S.m S.n) (by kernel_rfl) (f38.l9.all k), trivial⟩)
  j := allP_mem (by exact trivial)
theorem f38.sound (k : Nat) : SoundC env Tryd.prog 38 ((f38.e k).F) := by
  intro ps_
  show GoodC _ _ _ ps_ (f38.hd k ps_)
  unfold f38.hd
  refine gC_ok (p := GoodC env Tryd.prog 38 _) goodC_no fun _ _ h => ?_
  subst h
  refine qC_ok (p := GoodC env Tryd.prog 38 _) goodC_no fun _ h => ?_
  subst h
  refine qS_ok (p := GoodC env Tryd.prog 38 _) goodC_no fun _ h => ?_
  subst h
  refine vS_ok (p := GoodC env Tryd.prog 38 _) goodC_no fun _ h => ?_
  subst h
  refine gE_ok (p := GoodC env Tryd.prog 38 _) goodC_no fun h => ?_
  subst h
  exact fun_good (fun_sound envOK (cs_sound _ (by exact trivial)) (f38.hok k) Tryd.func38 rfl) ((f38.ev k _).trans (f38.nat k _ _))
theorem f38.says (k : Nat) (s1 : ByteArray) (t25 : Int × Bool) (h_ : f38 k s1 = some t25) : SoundAt env Tryd.prog 38 [.v (.c (.s (.string s1)))] ⟨.tup [.c (.s (.int .i64 t25.1)), .c (.s (.bool t25.2))], [[]]⟩ :=
  fun_sound envOK (cs_sound _ (by exact trivial)) (f38.hok k) Tryd.func38 rfl _ _ (((f38.ev k s1).trans (f38.nat k _ s1)).trans (by rw [h_]; rfl))
theorem f38.fnok : FnOK Tryd.prog 38 := fn_ok Tryd.func38 (by kernel_rfl) rfl
def f39.step {R : Type} (k : Nat) (ret : Bool → Option R) (a1 : Int) (a2 : Int) (a3 : Int) : Option R :=
  if (decide (a1 ≥ a2)) = true then
    ret (decide (a1 ≤ a3))
  else
    ret false
def f39 (k : Nat) (a1 : Int) (a2 : Int) (a3 : Int) : Option Bool := f39.step k some a1 a2 a3
def f39.w {R : Type} : Bool → (Res env → Option R) → Option R := fun t4 K => K ⟨.v (.c (.s (.bool t4))), [[], [], []]⟩
theorem f39.wn (x : Bool) : ∃ res, ∀ {R : Type} (K : Res env → Option R), f39.w x K = K res := by
  exact ⟨_, fun _ => rfl⟩
def f39.hd (k : Nat) (ps_ : List (P2 env)) : Cl env :=
  gC Cl.no ps_ fun p_ ps_ => qC Cl.no p_ fun c_ => qS Cl.no c_ fun v_ => vI Cl.no .i64 v_ fun a1 => gC Cl.no ps_ fun p_ ps_ => qC Cl.no p_ fun c_ => qS Cl.no c_ fun v_ => vI Cl.no .i64 v_ fun a2 => gC Cl.no ps_ fun p_ ps_ => qC Cl.no p_ fun c_ => qS Cl.no c_ fun v_ => vI Cl.no .i64 v_ fun a3 => gE Cl.no ps_ <| { α := Bool, o := f39 k a1 a2 a3, w := f39.w, nat := fun x _ => f39.wn x }
def f39.e (k : Nat) : Entry env := ⟨f39.hd k, [], []⟩
def f39.X (k : Nat) : Ctx env := { C := lookE [], L := lookE [], J := lookE [], keep := lookD [], keepX := lookD [], span := lookN [], eff := fun n => memN n [], prep := lookP [], np := 0 }
theorem f39.nat {R : Type} (k : Nat) (g : Bool → Option R) (a1 : Int) (a2 : Int) (a3 : Int) : f39.step k g a1 a2 a3 = (f39 k a1 a2 a3).bind g := by
  simp only [f39, f39.step, bind_ite, bind_sum, Option.bind_assoc, Option.bind_some, Option.bind_none]
theorem f39.ev (k : Nat) (a1 : Int) (a2 : Int) (a3 : Int) : evF (f39.X k) (bodyOf Tryd.f39) Tryd.f39.ntmps Tryd.f39.results.toList [.v (.c (.s (.int .i64 a1))), .v (.c (.s (.int .i64 a2))), .v (.c (.s (.int .i64 a3)))] = f39.step k (fun x => f39.w x some) a1 a2 a3 := by kernel_rfl
theorem f39.hok (k : Nat) : HOK (f39.X k) (bodyOf Tryd.f39) where
  l := allP_mem (by exact trivial)
  j := allP_mem (by exact trivial)
theorem f39.sound (k : Nat) : SoundC env Tryd.prog 39 ((f39.e k).F) := by
  intro ps_
  show GoodC _ _ _ ps_ (f39.hd k ps_)
  unfold f39.hd
  refine gC_ok (p := GoodC env Tryd.prog 39 _) goodC_no fun _ _ h => ?_
  subst h
  refine qC_ok (p := GoodC env Tryd.prog 39 _) goodC_no fun _ h => ?_
  subst h
  refine qS_ok (p := GoodC env Tryd.prog 39 _) goodC_no fun _ h => ?_
  subst h
  refine vI_ok (p := GoodC env Tryd.prog 39 _) goodC_no fun _ h => ?_
  subst h
  refine gC_ok (p := GoodC env Tryd.prog 39 _) goodC_no fun _ _ h => ?_
  subst h
  refine qC_ok (p := GoodC env Tryd.prog 39 _) goodC_no fun _ h => ?_
  subst h
  refine qS_ok (p := GoodC env Tryd.prog 39 _) goodC_no fun _ h => ?_
  subst h
  refine vI_ok (p := GoodC env Tryd.prog 39 _) goodC_no fun _ h => ?_
  subst h
  refine gC_ok (p := GoodC env Tryd.prog 39 _) goodC_no fun _ _ h => ?_
  subst h
  refine qC_ok (p := GoodC env Tryd.prog 39 _) goodC_no fun _ h => ?_
  subst h
  refine qS_ok (p := GoodC env Tryd.prog 39 _) goodC_no fun _ h => ?_
  subst h
  refine vI_ok (p := GoodC env Tryd.prog 39 _) goodC_no fun _ h => ?_
  subst h
  refine gE_ok (p := GoodC env Tryd.prog 39 _) goodC_no fun h => ?_
  subst h
  exact fun_good (fun_sound envOK (cs_sound _ (by exact trivial)) (f39.hok k) Tryd.func39 rfl) ((f39.ev k _ _ _).trans (f39.nat k _ _ _ _))
theorem f39.says (k : Nat) (a1 : Int) (a2 : Int) (a3 : Int) (t5 : Bool) (h_ : f39 k a1 a2 a3 = some t5) : SoundAt env Tryd.prog 39 [.v (.c (.s (.int .i64 a1))), .v (.c (.s (.int .i64 a2))), .v (.c (.s (.int .i64 a3)))] ⟨.v (.c (.s (.bool t5))), [[], [], []]⟩ :=
  fun_sound envOK (cs_sound _ (by exact trivial)) (f39.hok k) Tryd.func39 rfl _ _ (((f39.ev k a1 a2 a3).trans (f39.nat k _ a1 a2 a3)).trans (by rw [h_]; rfl))
theorem f39.fnok : FnOK Tryd.prog 39 := fn_ok Tryd.func39 (by kernel_rfl) rfl
def f34.l4.step {R : Type} (k : Nat) (rec_ : Int → (List Int) → (List ByteArray) → Option R) (ret : ((ByteArray × Bool × (List Int)) ⊕ ((List Int))) → Option R) (a3 : Int) (xs4 : List Int) (xs5 : List ByteArray) : Option R :=
  if (decide (a3 < (((List.length xs5) : Nat) : Int))) = true then
    if (0 : Int) ≤ a3 then
      if a3 < ((List.length xs5 : Nat) : Int) then
        (f38 k (List.getD xs5 (Int.toNat a3) ByteArray.empty)).bind fun t6 => if (!t6.2) = false then
            (f39 k t6.1 (0 : Int) (255 : Int)).bind fun t7 => if (!t7) = true then
                ret (.inl ((⟨#[]⟩ : ByteArray), false, xs4))
              else
                if (List.length xs4 + List.length ([(IntKind.u8.wrap t6.1)] : List Int)) * 1 ≤ maxN then
                  rec_ (IntKind.i64.wrap (a3 + (1 : Int))) (xs4 ++ ([(IntKind.u8.wrap t6.1)] : List Int)) xs5
                else none
          else
            ret (.inl ((⟨#[]⟩ : ByteArray), false, xs4))
      else none
    else none
  else
    ret (.inr xs4)
def f34.l4 (k : Nat) : Nat → Int → (List Int) → (List ByteArray) → Option ((ByteArray × Bool × (List Int)) ⊕ ((List Int)))
  | 0, _, _, _ => none
  | j + 1, a3, xs4, xs5 => f34.l4.step k (fun a3 xs4 xs5 => f34.l4 k j a3 xs4 xs5) some a3 xs4 xs5
def f34.l4.w {R : Type} : ((ByteArray × Bool × (List Int)) ⊕ ((List Int))) → (Exit → St env → Option R) → Option R := fun x K => Sum.elim (fun t10 => K .ret ⟨fullT [2, 3, 4] 0 43 [.v (.c (.s (.string t10.1))), .v (.c (.s (.bool t10.2.1))), .v (.c (.row 33))], [(33, .row true 5 t10.2.2)], 641⟩) (fun t11 => K (.exit 0) ⟨fullT [4] 0 43 [.v (.c (.row 33))], [(33, .row true 5 t11)], 641⟩) x
def f34.l4.st (a3 : Int) (xs4 : List Int) (xs5 : List ByteArray) : St env := ⟨fullT [4, 5, 6] 0 43 [.v (.c (.row 33)), .v (.c (.row 81)), .v (.c (.s (.int .i64 a3)))], [(33, .row true 5 xs4), (81, .row true 9 xs5)], 129⟩
def f34.l4.hd (k : Nat) (ts_ : List (AV env)) (mm_ : Mem env) (n_ : Nat) : LCl env :=
  gTs LCl.no [4, 5, 6] 43 ts_ fun l_ => gV LCl.no l_ fun a_ l_ => rRow LCl.no 33 a_ <| gV LCl.no l_ fun a_ l_ => rRow LCl.no 81 a_ <| gV LCl.no l_ fun a_ l_ => rV LCl.no a_ fun v_ => vI LCl.no .i64 v_ fun a3 => gE LCl.no l_ <| mRow LCl.no 33 true 5 mm_ fun xs4 m_ => mRow LCl.no 81 true 9 m_ fun xs5 m_ => gE LCl.no m_ <| gN LCl.no 129 n_ { α := (ByteArray × Bool × (List Int)) ⊕ ((List Int)), o := f34.l4 k k a3 xs4 xs5, w := f34.l4.w }
def f34.step {R : Type} (k : Nat) (ret : (ByteArray × Bool) → Option R) (s1 : ByteArray) : Option R :=
  (f57 k s1 (46 : Int)).bind fun t2 => (f34.l4 k k (0 : Int) ([] : List Int) t2).bind (Sum.elim (fun t8 => ret (t8.1, t8.2.1)) (fun t9 => ret ((strOf t9), (decide ((((List.length t9) : Nat) : Int) = (4 : Int))))))
def f34 (k : Nat) (s1 : ByteArray) : Option (ByteArray × Bool) := f34.step k some s1
def f34.w {R : Type} : (ByteArray × Bool) → (Res env → Option R) → Option R := fun t12 K => K ⟨.tup [.c (.s (.string t12.1)), .c (.s (.bool t12.2))], [[]]⟩
theorem f34.wn (x : (ByteArray × Bool)) : ∃ res, ∀ {R : Type} (K : Res env → Option R), f34.w x K = K res := by
  exact ⟨_, fun _ => rfl⟩
def f34.hd (k : Nat) (ps_ : List (P2 env)) : Cl env :=
  gC Cl.no ps_ fun p_ ps_ => qC Cl.no p_ fun c_ => qS Cl.no c_ fun v_ => vS Cl.no v_ fun s1 => gE Cl.no ps_ <| { α := ByteArray × Bool, o := f34 k s1, w := f34.w, nat := fun x _ => f34.wn x }
def f34.e (k : Nat) : Entry env := ⟨f34.hd k, [], []⟩
def f34.X (k : Nat) : Ctx env := { C := lookE [(38, f38.e k), (39, f39.e k), (57, f57.e k)], L := lookE [(4, fun S => f34.l4.hd k S.ts S.m S.n)], J := lookE [], keep := lookD [(4, [4, 5, 6])], keepX := lookD [(4, [2, 3, 4])], span := lookN [(4, 512)], eff := fun n => memN n [], prep := lookP [], np := 0 }
theorem f34.l4.nat {R : Type} (k : Nat) (rec_ : Int → (List Int) → (List ByteArray) → Option ((ByteArray × Bool × (List Int)) ⊕ ((List Int)))) (g : ((ByteArray × Bool × (List Int)) ⊕ ((List Int))) → Option R) (a3 : Int) (xs4 : List Int) (xs5 : List ByteArray) : (f34.l4.step k rec_ some a3 xs4 xs5).bind g = f34.l4.step k (fun a3 xs4 xs5 => (rec_ a3 xs4 xs5).bind g) g a3 xs4 xs5 := by
  simp only [f34.l4.step, bind_ite, bind_sum, Option.bind_assoc, Option.bind_some, Option.bind_none]
theorem f34.l4.good (k : Nat) (a3 : Int) (xs4 : List Int) (xs5 : List ByteArray) : GoodL (f34.X k) (nthC 0 (loopsOf (bodyOf Tryd.f34))) (f34.l4.st a3 xs4 xs5) { α := ((ByteArray × Bool × (List Int)) ⊕ ((List Int))), o := f34.l4 k k a3 xs4 xs5, w := f34.l4.w } :=
  loop_good (ι := Int × (List Int) × (List ByteArray)) (α := ((ByteArray × Bool × (List Int)) ⊕ ((List Int)))) (fun i => f34.l4.st i.1 i.2.1 i.2.2) (fun j i => f34.l4 k j i.1 i.2.1 i.2.2) f34.l4.w (fun rec_ ret i => f34.l4.step k (fun a3 xs4 xs5 => rec_ (a3, xs4, xs5)) ret i.1 i.2.1 i.2.2)
    (fun _ => rfl) (fun _ _ => rfl) (fun rec_ g i => f34.l4.nat k _ g i.1 i.2.1 i.2.2) (fun {R} i0 i rec_ K => by kernel_rfl) k (a3, xs4, xs5)
theorem f34.l4.all (k : Nat) (S : St env) : GoodL (f34.X k) (nthC 0 (loopsOf (bodyOf Tryd.f34))) S (f34.l4.hd k S.ts S.m S.n) := by
  obtain ⟨ts_, m_, n_⟩ := S
  show GoodL _ _ _ (f34.l4.hd k ts_ m_ n_)
  unfold f34.l4.hd
  refine gTs_ok (p := GoodL _ _ _) goodL_no fun _ h => ?_
  subst h
  refine gV_ok (p := GoodL _ _ _) goodL_no fun _ _ h => ?_
  subst h
  refine rRow_ok (p := GoodL _ _ _) goodL_no fun h => ?_
  subst h
  refine gV_ok (p := GoodL _ _ _) goodL_no fun _ _ h => ?_
  subst h
  refine rRow_ok (p := GoodL _ _ _) goodL_no fun h => ?_
  subst h
  refine gV_ok (p := GoodL _ _ _) goodL_no fun _ _ h => ?_
  subst h
  refine rV_ok (p := GoodL _ _ _) goodL_no fun _ h => ?_
  subst h
  refine vI_ok (p := GoodL _ _ _) goodL_no fun _ h => ?_
  subst h
  refine gE_ok (p := GoodL _ _ _) goodL_no fun h => ?_
  subst h
  refine mRow_ok (p := GoodL _ _ _) goodL_no fun _ _ h => ?_
  subst h
  refine mRow_ok (p := GoodL _ _ _) goodL_no fun _ _ h => ?_
  subst h
  refine gE_ok (p := GoodL _ _ _) goodL_no fun h => ?_
  subst h
  refine gN_ok (p := GoodL _ _ _) goodL_no fun h => ?_
  subst h
  exact f34.l4.good k _ _ _
theorem f34.nat {R : Type} (k : Nat) (g : (ByteArray × Bool) → Option R) (s1 : ByteArray) : f34.step k g s1 = (f34 k s1).bind g := by
  simp only [f34, f34.step, bind_ite, bind_sum, Option.bind_assoc, Option.bind_some, Option.bind_none]
theorem f34.ev (k : Nat) (s1 : ByteArray) : evF (f34.X k) (bodyOf Tryd.f34) Tryd.f34.ntmps Tryd.f34.results.toList [.v (.c (.s (.string s1)))] = f34.step k (fun x => f34.w x some) s1 := by kernel_rfl
theorem f34.hok (k : Nat) : HOK (f34.X k) (bodyOf Tryd.f34) where
  l := allP_mem (by exact ⟨ls_of (h0 := fun S => f34.l4.hd k S.ts S.m S.n) (by kernel_rfl) (f34.l4.all k), trivial⟩)
  j := allP_mem (by exact trivial)
theorem f34.sound (k : Nat) : SoundC env Tryd.prog 34 ((f34.e k).F) := by
  intro ps_
  show GoodC _ _ _ ps_ (f34.hd k ps_)
  unfold f34.hd
  refine gC_ok (p := GoodC env Tryd.prog 34 _) goodC_no fun _ _ h => ?_
  subst h
  refine qC_ok (p := GoodC env Tryd.prog 34 _) goodC_no fun _ h => ?_
  subst h
  refine qS_ok (p := GoodC env Tryd.prog 34 _) goodC_no fun _ h => ?_
  subst h
  refine vS_ok (p := GoodC env Tryd.prog 34 _) goodC_no fun _ h => ?_
  subst h
  refine gE_ok (p := GoodC env Tryd.prog 34 _) goodC_no fun h => ?_
  subst h
  exact fun_good (fun_sound envOK (cs_sound _ (by exact ⟨⟨f38.sound k, f38.fnok⟩, ⟨f39.sound k, f39.fnok⟩, ⟨f57.sound k, f57.fnok⟩, trivial⟩)) (f34.hok k) Tryd.func34 rfl) ((f34.ev k _).trans (f34.nat k _ _))
theorem f34.says (k : Nat) (s1 : ByteArray) (t13 : ByteArray × Bool) (h_ : f34 k s1 = some t13) : SoundAt env Tryd.prog 34 [.v (.c (.s (.string s1)))] ⟨.tup [.c (.s (.string t13.1)), .c (.s (.bool t13.2))], [[]]⟩ :=
  fun_sound envOK (cs_sound _ (by exact ⟨⟨f38.sound k, f38.fnok⟩, ⟨f39.sound k, f39.fnok⟩, ⟨f57.sound k, f57.fnok⟩, trivial⟩)) (f34.hok k) Tryd.func34 rfl _ _ (((f34.ev k s1).trans (f34.nat k _ s1)).trans (by rw [h_]; rfl))
theorem f34.fnok : FnOK Tryd.prog 34 := fn_ok Tryd.func34 (by kernel_rfl) rfl
def f68.step {R : Type} (k : Nat) (ret : Int → Option R) (a1 : Int) : Option R :=
  if (decide (a1 ≥ (48 : Int))) = true then
    if (decide (a1 ≤ (57 : Int))) = true then
      ret (IntKind.i64.wrap ((IntKind.i64.wrap a1) - (48 : Int)))
    else
      if (decide (a1 ≥ (97 : Int))) = true then
        if (decide (a1 ≤ (102 : Int))) = true then
          ret (IntKind.i64.wrap ((IntKind.i64.wrap ((IntKind.i64.wrap a1) - (97 : Int))) + (10 : Int)))
        else
          if (decide (a1 ≥ (65 : Int))) = true then
            if (decide (a1 ≤ (70 : Int))) = true then
              ret (IntKind.i64.wrap ((IntKind.i64.wrap ((IntKind.i64.wrap a1) - (65 : Int))) + (10 : Int)))
            else
              ret (-1 : Int)
          else
            ret (-1 : Int)
      else
        if (decide (a1 ≥ (65 : Int))) = true then
          if (decide (a1 ≤ (70 : Int))) = true then
            ret (IntKind.i64.wrap ((IntKind.i64.wrap ((IntKind.i64.wrap a1) - (65 : Int))) + (10 : Int)))
          else
            ret (-1 : Int)
        else
          ret (-1 : Int)
  else
    if (decide (a1 ≥ (97 : Int))) = true then
      if (decide (a1 ≤ (102 : Int))) = true then
        ret (IntKind.i64.wrap ((IntKind.i64.wrap ((IntKind.i64.wrap a1) - (97 : Int))) + (10 : Int)))
      else
        if (decide (a1 ≥ (65 : Int))) = true then
          if (decide (a1 ≤ (70 : Int))) = true then
            ret (IntKind.i64.wrap ((IntKind.i64.wrap ((IntKind.i64.wrap a1) - (65 : Int))) + (10 : Int)))
          else
            ret (-1 : Int)
        else
          ret (-1 : Int)
    else
      if (decide (a1 ≥ (65 : Int))) = true then
        if (decide (a1 ≤ (70 : Int))) = true then
          ret (IntKind.i64.wrap ((IntKind.i64.wrap ((IntKind.i64.wrap a1) - (65 : Int))) + (10 : Int)))
        else
          ret (-1 : Int)
      else
        ret (-1 : Int)
def f68 (k : Nat) (a1 : Int) : Option Int := f68.step k some a1
def f68.w {R : Type} : Int → (Res env → Option R) → Option R := fun t2 K => K ⟨.v (.c (.s (.int .i64 t2))), [[]]⟩
theorem f68.wn (x : Int) : ∃ res, ∀ {R : Type} (K : Res env → Option R), f68.w x K = K res := by
  exact ⟨_, fun _ => rfl⟩
def f68.hd (k : Nat) (ps_ : List (P2 env)) : Cl env :=
  gC Cl.no ps_ fun p_ ps_ => qC Cl.no p_ fun c_ => qS Cl.no c_ fun v_ => vI Cl.no .u8 v_ fun a1 => gE Cl.no ps_ <| { α := Int, o := f68 k a1, w := f68.w, nat := fun x _ => f68.wn x }
def f68.e (k : Nat) : Entry env := ⟨f68.hd k, [], []⟩
def f68.X (k : Nat) : Ctx env := { C := lookE [], L := lookE [], J := lookE [], keep := lookD [], keepX := lookD [], span := lookN [], eff := fun n => memN n [], prep := lookP [], np := 0 }
theorem f68.nat {R : Type} (k : Nat) (g : Int → Option R) (a1 : Int) : f68.step k g a1 = (f68 k a1).bind g := by
  simp only [f68, f68.step, bind_ite, bind_sum, Option.bind_assoc, Option.bind_some, Option.bind_none]
theorem f68.ev (k : Nat) (a1 : Int) : evF (f68.X k) (bodyOf Tryd.f68) Tryd.f68.ntmps Tryd.f68.results.toList [.v (.c (.s (.int .u8 a1)))] = f68.step k (fun x => f68.w x some) a1 := by kernel_rfl
theorem f68.hok (k : Nat) : HOK (f68.X k) (bodyOf Tryd.f68) where
  l := allP_mem (by exact trivial)
  j := allP_mem (by exact trivial)
theorem f68.sound (k : Nat) : SoundC env Tryd.prog 68 ((f68.e k).F) := by
  intro ps_
  show GoodC _ _ _ ps_ (f68.hd k ps_)
  unfold f68.hd
  refine gC_ok (p := GoodC env Tryd.prog 68 _) goodC_no fun _ _ h => ?_
  subst h
  refine qC_ok (p := GoodC env Tryd.prog 68 _) goodC_no fun _ h => ?_
  subst h
  refine qS_ok (p := GoodC env Tryd.prog 68 _) goodC_no fun _ h => ?_
  subst h
  refine vI_ok (p := GoodC env Tryd.prog 68 _) goodC_no fun _ h => ?_
  subst h
  refine gE_ok (p := GoodC env Tryd.prog 68 _) goodC_no fun h => ?_
  subst h
  exact fun_good (fun_sound envOK (cs_sound _ (by exact trivial)) (f68.hok k) Tryd.func68 rfl) ((f68.ev k _).trans (f68.nat k _ _))
theorem f68.says (k : Nat) (a1 : Int) (t3 : Int) (h_ : f68 k a1 = some t3) : SoundAt env Tryd.prog 68 [.v (.c (.s (.int .u8 a1)))] ⟨.v (.c (.s (.int .i64 t3))), [[]]⟩ :=
  fun_sound envOK (cs_sound _ (by exact trivial)) (f68.hok k) Tryd.func68 rfl _ _ (((f68.ev k a1).trans (f68.nat k _ a1)).trans (by rw [h_]; rfl))
theorem f68.fnok : FnOK Tryd.prog 68 := fn_ok Tryd.func68 (by kernel_rfl) rfl
def f58.l13.step {R : Type} (k : Nat) (rec_ : Int → ByteArray → Int → Int → (List Int) → (List ByteArray) → Option R) (ret : ((Bool × Int × Int × (List Int) × (List ByteArray)) ⊕ (Int × Int × (List Int) × (List ByteArray))) → Option R) (a6 : Int) (s7 : ByteArray) (a8 : Int) (a9 : Int) (xs10 : List Int) (xs11 : List ByteArray) : Option R :=
  if (decide (a9 < (((ByteArray.size s7) : Nat) : Int))) = true then
    if (0 : Int) ≤ a9 then
      if a9 < ((ByteArray.size s7 : Nat) : Int) then
        (f68 k (bt s7 a9)).bind fun t12 => if (decide (t12 < (0 : Int))) = true then
            ret (.inl (false, a6, a8, xs10, xs11))
          else
            rec_ a6 s7 (IntKind.i64.wrap ((IntKind.i64.wrap (a8 * (16 : Int))) + t12)) (IntKind.i64.wrap (a9 + (1 : Int))) xs10 xs11
      else none
    else none
  else
    ret (.inr (a6, a8, xs10, xs11))
def f58.l13 (k : Nat) : Nat → Int → ByteArray → Int → Int → (List Int) → (List ByteArray) → Option ((Bool × Int × Int × (List Int) × (List ByteArray)) ⊕ (Int × Int × (List Int) × (List ByteArray)))
  | 0, _, _, _, _, _, _ => none
  | j + 1, a6, s7, a8, a9, xs10, xs11 => f58.l13.step k (fun a6 s7 a8 a9 xs10 xs11 => f58.l13 k j a6 s7 a8 a9 xs10 xs11) some a6 s7 a8 a9 xs10 xs11
def f58.l13.w {R : Type} : ((Bool × Int × Int × (List Int) × (List ByteArray)) ⊕ (Int × Int × (List Int) × (List ByteArray))) → (Exit → St env → Option R) → Option R := fun x K => Sum.elim (fun t17 => K .ret ⟨fullT [2, 3, 4, 5, 6, 8] 0 66 [.v (.c (.row 33)), .v (.c (.s (.bool t17.1))), .v (.c (.row 33)), .v (.c (.row 113)), .v (.c (.s (.int .i64 t17.2.1))), .v (.c (.s (.int .i64 t17.2.2.1)))], [(33, .row true 5 t17.2.2.2.1), (113, .row true 9 t17.2.2.2.2)], 817⟩) (fun t18 => K (.exit 2) ⟨fullT [4, 5, 6, 8] 0 66 [.v (.c (.row 33)), .v (.c (.row 113)), .v (.c (.s (.int .i64 t18.1))), .v (.c (.s (.int .i64 t18.2.1)))], [(33, .row true 5 t18.2.2.1), (113, .row true 9 t18.2.2.2)], 817⟩) x
def f58.l13.st (a6 : Int) (s7 : ByteArray) (a8 : Int) (a9 : Int) (xs10 : List Int) (xs11 : List ByteArray) : St env := ⟨fullT [4, 5, 6, 7, 8, 9] 0 66 [.v (.c (.row 33)), .v (.c (.row 113)), .v (.c (.s (.int .i64 a6))), .v (.c (.s (.string s7))), .v (.c (.s (.int .i64 a8))), .v (.c (.s (.int .i64 a9)))], [(33, .row true 5 xs10), (113, .row true 9 xs11)], 465⟩
def f58.l6.step {R : Type} (k : Nat) (rec_ : Int → (List Int) → (List ByteArray) → Option R) (ret : ((Bool × (List Int)) ⊕ ((List Int))) → Option R) (a3 : Int) (xs4 : List Int) (xs5 : List ByteArray) : Option R :=
  if (decide (a3 < (((List.length xs5) : Nat) : Int))) = true then
    if (0 : Int) ≤ a3 then
      if a3 < ((List.length xs5 : Nat) : Int) then
        if (decide ((((ByteArray.size (List.getD xs5 (Int.toNat a3) ByteArray.empty)) : Nat) : Int) = (0 : Int))) = false then
          if (decide ((((ByteArray.size (List.getD xs5 (Int.toNat a3) ByteArray.empty)) : Nat) : Int) > (4 : Int))) = true then
            ret (.inl (false, xs4))
          else
            (f58.l13 k k a3 (List.getD xs5 (Int.toNat a3) ByteArray.empty) (0 : Int) (0 : Int) xs4 xs5).bind (Sum.elim (fun t13 => ret (.inl (t13.1, t13.2.2.2.1))) (fun t14 => if (List.length t14.2.2.1 + List.length ([(IntKind.u8.wrap (IntKind.i64.wrap (Int.tdiv t14.2.1 (256 : Int)))), (IntKind.u8.wrap (Int.tmod t14.2.1 (256 : Int)))] : List Int)) * 1 ≤ maxN then
                rec_ (IntKind.i64.wrap (t14.1 + (1 : Int))) (t14.2.2.1 ++ ([(IntKind.u8.wrap (IntKind.i64.wrap (Int.tdiv t14.2.1 (256 : Int)))), (IntKind.u8.wrap (Int.tmod t14.2.1 (256 : Int)))] : List Int)) t14.2.2.2
              else none))
        else
          ret (.inl (false, xs4))
      else none
    else none
  else
    ret (.inr xs4)
def f58.l6 (k : Nat) : Nat → Int → (List Int) → (List ByteArray) → Option ((Bool × (List Int)) ⊕ ((List Int)))
  | 0, _, _, _ => none
  | j + 1, a3, xs4, xs5 => f58.l6.step k (fun a3 xs4 xs5 => f58.l6 k j a3 xs4 xs5) some a3 xs4 xs5
def f58.l6.w {R : Type} : ((Bool × (List Int)) ⊕ ((List Int))) → (Exit → St env → Option R) → Option R := fun x K => Sum.elim (fun t19 => K .ret ⟨fullT [2, 3, 4] 0 66 [.v (.c (.row 33)), .v (.c (.s (.bool t19.1))), .v (.c (.row 33))], [(33, .row true 5 t19.2)], 1073⟩) (fun t20 => K (.exit 0) ⟨fullT [4] 0 66 [.v (.c (.row 33))], [(33, .row true 5 t20)], 1073⟩) x
def f58.l6.st (a3 : Int) (xs4 : List Int) (xs5 : List ByteArray) : St env := ⟨fullT [4, 5, 6] 0 66 [.v (.c (.row 33)), .v (.c (.row 113)), .v (.c (.s (.int .i64 a3)))], [(33, .row true 5 xs4), (113, .row true 9 xs5)], 161⟩
def f58.l13.hd (k : Nat) (ts_ : List (AV env)) (mm_ : Mem env) (n_ : Nat) : LCl env :=
  gTs LCl.no [4, 5, 6, 7, 8, 9] 66 ts_ fun l_ => gV LCl.no l_ fun a_ l_ => rRow LCl.no 33 a_ <| gV LCl.no l_ fun a_ l_ => rRow LCl.no 113 a_ <| gV LCl.no l_ fun a_ l_ => rV LCl.no a_ fun v_ => vI LCl.no .i64 v_ fun a6 => gV LCl.no l_ fun a_ l_ => rV LCl.no a_ fun v_ => vS LCl.no v_ fun s7 => gV LCl.no l_ fun a_ l_ => rV LCl.no a_ fun v_ => vI LCl.no .i64 v_ fun a8 => gV LCl.no l_ fun a_ l_ => rV LCl.no a_ fun v_ => vI LCl.no .i64 v_ fun a9 => gE LCl.no l_ <| mRow LCl.no 33 true 5 mm_ fun xs10 m_ => mRow LCl.no 113 true 9 m_ fun xs11 m_ => gE LCl.no m_ <| gN LCl.no 465 n_ { α := (Bool × Int × Int × (List Int) × (List ByteArray)) ⊕ (Int × Int × (List Int) × (List ByteArray)), o := f58.l13 k k a6 s7 a8 a9 xs10 xs11, w := f58.l13.w }
def f58.l6.hd (k : Nat) (ts_ : List (AV env)) (mm_ : Mem env) (n_ : Nat) : LCl env :=
  gTs LCl.no [4, 5, 6] 66 ts_ fun l_ => gV LCl.no l_ fun a_ l_ => rRow LCl.no 33 a_ <| gV LCl.no l_ fun a_ l_ => rRow LCl.no 113 a_ <| gV LCl.no l_ fun a_ l_ => rV LCl.no a_ fun v_ => vI LCl.no .i64 v_ fun a3 => gE LCl.no l_ <| mRow LCl.no 33 true 5 mm_ fun xs4 m_ => mRow LCl.no 113 true 9 m_ fun xs5 m_ => gE LCl.no m_ <| gN LCl.no 161 n_ { α := (Bool × (List Int)) ⊕ ((List Int)), o := f58.l6 k k a3 xs4 xs5, w := f58.l6.w }
def f58.step {R : Type} (k : Nat) (ret : ((List Int) × Bool) → Option R) (s1 : ByteArray) : Option R :=
  if (decide (ByteArray.toList s1 = ByteArray.toList (⟨#[]⟩ : ByteArray))) = true then
    ret (([] : List Int), true)
  else
    (f57 k s1 (58 : Int)).bind fun t2 => (f58.l6 k k (0 : Int) ([] : List Int) t2).bind (Sum.elim (fun t15 => ret (t15.2, t15.1)) (fun t16 => ret (t16, (decide ((((List.length t16) : Nat) : Int) ≤ (16 : Int))))))
def f58 (k : Nat) (s1 : ByteArray) : Option ((List Int) × Bool) := f58.step k some s1
def f58.w {R : Type} : ((List Int) × Bool) → (Res env → Option R) → Option R := fun t21 K => K ⟨.tup [.c (.own true 5 t21.1), .c (.s (.bool t21.2))], [[]]⟩
theorem f58.wn (x : ((List Int) × Bool)) : ∃ res, ∀ {R : Type} (K : Res env → Option R), f58.w x K = K res := by
  exact ⟨_, fun _ => rfl⟩
def f58.hd (k : Nat) (ps_ : List (P2 env)) : Cl env :=
  gC Cl.no ps_ fun p_ ps_ => qC Cl.no p_ fun c_ => qS Cl.no c_ fun v_ => vS Cl.no v_ fun s1 => gE Cl.no ps_ <| { α := (List Int) × Bool, o := f58 k s1, w := f58.w, nat := fun x _ => f58.wn x }
def f58.e (k : Nat) : Entry env := ⟨f58.hd k, [], []⟩
def f58.X (k : Nat) : Ctx env := { C := lookE [(57, f57.e k), (68, f68.e k)], L := lookE [(13, fun S => f58.l13.hd k S.ts S.m S.n), (6, fun S => f58.l6.hd k S.ts S.m S.n)], J := lookE [], keep := lookD [(13, [4, 5, 6, 7, 8, 9]), (6, [4, 5, 6])], keepX := lookD [(13, [2, 3, 4, 5, 6, 8]), (6, [2, 3, 4])], span := lookN [(13, 352), (6, 912)], eff := fun n => memN n [], prep := lookP [], np := 0 }
theorem f58.l13.nat {R : Type} (k : Nat) (rec_ : Int → ByteArray → Int → Int → (List Int) → (List ByteArray) → Option ((Bool × Int × Int × (List Int) × (List ByteArray)) ⊕ (Int × Int × (List Int) × (List ByteArray)))) (g : ((Bool × Int × Int × (List Int) × (List ByteArray)) ⊕ (Int × Int × (List Int) × (List ByteArray))) → Option R) (a6 : Int) (s7 : ByteArray) (a8 : Int) (a9 : Int) (xs10 : List Int) (xs11 : List ByteArray) : (f58.l13.step k rec_ some a6 s7 a8 a9 xs10 xs11).bind g = f58.l13.step k (fun a6 s7 a8 a9 xs10 xs11 => (rec_ a6 s7 a8 a9 xs10 xs11).bind g) g a6 s7 a8 a9 xs10 xs11 := by
  simp only [f58.l13.step, bind_ite, bind_sum, Option.bind_assoc, Option.bind_some, Option.bind_none]
theorem f58.l13.good (k : Nat) (a6 : Int) (s7 : ByteArray) (a8 : Int) (a9 : Int) (xs10 : List Int) (xs11 : List ByteArray) : GoodL (f58.X k) (nthC 1 (loopsOf (bodyOf Tryd.f58))) (f58.l13.st a6 s7 a8 a9 xs10 xs11) { α := ((Bool × Int × Int × (List Int) × (List ByteArray)) ⊕ (Int × Int × (List Int) × (List ByteArray))), o := f58.l13 k k a6 s7 a8 a9 xs10 xs11, w := f58.l13.w } :=
  loop_good (ι := Int × ByteArray × Int × Int × (List Int) × (List ByteArray)) (α := ((Bool × Int × Int × (List Int) × (List ByteArray)) ⊕ (Int × Int × (List Int) × (List ByteArray)))) (fun i => f58.l13.st i.1 i.2.1 i.2.2.1 i.2.2.2.1 i.2.2.2.2.1 i.2.2.2.2.2) (fun j i => f58.l13 k j i.1 i.2.1 i.2.2.1 i.2.2.2.1 i.2.2.2.2.1 i.2.2.2.2.2) f58.l13.w (fun rec_ ret i => f58.l13.step k (fun a6 s7 a8 a9 xs10 xs11 => rec_ (a6, s7, a8, a9, xs10, xs11)) ret i.1 i.2.1 i.2.2.1 i.2.2.2.1 i.2.2.2.2.1 i.2.2.2.2.2)
    (fun _ => rfl) (fun _ _ => rfl) (fun rec_ g i => f58.l13.nat k _ g i.1 i.2.1 i.2.2.1 i.2.2.2.1 i.2.2.2.2.1 i.2.2.2.2.2) (fun {R} i0 i rec_ K => by kernel_rfl) k (a6, s7, a8, a9, xs10, xs11)
theorem f58.l13.all (k : Nat) (S : St env) : GoodL (f58.X k) (nthC 1 (loopsOf (bodyOf Tryd.f58))) S (f58.l13.hd k S.ts S.m S.n) := by
  obtain ⟨ts_, m_, n_⟩ := S
  show GoodL _ _ _ (f58.l13.hd k ts_ m_ n_)
  unfold f58.l13.hd
  refine gTs_ok (p := GoodL _ _ _) goodL_no fun _ h => ?_
  subst h
  refine gV_ok (p := GoodL _ _ _) goodL_no fun _ _ h => ?_
  subst h
  refine rRow_ok (p := GoodL _ _ _) goodL_no fun h => ?_
  subst h
  refine gV_ok (p := GoodL _ _ _) goodL_no fun _ _ h => ?_
  subst h
  refine rRow_ok (p := GoodL _ _ _) goodL_no fun h => ?_
  subst h
  refine gV_ok (p := GoodL _ _ _) goodL_no fun _ _ h => ?_
  subst h
  refine rV_ok (p := GoodL _ _ _) goodL_no fun _ h => ?_
  subst h
  refine vI_ok (p := GoodL _ _ _) goodL_no fun _ h => ?_
  subst h
  refine gV_ok (p := GoodL _ _ _) goodL_no fun _ _ h => ?_
  subst h
  refine rV_ok (p := GoodL _ _ _) goodL_no fun _ h => ?_
  subst h
  refine vS_ok (p := GoodL _ _ _) goodL_no fun _ h => ?_
  subst h
  refine gV_ok (p := GoodL _ _ _) goodL_no fun _ _ h => ?_
  subst h
  refine rV_ok (p := GoodL _ _ _) goodL_no fun _ h => ?_
  subst h
  refine vI_ok (p := GoodL _ _ _) goodL_no fun _ h => ?_
  subst h
  refine gV_ok (p := GoodL _ _ _) goodL_no fun _ _ h => ?_
  subst h
  refine rV_ok (p := GoodL _ _ _) goodL_no fun _ h => ?_
  subst h
  refine vI_ok (p := GoodL _ _ _) goodL_no fun _ h => ?_
  subst h
  refine gE_ok (p := GoodL _ _ _) goodL_no fun h => ?_
  subst h
  refine mRow_ok (p := GoodL _ _ _) goodL_no fun _ _ h => ?_
  subst h
  refine mRow_ok (p := GoodL _ _ _) goodL_no fun _ _ h => ?_
  subst h
  refine gE_ok (p := GoodL _ _ _) goodL_no fun h => ?_
  subst h
  refine gN_ok (p := GoodL _ _ _) goodL_no fun h => ?_
  subst h
  exact f58.l13.good k _ _ _ _ _ _
theorem f58.l6.nat {R : Type} (k : Nat) (rec_ : Int → (List Int) → (List ByteArray) → Option ((Bool × (List Int)) ⊕ ((List Int)))) (g : ((Bool × (List Int)) ⊕ ((List Int))) → Option R) (a3 : Int) (xs4 : List Int) (xs5 : List ByteArray) : (f58.l6.step k rec_ some a3 xs4 xs5).bind g = f58.l6.step k (fun a3 xs4 xs5 => (rec_ a3 xs4 xs5).bind g) g a3 xs4 xs5 := by
  simp only [f58.l6.step, bind_ite, bind_sum, Option.bind_assoc, Option.bind_some, Option.bind_none]
theorem f58.l6.good (k : Nat) (a3 : Int) (xs4 : List Int) (xs5 : List ByteArray) : GoodL (f58.X k) (nthC 0 (loopsOf (bodyOf Tryd.f58))) (f58.l6.st a3 xs4 xs5) { α := ((Bool × (List Int)) ⊕ ((List Int))), o := f58.l6 k k a3 xs4 xs5, w := f58.l6.w } :=
  loop_good (ι := Int × (List Int) × (List ByteArray)) (α := ((Bool × (List Int)) ⊕ ((List Int)))) (fun i => f58.l6.st i.1 i.2.1 i.2.2) (fun j i => f58.l6 k j i.1 i.2.1 i.2.2) f58.l6.w (fun rec_ ret i => f58.l6.step k (fun a3 xs4 xs5 => rec_ (a3, xs4, xs5)) ret i.1 i.2.1 i.2.2)
    (fun _ => rfl) (fun _ _ => rfl) (fun rec_ g i => f58.l6.nat k _ g i.1 i.2.1 i.2.2) (fun {R} i0 i rec_ K => by kernel_rfl) k (a3, xs4, xs5)
theorem f58.l6.all (k : Nat) (S : St env) : GoodL (f58.X k) (nthC 0 (loopsOf (bodyOf Tryd.f58))) S (f58.l6.hd k S.ts S.m S.n) := by
  obtain ⟨ts_, m_, n_⟩ := S
  show GoodL _ _ _ (f58.l6.hd k ts_ m_ n_)
  unfold f58.l6.hd
  refine gTs_ok (p := GoodL _ _ _) goodL_no fun _ h => ?_
  subst h
  refine gV_ok (p := GoodL _ _ _) goodL_no fun _ _ h => ?_
  subst h
  refine rRow_ok (p := GoodL _ _ _) goodL_no fun h => ?_
  subst h
  refine gV_ok (p := GoodL _ _ _) goodL_no fun _ _ h => ?_
  subst h
  refine rRow_ok (p := GoodL _ _ _) goodL_no fun h => ?_
  subst h
  refine gV_ok (p := GoodL _ _ _) goodL_no fun _ _ h => ?_
  subst h
  refine rV_ok (p := GoodL _ _ _) goodL_no fun _ h => ?_
  subst h
  refine vI_ok (p := GoodL _ _ _) goodL_no fun _ h => ?_
  subst h
  refine gE_ok (p := GoodL _ _ _) goodL_no fun h => ?_
  subst h
  refine mRow_ok (p := GoodL _ _ _) goodL_no fun _ _ h => ?_
  subst h
  refine mRow_ok (p := GoodL _ _ _) goodL_no fun _ _ h => ?_
  subst h
  refine gE_ok (p := GoodL _ _ _) goodL_no fun h => ?_
  subst h
  refine gN_ok (p := GoodL _ _ _) goodL_no fun h => ?_
  subst h
  exact f58.l6.good k _ _ _
theorem f58.nat {R : Type} (k : Nat) (g : ((List Int) × Bool) → Option R) (s1 : ByteArray) : f58.step k g s1 = (f58 k s1).bind g := by
  simp only [f58, f58.step, bind_ite, bind_sum, Option.bind_assoc, Option.bind_some, Option.bind_none]
theorem f58.ev (k : Nat) (s1 : ByteArray) : evF (f58.X k) (bodyOf Tryd.f58) Tryd.f58.ntmps Tryd.f58.results.toList [.v (.c (.s (.string s1)))] = f58.step k (fun x => f58.w x some) s1 := by kernel_rfl
theorem f58.hok (k : Nat) : HOK (f58.X k) (bodyOf Tryd.f58) where
  l := allP_mem (by exact ⟨ls_of (h0 := fun S => f58.l6.hd k S.ts S.m S.n) (by kernel_rfl) (f58.l6.all k), ls_of (h0 := fun S => f58.l13.hd k S.ts S.m S.n) (by kernel_rfl) (f58.l13.all k), trivial⟩)
  j := allP_mem (by exact trivial)
theorem f58.sound (k : Nat) : SoundC env Tryd.prog 58 ((f58.e k).F) := by
  intro ps_
  show GoodC _ _ _ ps_ (f58.hd k ps_)
  unfold f58.hd
  refine gC_ok (p := GoodC env Tryd.prog 58 _) goodC_no fun _ _ h => ?_
  subst h
  refine qC_ok (p := GoodC env Tryd.prog 58 _) goodC_no fun _ h => ?_
  subst h
  refine qS_ok (p := GoodC env Tryd.prog 58 _) goodC_no fun _ h => ?_
  subst h
  refine vS_ok (p := GoodC env Tryd.prog 58 _) goodC_no fun _ h => ?_
  subst h
  refine gE_ok (p := GoodC env Tryd.prog 58 _) goodC_no fun h => ?_
  subst h
  exact fun_good (fun_sound envOK (cs_sound _ (by exact ⟨⟨f57.sound k, f57.fnok⟩, ⟨f68.sound k, f68.fnok⟩, trivial⟩)) (f58.hok k) Tryd.func58 rfl) ((f58.ev k _).trans (f58.nat k _ _))
theorem f58.says (k : Nat) (s1 : ByteArray) (t22 : (List Int) × Bool) (h_ : f58 k s1 = some t22) : SoundAt env Tryd.prog 58 [.v (.c (.s (.string s1)))] ⟨.tup [.c (.own true 5 t22.1), .c (.s (.bool t22.2))], [[]]⟩ :=
  fun_sound envOK (cs_sound _ (by exact ⟨⟨f57.sound k, f57.fnok⟩, ⟨f68.sound k, f68.fnok⟩, trivial⟩)) (f58.hok k) Tryd.func58 rfl _ _ (((f58.ev k s1).trans (f58.nat k _ s1)).trans (by rw [h_]; rfl))
theorem f58.fnok : FnOK Tryd.prog 58 := fn_ok Tryd.func58 (by kernel_rfl) rfl
def f35.l2.step {R : Type} (k : Nat) (rec_ : ByteArray → Int → Option R) (ret : ((ByteArray × ByteArray × Bool) ⊕ (ByteArray)) → Option R) (s2 : ByteArray) (a3 : Int) : Option R :=
  if (decide ((IntKind.i64.wrap (a3 + (1 : Int))) < (((ByteArray.size s2) : Nat) : Int))) = true then
    if (0 : Int) ≤ a3 then
      if a3 < ((ByteArray.size s2 : Nat) : Int) then
        if (decide ((bt s2 a3) ≠ (58 : Int))) = false then
          if (0 : Int) ≤ (IntKind.i64.wrap (a3 + (1 : Int))) then
            if (IntKind.i64.wrap (a3 + (1 : Int))) < ((ByteArray.size s2 : Nat) : Int) then
              if (decide ((bt s2 (IntKind.i64.wrap (a3 + (1 : Int)))) ≠ (58 : Int))) = true then
                rec_ s2 (IntKind.i64.wrap (a3 + (1 : Int)))
              else
                if (0 : Int) ≤ a3 then
                  if a3 ≤ ((ByteArray.size s2 : Nat) : Int) then
                    (f58 k (ByteArray.extract s2 0 (Int.toNat a3))).bind fun t4 => if (0 : Int) ≤ (IntKind.i64.wrap (a3 + (2 : Int))) then
                        if (IntKind.i64.wrap (a3 + (2 : Int))) ≤ ((ByteArray.size s2 : Nat) : Int) then
                          if ((ByteArray.size s2 : Nat) : Int) ≤ ((ByteArray.size s2 : Nat) : Int) then
                            (f58 k (ByteArray.extract s2 (Int.toNat (IntKind.i64.wrap (a3 + (2 : Int)))) (Int.toNat ((ByteArray.size s2 : Nat) : Int)))).bind fun t5 => if (!t4.2) = false then
                                if (!t5.2) = false then
                                  if (decide ((IntKind.i64.wrap ((((List.length t4.1) : Nat) : Int) + (((List.length t5.1) : Nat) : Int))) > (14 : Int))) = true then
                                    ret (.inl (s2, (⟨#[]⟩ : ByteArray), false))
                                  else
                                    if (0 : Int) ≤ (IntKind.i64.wrap ((IntKind.i64.wrap ((16 : Int) - (((List.length t4.1) : Nat) : Int))) - (((List.length t5.1) : Nat) : Int))) then
                                      if (Int.toNat (IntKind.i64.wrap ((IntKind.i64.wrap ((16 : Int) - (((List.length t4.1) : Nat) : Int))) - (((List.length t5.1) : Nat) : Int)))) * 1 ≤ maxN then
                                        if ByteArray.size (strOf t4.1) + ByteArray.size (strOf (List.replicate (Int.toNat (IntKind.i64.wrap ((IntKind.i64.wrap ((16 : Int) - (((List.length t4.1) : Nat) : Int))) - (((List.length t5.1) : Nat) : Int)))) (0 : Int))) ≤ maxN then
                                          if ByteArray.size ((strOf t4.1) ++ (strOf (List.replicate (Int.toNat (IntKind.i64.wrap ((IntKind.i64.wrap ((16 : Int) - (((List.length t4.1) : Nat) : Int))) - (((List.length t5.1) : Nat) : Int)))) (0 : Int)))) + ByteArray.size (strOf t5.1) ≤ maxN then
                                            ret (.inl (s2, (((strOf t4.1) ++ (strOf (List.replicate (Int.toNat (IntKind.i64.wrap ((IntKind.i64.wrap ((16 : Int) - (((List.length t4.1) : Nat) : Int))) - (((List.length t5.1) : Nat) : Int)))) (0 : Int)))) ++ (strOf t5.1)), true))
                                          else none
                                        else none
                                      else none
                                    else none
                                else
                                  ret (.inl (s2, (⟨#[]⟩ : ByteArray), false))
                              else
                                ret (.inl (s2, (⟨#[]⟩ : ByteArray), false))
                          else none
                        else none
                      else none
                  else none
                else none
            else none
          else none
        else
          rec_ s2 (IntKind.i64.wrap (a3 + (1 : Int)))
      else none
    else none
  else
    ret (.inr s2)
def f35.l2 (k : Nat) : Nat → ByteArray → Int → Option ((ByteArray × ByteArray × Bool) ⊕ (ByteArray))
  | 0, _, _ => none
  | j + 1, s2, a3 => f35.l2.step k (fun s2 a3 => f35.l2 k j s2 a3) some s2 a3
def f35.l2.w {R : Type} : ((ByteArray × ByteArray × Bool) ⊕ (ByteArray)) → (Exit → St env → Option R) → Option R := fun x K => Sum.elim (fun t9 => K .ret ⟨fullT [0, 2, 3] 0 85 [.v (.c (.s (.string t9.1))), .v (.c (.s (.string t9.2.1))), .v (.c (.s (.bool t9.2.2)))], [], 1169⟩) (fun t10 => K (.exit 0) ⟨fullT [0] 0 85 [.v (.c (.s (.string t10)))], [], 1169⟩) x
def f35.l2.st (s2 : ByteArray) (a3 : Int) : St env := ⟨fullT [0, 4] 0 85 [.v (.c (.s (.string s2))), .v (.c (.s (.int .i64 a3)))], [], 49⟩
def f35.l2.hd (k : Nat) (ts_ : List (AV env)) (mm_ : Mem env) (n_ : Nat) : LCl env :=
  gTs LCl.no [0, 4] 85 ts_ fun l_ => gV LCl.no l_ fun a_ l_ => rV LCl.no a_ fun v_ => vS LCl.no v_ fun s2 => gV LCl.no l_ fun a_ l_ => rV LCl.no a_ fun v_ => vI LCl.no .i64 v_ fun a3 => gE LCl.no l_ <| gE LCl.no mm_ <| gN LCl.no 49 n_ { α := (ByteArray × ByteArray × Bool) ⊕ (ByteArray), o := f35.l2 k k s2 a3, w := f35.l2.w }
def f35.step {R : Type} (k : Nat) (ret : (ByteArray × Bool) → Option R) (s1 : ByteArray) : Option R :=
  (f35.l2 k k s1 (0 : Int)).bind (Sum.elim (fun t6 => ret (t6.2.1, t6.2.2)) (fun t7 => (f58 k t7).bind fun t8 => if t8.2 = true then
        ret ((strOf t8.1), (decide ((((List.length t8.1) : Nat) : Int) = (16 : Int))))
      else
        ret ((strOf t8.1), false)))
def f35 (k : Nat) (s1 : ByteArray) : Option (ByteArray × Bool) := f35.step k some s1
def f35.w {R : Type} : (ByteArray × Bool) → (Res env → Option R) → Option R := fun t11 K => K ⟨.tup [.c (.s (.string t11.1)), .c (.s (.bool t11.2))], [[]]⟩
theorem f35.wn (x : (ByteArray × Bool)) : ∃ res, ∀ {R : Type} (K : Res env → Option R), f35.w x K = K res := by
  exact ⟨_, fun _ => rfl⟩
def f35.hd (k : Nat) (ps_ : List (P2 env)) : Cl env :=
  gC Cl.no ps_ fun p_ ps_ => qC Cl.no p_ fun c_ => qS Cl.no c_ fun v_ => vS Cl.no v_ fun s1 => gE Cl.no ps_ <| { α := ByteArray × Bool, o := f35 k s1, w := f35.w, nat := fun x _ => f35.wn x }
def f35.e (k : Nat) : Entry env := ⟨f35.hd k, [], []⟩
def f35.X (k : Nat) : Ctx env := { C := lookE [(58, f58.e k)], L := lookE [(2, fun S => f35.l2.hd k S.ts S.m S.n)], J := lookE [], keep := lookD [(2, [0, 4])], keepX := lookD [(2, [0, 2, 3])], span := lookN [(2, 1120)], eff := fun n => memN n [9], prep := lookP [], np := 0 }
theorem f35.l2.nat {R : Type} (k : Nat) (rec_ : ByteArray → Int → Option ((ByteArray × ByteArray × Bool) ⊕ (ByteArray))) (g : ((ByteArray × ByteArray × Bool) ⊕ (ByteArray)) → Option R) (s2 : ByteArray) (a3 : Int) : (f35.l2.step k rec_ some s2 a3).bind g = f35.l2.step k (fun s2 a3 => (rec_ s2 a3).bind g) g s2 a3 := by
  simp only [f35.l2.step, bind_ite, bind_sum, Option.bind_assoc, Option.bind_some, Option.bind_none]
theorem f35.l2.good (k : Nat) (s2 : ByteArray) (a3 : Int) : GoodL (f35.X k) (nthC 0 (loopsOf (bodyOf Tryd.f35))) (f35.l2.st s2 a3) { α := ((ByteArray × ByteArray × Bool) ⊕ (ByteArray)), o := f35.l2 k k s2 a3, w := f35.l2.w } :=
  loop_good (ι := ByteArray × Int) (α := ((ByteArray × ByteArray × Bool) ⊕ (ByteArray))) (fun i => f35.l2.st i.1 i.2) (fun j i => f35.l2 k j i.1 i.2) f35.l2.w (fun rec_ ret i => f35.l2.step k (fun s2 a3 => rec_ (s2, a3)) ret i.1 i.2)
    (fun _ => rfl) (fun _ _ => rfl) (fun rec_ g i => f35.l2.nat k _ g i.1 i.2) (fun {R} i0 i rec_ K => by kernel_rfl) k (s2, a3)
theorem f35.l2.all (k : Nat) (S : St env) : GoodL (f35.X k) (nthC 0 (loopsOf (bodyOf Tryd.f35))) S (f35.l2.hd k S.ts S.m S.n) := by
  obtain ⟨ts_, m_, n_⟩ := S
  show GoodL _ _ _ (f35.l2.hd k ts_ m_ n_)
  unfold f35.l2.hd
  refine gTs_ok (p := GoodL _ _ _) goodL_no fun _ h => ?_
  subst h
  refine gV_ok (p := GoodL _ _ _) goodL_no fun _ _ h => ?_
  subst h
  refine rV_ok (p := GoodL _ _ _) goodL_no fun _ h => ?_
  subst h
  refine vS_ok (p := GoodL _ _ _) goodL_no fun _ h => ?_
  subst h
  refine gV_ok (p := GoodL _ _ _) goodL_no fun _ _ h => ?_
  subst h
  refine rV_ok (p := GoodL _ _ _) goodL_no fun _ h => ?_
  subst h
  refine vI_ok (p := GoodL _ _ _) goodL_no fun _ h => ?_
  subst h
  refine gE_ok (p := GoodL _ _ _) goodL_no fun h => ?_
  subst h
  refine gE_ok (p := GoodL _ _ _) goodL_no fun h => ?_
  subst h
  refine gN_ok (p := GoodL _ _ _) goodL_no fun h => ?_
  subst h
  exact f35.l2.good k _ _
theorem f35.nat {R : Type} (k : Nat) (g : (ByteArray × Bool) → Option R) (s1 : ByteArray) : f35.step k g s1 = (f35 k s1).bind g := by
  simp only [f35, f35.step, bind_ite, bind_sum, Option.bind_assoc, Option.bind_some, Option.bind_none]
theorem f35.ev (k : Nat) (s1 : ByteArray) : evF (f35.X k) (bodyOf Tryd.f35) Tryd.f35.ntmps Tryd.f35.results.toList [.v (.c (.s (.string s1)))] = f35.step k (fun x => f35.w x some) s1 := by kernel_rfl
theorem f35.hok (k : Nat) : HOK (f35.X k) (bodyOf Tryd.f35) where
  l := allP_mem (by exact ⟨ls_of (h0 := fun S => f35.l2.hd k S.ts S.m S.n) (by kernel_rfl) (f35.l2.all k), trivial⟩)
  j := allP_mem (by exact trivial)
theorem f35.sound (k : Nat) : SoundC env Tryd.prog 35 ((f35.e k).F) := by
  intro ps_
  show GoodC _ _ _ ps_ (f35.hd k ps_)
  unfold f35.hd
  refine gC_ok (p := GoodC env Tryd.prog 35 _) goodC_no fun _ _ h => ?_
  subst h
  refine qC_ok (p := GoodC env Tryd.prog 35 _) goodC_no fun _ h => ?_
  subst h
  refine qS_ok (p := GoodC env Tryd.prog 35 _) goodC_no fun _ h => ?_
  subst h
  refine vS_ok (p := GoodC env Tryd.prog 35 _) goodC_no fun _ h => ?_
  subst h
  refine gE_ok (p := GoodC env Tryd.prog 35 _) goodC_no fun h => ?_
  subst h
  exact fun_good (fun_sound envOK (cs_sound _ (by exact ⟨⟨f58.sound k, f58.fnok⟩, trivial⟩)) (f35.hok k) Tryd.func35 rfl) ((f35.ev k _).trans (f35.nat k _ _))
theorem f35.says (k : Nat) (s1 : ByteArray) (t12 : ByteArray × Bool) (h_ : f35 k s1 = some t12) : SoundAt env Tryd.prog 35 [.v (.c (.s (.string s1)))] ⟨.tup [.c (.s (.string t12.1)), .c (.s (.bool t12.2))], [[]]⟩ :=
  fun_sound envOK (cs_sound _ (by exact ⟨⟨f58.sound k, f58.fnok⟩, trivial⟩)) (f35.hok k) Tryd.func35 rfl _ _ (((f35.ev k s1).trans (f35.nat k _ s1)).trans (by rw [h_]; rfl))
theorem f35.fnok : FnOK Tryd.prog 35 := fn_ok Tryd.func35 (by kernel_rfl) rfl
def f14.step {R : Type} (k : Nat) (ret : (ByteArray × Bool) → Option R) (s1 : ByteArray) : Option R :=
  (f34 k s1).bind fun t2 => if t2.2 = true then
      ret (t2.1, true)
    else
      (f35 k s1).bind fun t3 => ret (t3.1, t3.2)
def f14 (k : Nat) (s1 : ByteArray) : Option (ByteArray × Bool) := f14.step k some s1
def f14.w {R : Type} : (ByteArray × Bool) → (Res env → Option R) → Option R := fun t4 K => K ⟨.tup [.c (.s (.string t4.1)), .c (.s (.bool t4.2))], [[]]⟩
theorem f14.wn (x : (ByteArray × Bool)) : ∃ res, ∀ {R : Type} (K : Res env → Option R), f14.w x K = K res := by
  exact ⟨_, fun _ => rfl⟩
def f14.hd (k : Nat) (ps_ : List (P2 env)) : Cl env :=
  gC Cl.no ps_ fun p_ ps_ => qC Cl.no p_ fun c_ => qS Cl.no c_ fun v_ => vS Cl.no v_ fun s1 => gE Cl.no ps_ <| { α := ByteArray × Bool, o := f14 k s1, w := f14.w, nat := fun x _ => f14.wn x }
def f14.e (k : Nat) : Entry env := ⟨f14.hd k, [], []⟩
def f14.X (k : Nat) : Ctx env := { C := lookE [(34, f34.e k), (35, f35.e k)], L := lookE [], J := lookE [], keep := lookD [], keepX := lookD [], span := lookN [], eff := fun n => memN n [], prep := lookP [], np := 0 }
theorem f14.nat {R : Type} (k : Nat) (g : (ByteArray × Bool) → Option R) (s1 : ByteArray) : f14.step k g s1 = (f14 k s1).bind g := by
  simp only [f14, f14.step, bind_ite, bind_sum, Option.bind_assoc, Option.bind_some, Option.bind_none]
theorem f14.ev (k : Nat) (s1 : ByteArray) : evF (f14.X k) (bodyOf Tryd.f14) Tryd.f14.ntmps Tryd.f14.results.toList [.v (.c (.s (.string s1)))] = f14.step k (fun x => f14.w x some) s1 := by kernel_rfl
theorem f14.hok (k : Nat) : HOK (f14.X k) (bodyOf Tryd.f14) where
  l := allP_mem (by exact trivial)
  j := allP_mem (by exact trivial)
theorem f14.sound (k : Nat) : SoundC env Tryd.prog 14 ((f14.e k).F) := by
  intro ps_
  show GoodC _ _ _ ps_ (f14.hd k ps_)
  unfold f14.hd
  refine gC_ok (p := GoodC env Tryd.prog 14 _) goodC_no fun _ _ h => ?_
  subst h
  refine qC_ok (p := GoodC env Tryd.prog 14 _) goodC_no fun _ h => ?_
  subst h
  refine qS_ok (p := GoodC env Tryd.prog 14 _) goodC_no fun _ h => ?_
  subst h
  refine vS_ok (p := GoodC env Tryd.prog 14 _) goodC_no fun _ h => ?_
  subst h
  refine gE_ok (p := GoodC env Tryd.prog 14 _) goodC_no fun h => ?_
  subst h
  exact fun_good (fun_sound envOK (cs_sound _ (by exact ⟨⟨f34.sound k, f34.fnok⟩, ⟨f35.sound k, f35.fnok⟩, trivial⟩)) (f14.hok k) Tryd.func14 rfl) ((f14.ev k _).trans (f14.nat k _ _))
theorem f14.says (k : Nat) (s1 : ByteArray) (t5 : ByteArray × Bool) (h_ : f14 k s1 = some t5) : SoundAt env Tryd.prog 14 [.v (.c (.s (.string s1)))] ⟨.tup [.c (.s (.string t5.1)), .c (.s (.bool t5.2))], [[]]⟩ :=
  fun_sound envOK (cs_sound _ (by exact ⟨⟨f34.sound k, f34.fnok⟩, ⟨f35.sound k, f35.fnok⟩, trivial⟩)) (f14.hok k) Tryd.func14 rfl _ _ (((f14.ev k s1).trans (f14.nat k _ s1)).trans (by rw [h_]; rfl))
theorem f14.fnok : FnOK Tryd.prog 14 := fn_ok Tryd.func14 (by kernel_rfl) rfl
end Go.Proofs.YtebmblbfplmcaaaDoor.B

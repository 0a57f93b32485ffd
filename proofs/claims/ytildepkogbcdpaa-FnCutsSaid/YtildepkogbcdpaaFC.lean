/- Written by a program of this session. -/
import Derived.Test.YtildepkogbcdpaaBEnv
import Derived.Test.YtildepkogbcdpaaBHd
namespace Go.Proofs.Ytildepkogbcdpaa.B
open Go Go.B
set_option linter.unusedVariables false
set_option linter.unusedSimpArgs false
def f81.step {R : Type} (k : Nat) (ret : ((List Int) × Int × Int) → Option R) (xs1 : List Int) : Option R :=
  ret (xs1, (0 : Int), (Int.tmod (((List.length xs1) : Nat) : Int) (1000 : Int)))
def f81 (k : Nat) (xs1 : List Int) : Option ((List Int) × Int × Int) := f81.step k some xs1
def f81.w {R : Type} : ((List Int) × Int × Int) → (Res env → Option R) → Option R := fun t2 K => K ⟨.v (.c (.ptr [.sl 5 t2.1, .s (.int .i64 t2.2.1), .s (.int .i64 t2.2.2)])), [[]]⟩
theorem f81.wn (x : ((List Int) × Int × Int)) : ∃ res, ∀ {R : Type} (K : Res env → Option R), f81.w x K = K res := by
  exact ⟨_, fun _ => rfl⟩
def f81.hd (k : Nat) (ps_ : List (P2 env)) : Cl env :=
  gC Cl.no ps_ fun p_ ps_ => qC Cl.no p_ fun c_ => qSl Cl.no 5 c_ fun xs1 => gE Cl.no ps_ <| { α := (List Int) × Int × Int, o := f81 k xs1, w := f81.w, nat := fun x _ => f81.wn x }
def f81.e (k : Nat) : Entry env := ⟨fun ps => f81.hd k (coer [[some 5]] ps)⟩
def f81.X (k : Nat) : Ctx env := { C := lookE [], L := lookE [], J := lookE [], keep := lookD [], keepX := lookD [], span := lookN [], eff := fun n => memN n [], prep := lookP [] }
theorem f81.nat {R : Type} (k : Nat) (g : ((List Int) × Int × Int) → Option R) (xs1 : List Int) : f81.step k g xs1 = (f81 k xs1).bind g := by
  simp only [f81, f81.step, bind_ite, bind_sum, Option.bind_assoc, Option.bind_some, Option.bind_none]
theorem f81.ev (k : Nat) (xs1 : List Int) : evF (f81.X k) (bodyOf Try.f81) Try.f81.ntmps Try.f81.results.toList [.v (.c (.sl 5 xs1))] = f81.step k (fun x => f81.w x some) xs1 := by kernel_rfl
theorem f81.hok (k : Nat) : HOK (f81.X k) (bodyOf Try.f81) where
  l := allP_mem (by exact trivial)
  j := allP_mem (by exact trivial)
theorem f81.sound0 (k : Nat) : SoundC env Try.prog 81 (f81.hd k) := by
  intro ps_
  show GoodC _ _ _ ps_ (f81.hd k ps_)
  unfold f81.hd
  refine gC_ok (p := GoodC env Try.prog 81 _) goodC_no fun _ _ h => ?_
  subst h
  refine qC_ok (p := GoodC env Try.prog 81 _) goodC_no fun _ h => ?_
  subst h
  refine qSl_ok (p := GoodC env Try.prog 81 _) goodC_no fun _ h => ?_
  subst h
  refine gE_ok (p := GoodC env Try.prog 81 _) goodC_no fun h => ?_
  subst h
  exact fun_good (fun_sound envOK (cs_sound _ (by exact trivial)) (f81.hok k) Try.func81 rfl) ((f81.ev k _).trans (f81.nat k _ _))
theorem f81.sound (k : Nat) : SoundC env Try.prog 81 (f81.e k).F := soundC_coer (f81.sound0 k) [[some 5]]
theorem f81.says (k : Nat) (xs1 : List Int) (t3 : (List Int) × Int × Int) (h_ : f81 k xs1 = some t3) : SoundAt env Try.prog 81 [.v (.c (.sl 5 xs1))] ⟨.v (.c (.ptr [.sl 5 t3.1, .s (.int .i64 t3.2.1), .s (.int .i64 t3.2.2)])), [[]]⟩ :=
  fun_sound envOK (cs_sound _ (by exact trivial)) (f81.hok k) Try.func81 rfl _ _ (((f81.ev k xs1).trans (f81.nat k _ xs1)).trans (by rw [h_]; rfl))
theorem f81.fnok : FnOK Try.prog 81 := fn_ok Try.func81 (by kernel_rfl) rfl
def f182.step {R : Type} (k : Nat) (ret : (Int × (List Int) × Int × Int) → Option R) (xs1 : List Int) (a2 : Int) (a3 : Int) : Option R :=
  if (decide ((IntKind.i64.wrap (a2 + (1 : Int))) ≤ (((List.length xs1) : Nat) : Int))) = true then
    if (0 : Int) ≤ (IntKind.i64.wrap ((IntKind.i64.wrap (a2 + (1 : Int))) - (1 : Int))) then
      if (IntKind.i64.wrap ((IntKind.i64.wrap (a2 + (1 : Int))) - (1 : Int))) < ((List.length xs1 : Nat) : Int) then
        if (0 : Int) ≤ (IntKind.i64.wrap ((IntKind.i64.wrap (a2 + (1 : Int))) - (1 : Int))) then
          if (IntKind.i64.wrap ((IntKind.i64.wrap (a2 + (1 : Int))) - (1 : Int))) < ((List.length xs1 : Nat) : Int) then
            ret ((IntKind.i64.wrap (List.getD xs1 (Int.toNat (IntKind.i64.wrap ((IntKind.i64.wrap (a2 + (1 : Int))) - (1 : Int)))) (0 : Int))), xs1, (IntKind.i64.wrap (a2 + (1 : Int))), (Int.tmod (IntKind.i64.wrap ((IntKind.i64.wrap ((IntKind.i64.wrap (a3 * (31 : Int))) + (IntKind.i64.wrap (List.getD xs1 (Int.toNat (IntKind.i64.wrap ((IntKind.i64.wrap (a2 + (1 : Int))) - (1 : Int)))) (0 : Int))))) + (7 : Int))) (2147483648 : Int)))
          else none
        else none
      else none
    else none
  else
    if (decide ((IntKind.i64.wrap (a2 + (1 : Int))) > (3000 : Int))) = true then
      ret ((0 : Int), xs1, (IntKind.i64.wrap (a2 + (1 : Int))), a3)
    else
      ret ((Int.tmod (IntKind.i64.wrap (Int.tdiv (Int.tmod (IntKind.i64.wrap ((IntKind.i64.wrap (a3 * (1103515245 : Int))) + (12345 : Int))) (2147483648 : Int)) (65536 : Int))) (256 : Int)), xs1, (IntKind.i64.wrap (a2 + (1 : Int))), (Int.tmod (IntKind.i64.wrap ((IntKind.i64.wrap (a3 * (1103515245 : Int))) + (12345 : Int))) (2147483648 : Int)))
def f182 (k : Nat) (xs1 : List Int) (a2 : Int) (a3 : Int) : Option (Int × (List Int) × Int × Int) := f182.step k some xs1 a2 a3
def f182.w {R : Type} : (Int × (List Int) × Int × Int) → (Res env → Option R) → Option R := fun t4 K => K ⟨.v (.c (.s (.int .i64 t4.1))), [[.sl 5 t4.2.1, .s (.int .i64 t4.2.2.1), .s (.int .i64 t4.2.2.2)]]⟩
theorem f182.wn (x : (Int × (List Int) × Int × Int)) : ∃ res, ∀ {R : Type} (K : Res env → Option R), f182.w x K = K res := by
  exact ⟨_, fun _ => rfl⟩
def f182.hd (k : Nat) (ps_ : List (P2 env)) : Cl env :=
  gC Cl.no ps_ fun p_ ps_ => qP Cl.no p_ fun cs_ => gC Cl.no cs_ fun c_ cs_ => qSl Cl.no 5 c_ fun xs1 => gC Cl.no cs_ fun c_ cs_ => qS Cl.no c_ fun v_ => vI Cl.no .i64 v_ fun a2 => gC Cl.no cs_ fun c_ cs_ => qS Cl.no c_ fun v_ => vI Cl.no .i64 v_ fun a3 => gE Cl.no cs_ <| gE Cl.no ps_ <| { α := Int × (List Int) × Int × Int, o := f182 k xs1 a2 a3, w := f182.w, nat := fun x _ => f182.wn x }
def f182.e (k : Nat) : Entry env := ⟨fun ps => f182.hd k (coer [[some 5, none, none]] ps)⟩
def f182.X (k : Nat) : Ctx env := { C := lookE [], L := lookE [], J := lookE [], keep := lookD [], keepX := lookD [], span := lookN [], eff := fun n => memN n [3], prep := lookP [] }
theorem f182.nat {R : Type} (k : Nat) (g : (Int × (List Int) × Int × Int) → Option R) (xs1 : List Int) (a2 : Int) (a3 : Int) : f182.step k g xs1 a2 a3 = (f182 k xs1 a2 a3).bind g := by
  simp only [f182, f182.step, bind_ite, bind_sum, Option.bind_assoc, Option.bind_some, Option.bind_none]
theorem f182.ev (k : Nat) (xs1 : List Int) (a2 : Int) (a3 : Int) : evF (f182.X k) (bodyOf Try.f182) Try.f182.ntmps Try.f182.results.toList [.v (.ptr [.sl 5 xs1, .s (.int .i64 a2), .s (.int .i64 a3)])] = f182.step k (fun x => f182.w x some) xs1 a2 a3 := by kernel_rfl
theorem f182.hok (k : Nat) : HOK (f182.X k) (bodyOf Try.f182) where
  l := allP_mem (by exact trivial)
  j := allP_mem (by exact trivial)
theorem f182.sound0 (k : Nat) : SoundC env Try.prog 182 (f182.hd k) := by
  intro ps_
  show GoodC _ _ _ ps_ (f182.hd k ps_)
  unfold f182.hd
  refine gC_ok (p := GoodC env Try.prog 182 _) goodC_no fun _ _ h => ?_
  subst h
  refine qP_ok (p := GoodC env Try.prog 182 _) goodC_no fun _ h => ?_
  subst h
  refine gC_ok (p := GoodC env Try.prog 182 _) goodC_no fun _ _ h => ?_
  subst h
  refine qSl_ok (p := GoodC env Try.prog 182 _) goodC_no fun _ h => ?_
  subst h
  refine gC_ok (p := GoodC env Try.prog 182 _) goodC_no fun _ _ h => ?_
  subst h
  refine qS_ok (p := GoodC env Try.prog 182 _) goodC_no fun _ h => ?_
  subst h
  refine vI_ok (p := GoodC env Try.prog 182 _) goodC_no fun _ h => ?_
  subst h
  refine gC_ok (p := GoodC env Try.prog 182 _) goodC_no fun _ _ h => ?_
  subst h
  refine qS_ok (p := GoodC env Try.prog 182 _) goodC_no fun _ h => ?_
  subst h
  refine vI_ok (p := GoodC env Try.prog 182 _) goodC_no fun _ h => ?_
  subst h
  refine gE_ok (p := GoodC env Try.prog 182 _) goodC_no fun h => ?_
  subst h
  refine gE_ok (p := GoodC env Try.prog 182 _) goodC_no fun h => ?_
  subst h
  exact fun_good (fun_sound envOK (cs_sound _ (by exact trivial)) (f182.hok k) Try.func182 rfl) ((f182.ev k _ _ _).trans (f182.nat k _ _ _ _))
theorem f182.sound (k : Nat) : SoundC env Try.prog 182 (f182.e k).F := soundC_coer (f182.sound0 k) [[some 5, none, none]]
theorem f182.says (k : Nat) (xs1 : List Int) (a2 : Int) (a3 : Int) (t5 : Int × (List Int) × Int × Int) (h_ : f182 k xs1 a2 a3 = some t5) : SoundAt env Try.prog 182 [.v (.ptr [.sl 5 xs1, .s (.int .i64 a2), .s (.int .i64 a3)])] ⟨.v (.c (.s (.int .i64 t5.1))), [[.sl 5 t5.2.1, .s (.int .i64 t5.2.2.1), .s (.int .i64 t5.2.2.2)]]⟩ :=
  fun_sound envOK (cs_sound _ (by exact trivial)) (f182.hok k) Try.func182 rfl _ _ (((f182.ev k xs1 a2 a3).trans (f182.nat k _ xs1 a2 a3)).trans (by rw [h_]; rfl))
theorem f182.fnok : FnOK Try.prog 182 := fn_ok Try.func182 (by kernel_rfl) rfl
def f145.step {R : Type} (k : Nat) (ret : (Int × (List Int) × Int × Int) → Option R) (xs1 : List Int) (a2 : Int) (a3 : Int) (a4 : Int) : Option R :=
  if (decide (a4 ≤ (1 : Int))) = true then
    ret ((0 : Int), xs1, a2, a3)
  else
    if (decide (a4 ≤ (256 : Int))) = true then
      (f182 k xs1 a2 a3).bind fun t5 => if a4 ≠ 0 then
          ret ((Int.tmod t5.1 a4), t5.2.1, t5.2.2.1, t5.2.2.2)
        else none
    else
      (f182 k xs1 a2 a3).bind fun t6 => (f182 k t6.2.1 t6.2.2.1 t6.2.2.2).bind fun t7 => (f182 k t7.2.1 t7.2.2.1 t7.2.2.2).bind fun t8 => if a4 ≠ 0 then
              ret ((Int.tmod (IntKind.i64.wrap ((IntKind.i64.wrap ((IntKind.i64.wrap (t6.1 * (65536 : Int))) + (IntKind.i64.wrap (t7.1 * (256 : Int))))) + t8.1)) a4), t8.2.1, t8.2.2.1, t8.2.2.2)
            else none
def f145 (k : Nat) (xs1 : List Int) (a2 : Int) (a3 : Int) (a4 : Int) : Option (Int × (List Int) × Int × Int) := f145.step k some xs1 a2 a3 a4
def f145.w {R : Type} : (Int × (List Int) × Int × Int) → (Res env → Option R) → Option R := fun t9 K => K ⟨.v (.c (.s (.int .i64 t9.1))), [[.sl 5 t9.2.1, .s (.int .i64 t9.2.2.1), .s (.int .i64 t9.2.2.2)], []]⟩
theorem f145.wn (x : (Int × (List Int) × Int × Int)) : ∃ res, ∀ {R : Type} (K : Res env → Option R), f145.w x K = K res := by
  exact ⟨_, fun _ => rfl⟩
def f145.hd (k : Nat) (ps_ : List (P2 env)) : Cl env :=
  gC Cl.no ps_ fun p_ ps_ => qP Cl.no p_ fun cs_ => gC Cl.no cs_ fun c_ cs_ => qSl Cl.no 5 c_ fun xs1 => gC Cl.no cs_ fun c_ cs_ => qS Cl.no c_ fun v_ => vI Cl.no .i64 v_ fun a2 => gC Cl.no cs_ fun c_ cs_ => qS Cl.no c_ fun v_ => vI Cl.no .i64 v_ fun a3 => gE Cl.no cs_ <| gC Cl.no ps_ fun p_ ps_ => qC Cl.no p_ fun c_ => qS Cl.no c_ fun v_ => vI Cl.no .i64 v_ fun a4 => gE Cl.no ps_ <| { α := Int × (List Int) × Int × Int, o := f145 k xs1 a2 a3 a4, w := f145.w, nat := fun x _ => f145.wn x }
def f145.e (k : Nat) : Entry env := ⟨fun ps => f145.hd k (coer [[some 5, none, none], [none]] ps)⟩
def f145.X (k : Nat) : Ctx env := { C := lookE [(182, f182.e k)], L := lookE [], J := lookE [], keep := lookD [], keepX := lookD [], span := lookN [], eff := fun n => memN n [], prep := lookP [] }
theorem f145.nat {R : Type} (k : Nat) (g : (Int × (List Int) × Int × Int) → Option R) (xs1 : List Int) (a2 : Int) (a3 : Int) (a4 : Int) : f145.step k g xs1 a2 a3 a4 = (f145 k xs1 a2 a3 a4).bind g := by
  simp only [f145, f145.step, bind_ite, bind_sum, Option.bind_assoc, Option.bind_some, Option.bind_none]
theorem f145.ev (k : Nat) (xs1 : List Int) (a2 : Int) (a3 : Int) (a4 : Int) : evF (f145.X k) (bodyOf Try.f145) Try.f145.ntmps Try.f145.results.toList [.v (.ptr [.sl 5 xs1, .s (.int .i64 a2), .s (.int .i64 a3)]), .v (.c (.s (.int .i64 a4)))] = f145.step k (fun x => f145.w x some) xs1 a2 a3 a4 := by kernel_rfl
theorem f145.hok (k : Nat) : HOK (f145.X k) (bodyOf Try.f145) where
  l := allP_mem (by exact trivial)
  j := allP_mem (by exact trivial)
theorem f145.sound0 (k : Nat) : SoundC env Try.prog 145 (f145.hd k) := by
  intro ps_
  show GoodC _ _ _ ps_ (f145.hd k ps_)
  unfold f145.hd
  refine gC_ok (p := GoodC env Try.prog 145 _) goodC_no fun _ _ h => ?_
  subst h
  refine qP_ok (p := GoodC env Try.prog 145 _) goodC_no fun _ h => ?_
  subst h
  refine gC_ok (p := GoodC env Try.prog 145 _) goodC_no fun _ _ h => ?_
  subst h
  refine qSl_ok (p := GoodC env Try.prog 145 _) goodC_no fun _ h => ?_
  subst h
  refine gC_ok (p := GoodC env Try.prog 145 _) goodC_no fun _ _ h => ?_
  subst h
  refine qS_ok (p := GoodC env Try.prog 145 _) goodC_no fun _ h => ?_
  subst h
  refine vI_ok (p := GoodC env Try.prog 145 _) goodC_no fun _ h => ?_
  subst h
  refine gC_ok (p := GoodC env Try.prog 145 _) goodC_no fun _ _ h => ?_
  subst h
  refine qS_ok (p := GoodC env Try.prog 145 _) goodC_no fun _ h => ?_
  subst h
  refine vI_ok (p := GoodC env Try.prog 145 _) goodC_no fun _ h => ?_
  subst h
  refine gE_ok (p := GoodC env Try.prog 145 _) goodC_no fun h => ?_
  subst h
  refine gC_ok (p := GoodC env Try.prog 145 _) goodC_no fun _ _ h => ?_
  subst h
  refine qC_ok (p := GoodC env Try.prog 145 _) goodC_no fun _ h => ?_
  subst h
  refine qS_ok (p := GoodC env Try.prog 145 _) goodC_no fun _ h => ?_
  subst h
  refine vI_ok (p := GoodC env Try.prog 145 _) goodC_no fun _ h => ?_
  subst h
  refine gE_ok (p := GoodC env Try.prog 145 _) goodC_no fun h => ?_
  subst h
  exact fun_good (fun_sound envOK (cs_sound _ (by exact ⟨⟨f182.sound k, f182.fnok⟩, trivial⟩)) (f145.hok k) Try.func145 rfl) ((f145.ev k _ _ _ _).trans (f145.nat k _ _ _ _ _))
theorem f145.sound (k : Nat) : SoundC env Try.prog 145 (f145.e k).F := soundC_coer (f145.sound0 k) [[some 5, none, none], [none]]
theorem f145.says (k : Nat) (xs1 : List Int) (a2 : Int) (a3 : Int) (a4 : Int) (t10 : Int × (List Int) × Int × Int) (h_ : f145 k xs1 a2 a3 a4 = some t10) : SoundAt env Try.prog 145 [.v (.ptr [.sl 5 xs1, .s (.int .i64 a2), .s (.int .i64 a3)]), .v (.c (.s (.int .i64 a4)))] ⟨.v (.c (.s (.int .i64 t10.1))), [[.sl 5 t10.2.1, .s (.int .i64 t10.2.2.1), .s (.int .i64 t10.2.2.2)], []]⟩ :=
  fun_sound envOK (cs_sound _ (by exact ⟨⟨f182.sound k, f182.fnok⟩, trivial⟩)) (f145.hok k) Try.func145 rfl _ _ (((f145.ev k xs1 a2 a3 a4).trans (f145.nat k _ xs1 a2 a3 a4)).trans (by rw [h_]; rfl))
theorem f145.fnok : FnOK Try.prog 145 := fn_ok Try.func145 (by kernel_rfl) rfl
def f164.l5.step {R : Type} (k : Nat) (rec_ : Int → (List Int) → Int → Int → (List Int) → Option R) (ret : ((List Int) × Int × Int × (List Int)) → Option R) (a6 : Int) (xs7 : List Int) (a8 : Int) (a9 : Int) (xs10 : List Int) : Option R :=
  if (decide (a6 > (0 : Int))) = true then
    (f145 k xs7 a8 a9 (16 : Int)).bind fun t11 => (f145 k t11.2.1 t11.2.2.1 t11.2.2.2 (256 : Int)).bind fun t12 => if (0 : Int) ≤ t11.1 then
          if t11.1 < ((List.length xs10 : Nat) : Int) then
            rec_ (IntKind.i64.wrap (a6 - (1 : Int))) t12.2.1 t12.2.2.1 t12.2.2.2 (List.set xs10 (Int.toNat t11.1) (IntKind.u8.wrap t12.1))
          else none
        else none
  else
    ret (xs7, a8, a9, xs10)
def f164.l5 (k : Nat) : Nat → Int → (List Int) → Int → Int → (List Int) → Option ((List Int) × Int × Int × (List Int))
  | 0, _, _, _, _, _ => none
  | j + 1, a6, xs7, a8, a9, xs10 => f164.l5.step k (fun a6 xs7 a8 a9 xs10 => f164.l5 k j a6 xs7 a8 a9 xs10) some a6 xs7 a8 a9 xs10
def f164.l5.w {R : Type} : ((List Int) × Int × Int × (List Int)) → (Exit → St env → Option R) → Option R := fun t14 K => K (.exit 0) ⟨fullT [0, 3] 0 28 [.v (.c (.bp 0 0)), .v (.c (.row 17))], [(0, .box [.imm 5 t14.1, .s (.int .i64 t14.2.1), .s (.int .i64 t14.2.2.1)]), (17, .row true 5 t14.2.2.2)], 449⟩
def f164.l5.st (a6 : Int) (xs7 : List Int) (a8 : Int) (a9 : Int) (xs10 : List Int) : St env := ⟨fullT [0, 3, 4] 0 28 [.v (.c (.bp 0 0)), .v (.c (.row 17)), .v (.c (.s (.int .i64 a6)))], [(0, .box [.imm 5 xs7, .s (.int .i64 a8), .s (.int .i64 a9)]), (17, .row true 5 xs10)], 241⟩
def f164.l5.hd (k : Nat) (ts_ : List (AV env)) (mm_ : Mem env) (n_ : Nat) : LCl env :=
  gTs LCl.no [0, 3, 4] 28 ts_ fun l_ => gV LCl.no l_ fun a_ l_ => rBp LCl.no 0 0 a_ <| gV LCl.no l_ fun a_ l_ => rRow LCl.no 17 a_ <| gV LCl.no l_ fun a_ l_ => rV LCl.no a_ fun v_ => vI LCl.no .i64 v_ fun a6 => gE LCl.no l_ <| mBox LCl.no 0 mm_ fun c_ m_ => gC LCl.no c_ fun a_ c_ => rImm LCl.no 5 a_ fun xs7 => gC LCl.no c_ fun a_ c_ => rV LCl.no a_ fun v_ => vI LCl.no .i64 v_ fun a8 => gC LCl.no c_ fun a_ c_ => rV LCl.no a_ fun v_ => vI LCl.no .i64 v_ fun a9 => gE LCl.no c_ <| mRow LCl.no 17 true 5 m_ fun xs10 m_ => gE LCl.no m_ <| gN LCl.no 241 n_ { α := (List Int) × Int × Int × (List Int), o := f164.l5 k k a6 xs7 a8 a9 xs10, w := f164.l5.w }
def f164.step {R : Type} (k : Nat) (ret : (ByteArray × (List Int) × Int × Int) → Option R) (xs1 : List Int) (a2 : Int) (a3 : Int) : Option R :=
  if (0 : Int) < ((List.length (List.replicate 16 (0 : Int)) : Nat) : Int) then
    (f145 k xs1 a2 a3 (2 : Int)).bind fun t4 => if (1 : Int) < ((List.length (List.set (List.replicate 16 (0 : Int)) 0 (32 : Int)) : Nat) : Int) then
        (f145 k t4.2.1 t4.2.2.1 t4.2.2.2 (4 : Int)).bind fun t5 => (f164.l5 k k t5.1 t5.2.1 t5.2.2.1 t5.2.2.2 (List.set (List.set (List.replicate 16 (0 : Int)) 0 (32 : Int)) 1 (IntKind.u8.wrap t4.1))).bind fun t13 => ret ((strOf t13.2.2.2), t13.1, t13.2.1, t13.2.2.1)
      else none
  else none
def f164 (k : Nat) (xs1 : List Int) (a2 : Int) (a3 : Int) : Option (ByteArray × (List Int) × Int × Int) := f164.step k some xs1 a2 a3
def f164.w {R : Type} : (ByteArray × (List Int) × Int × Int) → (Res env → Option R) → Option R := fun t15 K => K ⟨.v (.c (.s (.string t15.1))), [[.sl 5 t15.2.1, .s (.int .i64 t15.2.2.1), .s (.int .i64 t15.2.2.2)]]⟩
theorem f164.wn (x : (ByteArray × (List Int) × Int × Int)) : ∃ res, ∀ {R : Type} (K : Res env → Option R), f164.w x K = K res := by
  exact ⟨_, fun _ => rfl⟩
def f164.hd (k : Nat) (ps_ : List (P2 env)) : Cl env :=
  gC Cl.no ps_ fun p_ ps_ => qP Cl.no p_ fun cs_ => gC Cl.no cs_ fun c_ cs_ => qSl Cl.no 5 c_ fun xs1 => gC Cl.no cs_ fun c_ cs_ => qS Cl.no c_ fun v_ => vI Cl.no .i64 v_ fun a2 => gC Cl.no cs_ fun c_ cs_ => qS Cl.no c_ fun v_ => vI Cl.no .i64 v_ fun a3 => gE Cl.no cs_ <| gE Cl.no ps_ <| { α := ByteArray × (List Int) × Int × Int, o := f164 k xs1 a2 a3, w := f164.w, nat := fun x _ => f164.wn x }
def f164.e (k : Nat) : Entry env := ⟨fun ps => f164.hd k (coer [[some 5, none, none]] ps)⟩
def f164.X (k : Nat) : Ctx env := { C := lookE [(145, f145.e k)], L := lookE [(5, fun S => f164.l5.hd k S.ts S.m S.n)], J := lookE [], keep := lookD [(5, [0, 3, 4])], keepX := lookD [(5, [0, 3])], span := lookN [(5, 208)], eff := fun n => memN n [], prep := lookP [] }
theorem f164.l5.nat {R : Type} (k : Nat) (rec_ : Int → (List Int) → Int → Int → (List Int) → Option ((List Int) × Int × Int × (List Int))) (g : ((List Int) × Int × Int × (List Int)) → Option R) (a6 : Int) (xs7 : List Int) (a8 : Int) (a9 : Int) (xs10 : List Int) : (f164.l5.step k rec_ some a6 xs7 a8 a9 xs10).bind g = f164.l5.step k (fun a6 xs7 a8 a9 xs10 => (rec_ a6 xs7 a8 a9 xs10).bind g) g a6 xs7 a8 a9 xs10 := by
  simp only [f164.l5.step, bind_ite, bind_sum, Option.bind_assoc, Option.bind_some, Option.bind_none]
theorem f164.l5.good (k : Nat) (a6 : Int) (xs7 : List Int) (a8 : Int) (a9 : Int) (xs10 : List Int) : GoodL (f164.X k) (nthC 0 (loopsOf (bodyOf Try.f164))) (f164.l5.st a6 xs7 a8 a9 xs10) { α := ((List Int) × Int × Int × (List Int)), o := f164.l5 k k a6 xs7 a8 a9 xs10, w := f164.l5.w } :=
  loop_good (ι := Int × (List Int) × Int × Int × (List Int)) (α := ((List Int) × Int × Int × (List Int))) (fun i => f164.l5.st i.1 i.2.1 i.2.2.1 i.2.2.2.1 i.2.2.2.2) (fun j i => f164.l5 k j i.1 i.2.1 i.2.2.1 i.2.2.2.1 i.2.2.2.2) f164.l5.w (fun rec_ ret i => f164.l5.step k (fun a6 xs7 a8 a9 xs10 => rec_ (a6, xs7, a8, a9, xs10)) ret i.1 i.2.1 i.2.2.1 i.2.2.2.1 i.2.2.2.2)
    (fun _ => rfl) (fun _ _ => rfl) (fun rec_ g i => f164.l5.nat k _ g i.1 i.2.1 i.2.2.1 i.2.2.2.1 i.2.2.2.2) (fun {R} i0 i rec_ K => by kernel_rfl) k (a6, xs7, a8, a9, xs10)
theorem f164.l5.all (k : Nat) (S : St env) : GoodL (f164.X k) (nthC 0 (loopsOf (bodyOf Try.f164))) S (f164.l5.hd k S.ts S.m S.n) := by
  obtain ⟨ts_, m_, n_⟩ := S
  show GoodL _ _ _ (f164.l5.hd k ts_ m_ n_)
  unfold f164.l5.hd
  refine gTs_ok (p := GoodL _ _ _) goodL_no fun _ h => ?_
  subst h
  refine gV_ok (p := GoodL _ _ _) goodL_no fun _ _ h => ?_
  subst h
  refine rBp_ok (p := GoodL _ _ _) goodL_no fun h => ?_
  subst h
  refine gV_ok (p := GoodL _ _ _) goodL_no fun _ _ h => ?_
  subst h
  refine rRow_ok (p := GoodL _ _ _) goodL_no fun h => ?_
  subst h
  refine gV_ok (p := GoodL _ _ _) goodL_no fun _ _ h => ?_
  subst h
  refine rV_ok (p := GoodL _ _ _) goodL_no fun _ h => ?_
  subst h
  refine vI_ok (p := GoodL _ _ _) goodL_no fun _ h => ?_
  subst h
  refine gE_ok (p := GoodL _ _ _) goodL_no fun h => ?_
  subst h
  refine mBox_ok (p := GoodL _ _ _) goodL_no fun _ _ h => ?_
  subst h
  refine gC_ok (p := GoodL _ _ _) goodL_no fun _ _ h => ?_
  subst h
  refine rImm_ok (p := GoodL _ _ _) goodL_no fun _ h => ?_
  subst h
  refine gC_ok (p := GoodL _ _ _) goodL_no fun _ _ h => ?_
  subst h
  refine rV_ok (p := GoodL _ _ _) goodL_no fun _ h => ?_
  subst h
  refine vI_ok (p := GoodL _ _ _) goodL_no fun _ h => ?_
  subst h
  refine gC_ok (p := GoodL _ _ _) goodL_no fun _ _ h => ?_
  subst h
  refine rV_ok (p := GoodL _ _ _) goodL_no fun _ h => ?_
  subst h
  refine vI_ok (p := GoodL _ _ _) goodL_no fun _ h => ?_
  subst h
  refine gE_ok (p := GoodL _ _ _) goodL_no fun h => ?_
  subst h
  refine mRow_ok (p := GoodL _ _ _) goodL_no fun _ _ h => ?_
  subst h
  refine gE_ok (p := GoodL _ _ _) goodL_no fun h => ?_
  subst h
  refine gN_ok (p := GoodL _ _ _) goodL_no fun h => ?_
  subst h
  exact f164.l5.good k _ _ _ _ _
theorem f164.nat {R : Type} (k : Nat) (g : (ByteArray × (List Int) × Int × Int) → Option R) (xs1 : List Int) (a2 : Int) (a3 : Int) : f164.step k g xs1 a2 a3 = (f164 k xs1 a2 a3).bind g := by
  simp only [f164, f164.step, bind_ite, bind_sum, Option.bind_assoc, Option.bind_some, Option.bind_none]
theorem f164.ev (k : Nat) (xs1 : List Int) (a2 : Int) (a3 : Int) : evF (f164.X k) (bodyOf Try.f164) Try.f164.ntmps Try.f164.results.toList [.v (.ptr [.sl 5 xs1, .s (.int .i64 a2), .s (.int .i64 a3)])] = f164.step k (fun x => f164.w x some) xs1 a2 a3 := by kernel_rfl
theorem f164.hok (k : Nat) : HOK (f164.X k) (bodyOf Try.f164) where
  l := allP_mem (by exact ⟨ls_of (h0 := fun S => f164.l5.hd k S.ts S.m S.n) (by kernel_rfl) (f164.l5.all k), trivial⟩)
  j := allP_mem (by exact trivial)
theorem f164.sound0 (k : Nat) : SoundC env Try.prog 164 (f164.hd k) := by
  intro ps_
  show GoodC _ _ _ ps_ (f164.hd k ps_)
  unfold f164.hd
  refine gC_ok (p := GoodC env Try.prog 164 _) goodC_no fun _ _ h => ?_
  subst h
  refine qP_ok (p := GoodC env Try.prog 164 _) goodC_no fun _ h => ?_
  subst h
  refine gC_ok (p := GoodC env Try.prog 164 _) goodC_no fun _ _ h => ?_
  subst h
  refine qSl_ok (p := GoodC env Try.prog 164 _) goodC_no fun _ h => ?_
  subst h
  refine gC_ok (p := GoodC env Try.prog 164 _) goodC_no fun _ _ h => ?_
  subst h
  refine qS_ok (p := GoodC env Try.prog 164 _) goodC_no fun _ h => ?_
  subst h
  refine vI_ok (p := GoodC env Try.prog 164 _) goodC_no fun _ h => ?_
  subst h
  refine gC_ok (p := GoodC env Try.prog 164 _) goodC_no fun _ _ h => ?_
  subst h
  refine qS_ok (p := GoodC env Try.prog 164 _) goodC_no fun _ h => ?_
  subst h
  refine vI_ok (p := GoodC env Try.prog 164 _) goodC_no fun _ h => ?_
  subst h
  refine gE_ok (p := GoodC env Try.prog 164 _) goodC_no fun h => ?_
  subst h
  refine gE_ok (p := GoodC env Try.prog 164 _) goodC_no fun h => ?_
  subst h
  exact fun_good (fun_sound envOK (cs_sound _ (by exact ⟨⟨f145.sound k, f145.fnok⟩, trivial⟩)) (f164.hok k) Try.func164 rfl) ((f164.ev k _ _ _).trans (f164.nat k _ _ _ _))
theorem f164.sound (k : Nat) : SoundC env Try.prog 164 (f164.e k).F := soundC_coer (f164.sound0 k) [[some 5, none, none]]
theorem f164.says (k : Nat) (xs1 : List Int) (a2 : Int) (a3 : Int) (t16 : ByteArray × (List Int) × Int × Int) (h_ : f164 k xs1 a2 a3 = some t16) : SoundAt env Try.prog 164 [.v (.ptr [.sl 5 xs1, .s (.int .i64 a2), .s (.int .i64 a3)])] ⟨.v (.c (.s (.string t16.1))), [[.sl 5 t16.2.1, .s (.int .i64 t16.2.2.1), .s (.int .i64 t16.2.2.2)]]⟩ :=
  fun_sound envOK (cs_sound _ (by exact ⟨⟨f145.sound k, f145.fnok⟩, trivial⟩)) (f164.hok k) Try.func164 rfl _ _ (((f164.ev k xs1 a2 a3).trans (f164.nat k _ xs1 a2 a3)).trans (by rw [h_]; rfl))
theorem f164.fnok : FnOK Try.prog 164 := fn_ok Try.func164 (by kernel_rfl) rfl
def f165.l3.step {R : Type} (k : Nat) (rec_ : Int → (List Int) → Int → Int → (List Int) → Option R) (ret : ((List Int) × Int × Int × (List Int)) → Option R) (a6 : Int) (xs7 : List Int) (a8 : Int) (a9 : Int) (xs10 : List Int) : Option R :=
  if (decide (a6 > (0 : Int))) = true then
    (f145 k xs7 a8 a9 (256 : Int)).bind fun t11 => if (List.length xs10 + List.length ([(IntKind.u8.wrap t11.1)] : List Int)) * 1 ≤ maxN then
        rec_ (IntKind.i64.wrap (a6 - (1 : Int))) t11.2.1 t11.2.2.1 t11.2.2.2 (xs10 ++ ([(IntKind.u8.wrap t11.1)] : List Int))
      else none
  else
    ret (xs7, a8, a9, xs10)
def f165.l3 (k : Nat) : Nat → Int → (List Int) → Int → Int → (List Int) → Option ((List Int) × Int × Int × (List Int))
  | 0, _, _, _, _, _ => none
  | j + 1, a6, xs7, a8, a9, xs10 => f165.l3.step k (fun a6 xs7 a8 a9 xs10 => f165.l3 k j a6 xs7 a8 a9 xs10) some a6 xs7 a8 a9 xs10
def f165.l3.w {R : Type} : ((List Int) × Int × Int × (List Int)) → (Exit → St env → Option R) → Option R := fun t13 K => K (.exit 0) ⟨fullT [0, 5] 0 23 [.v (.c (.bp 0 0)), .v (.c (.row 18))], [(0, .box [.imm 5 t13.1, .s (.int .i64 t13.2.1), .s (.int .i64 t13.2.2.1)]), (18, .row true 5 t13.2.2.2)], 322⟩
def f165.l3.st (a6 : Int) (xs7 : List Int) (a8 : Int) (a9 : Int) (xs10 : List Int) : St env := ⟨fullT [0, 5, 6] 0 23 [.v (.c (.bp 0 0)), .v (.c (.row 18)), .v (.c (.s (.int .i64 a6)))], [(0, .box [.imm 5 xs7, .s (.int .i64 a8), .s (.int .i64 a9)]), (18, .row true 5 xs10)], 130⟩
def f165.l3.hd (k : Nat) (ts_ : List (AV env)) (mm_ : Mem env) (n_ : Nat) : LCl env :=
  gTs LCl.no [0, 5, 6] 23 ts_ fun l_ => gV LCl.no l_ fun a_ l_ => rBp LCl.no 0 0 a_ <| gV LCl.no l_ fun a_ l_ => rRow LCl.no 18 a_ <| gV LCl.no l_ fun a_ l_ => rV LCl.no a_ fun v_ => vI LCl.no .i64 v_ fun a6 => gE LCl.no l_ <| mBox LCl.no 0 mm_ fun c_ m_ => gC LCl.no c_ fun a_ c_ => rImm LCl.no 5 a_ fun xs7 => gC LCl.no c_ fun a_ c_ => rV LCl.no a_ fun v_ => vI LCl.no .i64 v_ fun a8 => gC LCl.no c_ fun a_ c_ => rV LCl.no a_ fun v_ => vI LCl.no .i64 v_ fun a9 => gE LCl.no c_ <| mRow LCl.no 18 true 5 m_ fun xs10 m_ => gE LCl.no m_ <| gN LCl.no 130 n_ { α := (List Int) × Int × Int × (List Int), o := f165.l3 k k a6 xs7 a8 a9 xs10, w := f165.l3.w }
def f165.step {R : Type} (k : Nat) (ret : ((List Int) × (List Int) × Int × Int) → Option R) (xs1 : List Int) (a2 : Int) (a3 : Int) (a4 : Int) : Option R :=
  (f145 k xs1 a2 a3 (IntKind.i64.wrap (a4 + (1 : Int)))).bind fun t5 => (f165.l3 k k t5.1 t5.2.1 t5.2.2.1 t5.2.2.2 ([] : List Int)).bind fun t12 => ret (t12.2.2.2, t12.1, t12.2.1, t12.2.2.1)
def f165 (k : Nat) (xs1 : List Int) (a2 : Int) (a3 : Int) (a4 : Int) : Option ((List Int) × (List Int) × Int × Int) := f165.step k some xs1 a2 a3 a4
def f165.w {R : Type} : ((List Int) × (List Int) × Int × Int) → (Res env → Option R) → Option R := fun t14 K => K ⟨.v (.c (.own true 5 t14.1)), [[.sl 5 t14.2.1, .s (.int .i64 t14.2.2.1), .s (.int .i64 t14.2.2.2)], []]⟩
theorem f165.wn (x : ((List Int) × (List Int) × Int × Int)) : ∃ res, ∀ {R : Type} (K : Res env → Option R), f165.w x K = K res := by
  exact ⟨_, fun _ => rfl⟩
def f165.hd (k : Nat) (ps_ : List (P2 env)) : Cl env :=
  gC Cl.no ps_ fun p_ ps_ => qP Cl.no p_ fun cs_ => gC Cl.no cs_ fun c_ cs_ => qSl Cl.no 5 c_ fun xs1 => gC Cl.no cs_ fun c_ cs_ => qS Cl.no c_ fun v_ => vI Cl.no .i64 v_ fun a2 => gC Cl.no cs_ fun c_ cs_ => qS Cl.no c_ fun v_ => vI Cl.no .i64 v_ fun a3 => gE Cl.no cs_ <| gC Cl.no ps_ fun p_ ps_ => qC Cl.no p_ fun c_ => qS Cl.no c_ fun v_ => vI Cl.no .i64 v_ fun a4 => gE Cl.no ps_ <| { α := (List Int) × (List Int) × Int × Int, o := f165 k xs1 a2 a3 a4, w := f165.w, nat := fun x _ => f165.wn x }
def f165.e (k : Nat) : Entry env := ⟨fun ps => f165.hd k (coer [[some 5, none, none], [none]] ps)⟩
def f165.X (k : Nat) : Ctx env := { C := lookE [(145, f145.e k)], L := lookE [(3, fun S => f165.l3.hd k S.ts S.m S.n)], J := lookE [], keep := lookD [(3, [0, 5, 6])], keepX := lookD [(3, [0, 5])], span := lookN [(3, 192)], eff := fun n => memN n [], prep := lookP [] }
theorem f165.l3.nat {R : Type} (k : Nat) (rec_ : Int → (List Int) → Int → Int → (List Int) → Option ((List Int) × Int × Int × (List Int))) (g : ((List Int) × Int × Int × (List Int)) → Option R) (a6 : Int) (xs7 : List Int) (a8 : Int) (a9 : Int) (xs10 : List Int) : (f165.l3.step k rec_ some a6 xs7 a8 a9 xs10).bind g = f165.l3.step k (fun a6 xs7 a8 a9 xs10 => (rec_ a6 xs7 a8 a9 xs10).bind g) g a6 xs7 a8 a9 xs10 := by
  simp only [f165.l3.step, bind_ite, bind_sum, Option.bind_assoc, Option.bind_some, Option.bind_none]
theorem f165.l3.good (k : Nat) (a6 : Int) (xs7 : List Int) (a8 : Int) (a9 : Int) (xs10 : List Int) : GoodL (f165.X k) (nthC 0 (loopsOf (bodyOf Try.f165))) (f165.l3.st a6 xs7 a8 a9 xs10) { α := ((List Int) × Int × Int × (List Int)), o := f165.l3 k k a6 xs7 a8 a9 xs10, w := f165.l3.w } :=
  loop_good (ι := Int × (List Int) × Int × Int × (List Int)) (α := ((List Int) × Int × Int × (List Int))) (fun i => f165.l3.st i.1 i.2.1 i.2.2.1 i.2.2.2.1 i.2.2.2.2) (fun j i => f165.l3 k j i.1 i.2.1 i.2.2.1 i.2.2.2.1 i.2.2.2.2) f165.l3.w (fun rec_ ret i => f165.l3.step k (fun a6 xs7 a8 a9 xs10 => rec_ (a6, xs7, a8, a9, xs10)) ret i.1 i.2.1 i.2.2.1 i.2.2.2.1 i.2.2.2.2)
    (fun _ => rfl) (fun _ _ => rfl) (fun rec_ g i => f165.l3.nat k _ g i.1 i.2.1 i.2.2.1 i.2.2.2.1 i.2.2.2.2) (fun {R} i0 i rec_ K => by kernel_rfl) k (a6, xs7, a8, a9, xs10)
theorem f165.l3.all (k : Nat) (S : St env) : GoodL (f165.X k) (nthC 0 (loopsOf (bodyOf Try.f165))) S (f165.l3.hd k S.ts S.m S.n) := by
  obtain ⟨ts_, m_, n_⟩ := S
  show GoodL _ _ _ (f165.l3.hd k ts_ m_ n_)
  unfold f165.l3.hd
  refine gTs_ok (p := GoodL _ _ _) goodL_no fun _ h => ?_
  subst h
  refine gV_ok (p := GoodL _ _ _) goodL_no fun _ _ h => ?_
  subst h
  refine rBp_ok (p := GoodL _ _ _) goodL_no fun h => ?_
  subst h
  refine gV_ok (p := GoodL _ _ _) goodL_no fun _ _ h => ?_
  subst h
  refine rRow_ok (p := GoodL _ _ _) goodL_no fun h => ?_
  subst h
  refine gV_ok (p := GoodL _ _ _) goodL_no fun _ _ h => ?_
  subst h
  refine rV_ok (p := GoodL _ _ _) goodL_no fun _ h => ?_
  subst h
  refine vI_ok (p := GoodL _ _ _) goodL_no fun _ h => ?_
  subst h
  refine gE_ok (p := GoodL _ _ _) goodL_no fun h => ?_
  subst h
  refine mBox_ok (p := GoodL _ _ _) goodL_no fun _ _ h => ?_
  subst h
  refine gC_ok (p := GoodL _ _ _) goodL_no fun _ _ h => ?_
  subst h
  refine rImm_ok (p := GoodL _ _ _) goodL_no fun _ h => ?_
  subst h
  refine gC_ok (p := GoodL _ _ _) goodL_no fun _ _ h => ?_
  subst h
  refine rV_ok (p := GoodL _ _ _) goodL_no fun _ h => ?_
  subst h
  refine vI_ok (p := GoodL _ _ _) goodL_no fun _ h => ?_
  subst h
  refine gC_ok (p := GoodL _ _ _) goodL_no fun _ _ h => ?_
  subst h
  refine rV_ok (p := GoodL _ _ _) goodL_no fun _ h => ?_
  subst h
  refine vI_ok (p := GoodL _ _ _) goodL_no fun _ h => ?_
  subst h
  refine gE_ok (p := GoodL _ _ _) goodL_no fun h => ?_
  subst h
  refine mRow_ok (p := GoodL _ _ _) goodL_no fun _ _ h => ?_
  subst h
  refine gE_ok (p := GoodL _ _ _) goodL_no fun h => ?_
  subst h
  refine gN_ok (p := GoodL _ _ _) goodL_no fun h => ?_
  subst h
  exact f165.l3.good k _ _ _ _ _
theorem f165.nat {R : Type} (k : Nat) (g : ((List Int) × (List Int) × Int × Int) → Option R) (xs1 : List Int) (a2 : Int) (a3 : Int) (a4 : Int) : f165.step k g xs1 a2 a3 a4 = (f165 k xs1 a2 a3 a4).bind g := by
  simp only [f165, f165.step, bind_ite, bind_sum, Option.bind_assoc, Option.bind_some, Option.bind_none]
theorem f165.ev (k : Nat) (xs1 : List Int) (a2 : Int) (a3 : Int) (a4 : Int) : evF (f165.X k) (bodyOf Try.f165) Try.f165.ntmps Try.f165.results.toList [.v (.ptr [.sl 5 xs1, .s (.int .i64 a2), .s (.int .i64 a3)]), .v (.c (.s (.int .i64 a4)))] = f165.step k (fun x => f165.w x some) xs1 a2 a3 a4 := by kernel_rfl
theorem f165.hok (k : Nat) : HOK (f165.X k) (bodyOf Try.f165) where
  l := allP_mem (by exact ⟨ls_of (h0 := fun S => f165.l3.hd k S.ts S.m S.n) (by kernel_rfl) (f165.l3.all k), trivial⟩)
  j := allP_mem (by exact trivial)
theorem f165.sound0 (k : Nat) : SoundC env Try.prog 165 (f165.hd k) := by
  intro ps_
  show GoodC _ _ _ ps_ (f165.hd k ps_)
  unfold f165.hd
  refine gC_ok (p := GoodC env Try.prog 165 _) goodC_no fun _ _ h => ?_
  subst h
  refine qP_ok (p := GoodC env Try.prog 165 _) goodC_no fun _ h => ?_
  subst h
  refine gC_ok (p := GoodC env Try.prog 165 _) goodC_no fun _ _ h => ?_
  subst h
  refine qSl_ok (p := GoodC env Try.prog 165 _) goodC_no fun _ h => ?_
  subst h
  refine gC_ok (p := GoodC env Try.prog 165 _) goodC_no fun _ _ h => ?_
  subst h
  refine qS_ok (p := GoodC env Try.prog 165 _) goodC_no fun _ h => ?_
  subst h
  refine vI_ok (p := GoodC env Try.prog 165 _) goodC_no fun _ h => ?_
  subst h
  refine gC_ok (p := GoodC env Try.prog 165 _) goodC_no fun _ _ h => ?_
  subst h
  refine qS_ok (p := GoodC env Try.prog 165 _) goodC_no fun _ h => ?_
  subst h
  refine vI_ok (p := GoodC env Try.prog 165 _) goodC_no fun _ h => ?_
  subst h
  refine gE_ok (p := GoodC env Try.prog 165 _) goodC_no fun h => ?_
  subst h
  refine gC_ok (p := GoodC env Try.prog 165 _) goodC_no fun _ _ h => ?_
  subst h
  refine qC_ok (p := GoodC env Try.prog 165 _) goodC_no fun _ h => ?_
  subst h
  refine qS_ok (p := GoodC env Try.prog 165 _) goodC_no fun _ h => ?_
  subst h
  refine vI_ok (p := GoodC env Try.prog 165 _) goodC_no fun _ h => ?_
  subst h
  refine gE_ok (p := GoodC env Try.prog 165 _) goodC_no fun h => ?_
  subst h
  exact fun_good (fun_sound envOK (cs_sound _ (by exact ⟨⟨f145.sound k, f145.fnok⟩, trivial⟩)) (f165.hok k) Try.func165 rfl) ((f165.ev k _ _ _ _).trans (f165.nat k _ _ _ _ _))
theorem f165.sound (k : Nat) : SoundC env Try.prog 165 (f165.e k).F := soundC_coer (f165.sound0 k) [[some 5, none, none], [none]]
theorem f165.says (k : Nat) (xs1 : List Int) (a2 : Int) (a3 : Int) (a4 : Int) (t15 : (List Int) × (List Int) × Int × Int) (h_ : f165 k xs1 a2 a3 a4 = some t15) : SoundAt env Try.prog 165 [.v (.ptr [.sl 5 xs1, .s (.int .i64 a2), .s (.int .i64 a3)]), .v (.c (.s (.int .i64 a4)))] ⟨.v (.c (.own true 5 t15.1)), [[.sl 5 t15.2.1, .s (.int .i64 t15.2.2.1), .s (.int .i64 t15.2.2.2)], []]⟩ :=
  fun_sound envOK (cs_sound _ (by exact ⟨⟨f145.sound k, f145.fnok⟩, trivial⟩)) (f165.hok k) Try.func165 rfl _ _ (((f165.ev k xs1 a2 a3 a4).trans (f165.nat k _ xs1 a2 a3 a4)).trans (by rw [h_]; rfl))
theorem f165.fnok : FnOK Try.prog 165 := fn_ok Try.func165 (by kernel_rfl) rfl
def f166.step {R : Type} (k : Nat) (ret : (Bool × (List Int) × Int × Int) → Option R) (xs1 : List Int) (a2 : Int) (a3 : Int) (a4 : Int) : Option R :=
  (f145 k xs1 a2 a3 a4).bind fun t5 => ret ((decide (t5.1 = (IntKind.i64.wrap (a4 - (1 : Int))))), t5.2.1, t5.2.2.1, t5.2.2.2)
def f166 (k : Nat) (xs1 : List Int) (a2 : Int) (a3 : Int) (a4 : Int) : Option (Bool × (List Int) × Int × Int) := f166.step k some xs1 a2 a3 a4
def f166.w {R : Type} : (Bool × (List Int) × Int × Int) → (Res env → Option R) → Option R := fun t6 K => K ⟨.v (.c (.s (.bool t6.1))), [[.sl 5 t6.2.1, .s (.int .i64 t6.2.2.1), .s (.int .i64 t6.2.2.2)], []]⟩
theorem f166.wn (x : (Bool × (List Int) × Int × Int)) : ∃ res, ∀ {R : Type} (K : Res env → Option R), f166.w x K = K res := by
  exact ⟨_, fun _ => rfl⟩
def f166.hd (k : Nat) (ps_ : List (P2 env)) : Cl env :=
  gC Cl.no ps_ fun p_ ps_ => qP Cl.no p_ fun cs_ => gC Cl.no cs_ fun c_ cs_ => qSl Cl.no 5 c_ fun xs1 => gC Cl.no cs_ fun c_ cs_ => qS Cl.no c_ fun v_ => vI Cl.no .i64 v_ fun a2 => gC Cl.no cs_ fun c_ cs_ => qS Cl.no c_ fun v_ => vI Cl.no .i64 v_ fun a3 => gE Cl.no cs_ <| gC Cl.no ps_ fun p_ ps_ => qC Cl.no p_ fun c_ => qS Cl.no c_ fun v_ => vI Cl.no .i64 v_ fun a4 => gE Cl.no ps_ <| { α := Bool × (List Int) × Int × Int, o := f166 k xs1 a2 a3 a4, w := f166.w, nat := fun x _ => f166.wn x }
def f166.e (k : Nat) : Entry env := ⟨fun ps => f166.hd k (coer [[some 5, none, none], [none]] ps)⟩
def f166.X (k : Nat) : Ctx env := { C := lookE [(145, f145.e k)], L := lookE [], J := lookE [], keep := lookD [], keepX := lookD [], span := lookN [], eff := fun n => memN n [], prep := lookP [] }
theorem f166.nat {R : Type} (k : Nat) (g : (Bool × (List Int) × Int × Int) → Option R) (xs1 : List Int) (a2 : Int) (a3 : Int) (a4 : Int) : f166.step k g xs1 a2 a3 a4 = (f166 k xs1 a2 a3 a4).bind g := by
  simp only [f166, f166.step, bind_ite, bind_sum, Option.bind_assoc, Option.bind_some, Option.bind_none]
theorem f166.ev (k : Nat) (xs1 : List Int) (a2 : Int) (a3 : Int) (a4 : Int) : evF (f166.X k) (bodyOf Try.f166) Try.f166.ntmps Try.f166.results.toList [.v (.ptr [.sl 5 xs1, .s (.int .i64 a2), .s (.int .i64 a3)]), .v (.c (.s (.int .i64 a4)))] = f166.step k (fun x => f166.w x some) xs1 a2 a3 a4 := by kernel_rfl
theorem f166.hok (k : Nat) : HOK (f166.X k) (bodyOf Try.f166) where
  l := allP_mem (by exact trivial)
  j := allP_mem (by exact trivial)
theorem f166.sound0 (k : Nat) : SoundC env Try.prog 166 (f166.hd k) := by
  intro ps_
  show GoodC _ _ _ ps_ (f166.hd k ps_)
  unfold f166.hd
  refine gC_ok (p := GoodC env Try.prog 166 _) goodC_no fun _ _ h => ?_
  subst h
  refine qP_ok (p := GoodC env Try.prog 166 _) goodC_no fun _ h => ?_
  subst h
  refine gC_ok (p := GoodC env Try.prog 166 _) goodC_no fun _ _ h => ?_
  subst h
  refine qSl_ok (p := GoodC env Try.prog 166 _) goodC_no fun _ h => ?_
  subst h
  refine gC_ok (p := GoodC env Try.prog 166 _) goodC_no fun _ _ h => ?_
  subst h
  refine qS_ok (p := GoodC env Try.prog 166 _) goodC_no fun _ h => ?_
  subst h
  refine vI_ok (p := GoodC env Try.prog 166 _) goodC_no fun _ h => ?_
  subst h
  refine gC_ok (p := GoodC env Try.prog 166 _) goodC_no fun _ _ h => ?_
  subst h
  refine qS_ok (p := GoodC env Try.prog 166 _) goodC_no fun _ h => ?_
  subst h
  refine vI_ok (p := GoodC env Try.prog 166 _) goodC_no fun _ h => ?_
  subst h
  refine gE_ok (p := GoodC env Try.prog 166 _) goodC_no fun h => ?_
  subst h
  refine gC_ok (p := GoodC env Try.prog 166 _) goodC_no fun _ _ h => ?_
  subst h
  refine qC_ok (p := GoodC env Try.prog 166 _) goodC_no fun _ h => ?_
  subst h
  refine qS_ok (p := GoodC env Try.prog 166 _) goodC_no fun _ h => ?_
  subst h
  refine vI_ok (p := GoodC env Try.prog 166 _) goodC_no fun _ h => ?_
  subst h
  refine gE_ok (p := GoodC env Try.prog 166 _) goodC_no fun h => ?_
  subst h
  exact fun_good (fun_sound envOK (cs_sound _ (by exact ⟨⟨f145.sound k, f145.fnok⟩, trivial⟩)) (f166.hok k) Try.func166 rfl) ((f166.ev k _ _ _ _).trans (f166.nat k _ _ _ _ _))
theorem f166.sound (k : Nat) : SoundC env Try.prog 166 (f166.e k).F := soundC_coer (f166.sound0 k) [[some 5, none, none], [none]]
theorem f166.says (k : Nat) (xs1 : List Int) (a2 : Int) (a3 : Int) (a4 : Int) (t7 : Bool × (List Int) × Int × Int) (h_ : f166 k xs1 a2 a3 a4 = some t7) : SoundAt env Try.prog 166 [.v (.ptr [.sl 5 xs1, .s (.int .i64 a2), .s (.int .i64 a3)]), .v (.c (.s (.int .i64 a4)))] ⟨.v (.c (.s (.bool t7.1))), [[.sl 5 t7.2.1, .s (.int .i64 t7.2.2.1), .s (.int .i64 t7.2.2.2)], []]⟩ :=
  fun_sound envOK (cs_sound _ (by exact ⟨⟨f145.sound k, f145.fnok⟩, trivial⟩)) (f166.hok k) Try.func166 rfl _ _ (((f166.ev k xs1 a2 a3 a4).trans (f166.nat k _ xs1 a2 a3 a4)).trans (by rw [h_]; rfl))
theorem f166.fnok : FnOK Try.prog 166 := fn_ok Try.func166 (by kernel_rfl) rfl
def f167.step {R : Type} (k : Nat) (ret : (ByteArray × (List Int) × Int × Int) → Option R) (xs1 : List Int) (a2 : Int) (a3 : Int) : Option R :=
  (f145 k xs1 a2 a3 (3 : Int)).bind fun t4 => (f145 k t4.2.1 t4.2.2.1 t4.2.2.2 (2 : Int)).bind fun t5 => (f145 k t5.2.1 t5.2.2.1 t5.2.2.2 (4 : Int)).bind fun t6 => ret ((strOf ([(10 : Int), (IntKind.u8.wrap t4.1), (IntKind.u8.wrap (IntKind.i64.wrap (t5.1 * (128 : Int)))), (IntKind.u8.wrap t6.1)] : List Int)), t6.2.1, t6.2.2.1, t6.2.2.2)
def f167 (k : Nat) (xs1 : List Int) (a2 : Int) (a3 : Int) : Option (ByteArray × (List Int) × Int × Int) := f167.step k some xs1 a2 a3
def f167.w {R : Type} : (ByteArray × (List Int) × Int × Int) → (Res env → Option R) → Option R := fun t7 K => K ⟨.v (.c (.s (.string t7.1))), [[.sl 5 t7.2.1, .s (.int .i64 t7.2.2.1), .s (.int .i64 t7.2.2.2)]]⟩
theorem f167.wn (x : (ByteArray × (List Int) × Int × Int)) : ∃ res, ∀ {R : Type} (K : Res env → Option R), f167.w x K = K res := by
  exact ⟨_, fun _ => rfl⟩
def f167.hd (k : Nat) (ps_ : List (P2 env)) : Cl env :=
  gC Cl.no ps_ fun p_ ps_ => qP Cl.no p_ fun cs_ => gC Cl.no cs_ fun c_ cs_ => qSl Cl.no 5 c_ fun xs1 => gC Cl.no cs_ fun c_ cs_ => qS Cl.no c_ fun v_ => vI Cl.no .i64 v_ fun a2 => gC Cl.no cs_ fun c_ cs_ => qS Cl.no c_ fun v_ => vI Cl.no .i64 v_ fun a3 => gE Cl.no cs_ <| gE Cl.no ps_ <| { α := ByteArray × (List Int) × Int × Int, o := f167 k xs1 a2 a3, w := f167.w, nat := fun x _ => f167.wn x }
def f167.e (k : Nat) : Entry env := ⟨fun ps => f167.hd k (coer [[some 5, none, none]] ps)⟩
def f167.X (k : Nat) : Ctx env := { C := lookE [(145, f145.e k)], L := lookE [], J := lookE [], keep := lookD [], keepX := lookD [], span := lookN [], eff := fun n => memN n [], prep := lookP [] }
theorem f167.nat {R : Type} (k : Nat) (g : (ByteArray × (List Int) × Int × Int) → Option R) (xs1 : List Int) (a2 : Int) (a3 : Int) : f167.step k g xs1 a2 a3 = (f167 k xs1 a2 a3).bind g := by
  simp only [f167, f167.step, bind_ite, bind_sum, Option.bind_assoc, Option.bind_some, Option.bind_none]
theorem f167.ev (k : Nat) (xs1 : List Int) (a2 : Int) (a3 : Int) : evF (f167.X k) (bodyOf Try.f167) Try.f167.ntmps Try.f167.results.toList [.v (.ptr [.sl 5 xs1, .s (.int .i64 a2), .s (.int .i64 a3)])] = f167.step k (fun x => f167.w x some) xs1 a2 a3 := by kernel_rfl
theorem f167.hok (k : Nat) : HOK (f167.X k) (bodyOf Try.f167) where
  l := allP_mem (by exact trivial)
  j := allP_mem (by exact trivial)
theorem f167.sound0 (k : Nat) : SoundC env Try.prog 167 (f167.hd k) := by
  intro ps_
  show GoodC _ _ _ ps_ (f167.hd k ps_)
  unfold f167.hd
  refine gC_ok (p := GoodC env Try.prog 167 _) goodC_no fun _ _ h => ?_
  subst h
  refine qP_ok (p := GoodC env Try.prog 167 _) goodC_no fun _ h => ?_
  subst h
  refine gC_ok (p := GoodC env Try.prog 167 _) goodC_no fun _ _ h => ?_
  subst h
  refine qSl_ok (p := GoodC env Try.prog 167 _) goodC_no fun _ h => ?_
  subst h
  refine gC_ok (p := GoodC env Try.prog 167 _) goodC_no fun _ _ h => ?_
  subst h
  refine qS_ok (p := GoodC env Try.prog 167 _) goodC_no fun _ h => ?_
  subst h
  refine vI_ok (p := GoodC env Try.prog 167 _) goodC_no fun _ h => ?_
  subst h
  refine gC_ok (p := GoodC env Try.prog 167 _) goodC_no fun _ _ h => ?_
  subst h
  refine qS_ok (p := GoodC env Try.prog 167 _) goodC_no fun _ h => ?_
  subst h
  refine vI_ok (p := GoodC env Try.prog 167 _) goodC_no fun _ h => ?_
  subst h
  refine gE_ok (p := GoodC env Try.prog 167 _) goodC_no fun h => ?_
  subst h
  refine gE_ok (p := GoodC env Try.prog 167 _) goodC_no fun h => ?_
  subst h
  exact fun_good (fun_sound envOK (cs_sound _ (by exact ⟨⟨f145.sound k, f145.fnok⟩, trivial⟩)) (f167.hok k) Try.func167 rfl) ((f167.ev k _ _ _).trans (f167.nat k _ _ _ _))
theorem f167.sound (k : Nat) : SoundC env Try.prog 167 (f167.e k).F := soundC_coer (f167.sound0 k) [[some 5, none, none]]
theorem f167.says (k : Nat) (xs1 : List Int) (a2 : Int) (a3 : Int) (t8 : ByteArray × (List Int) × Int × Int) (h_ : f167 k xs1 a2 a3 = some t8) : SoundAt env Try.prog 167 [.v (.ptr [.sl 5 xs1, .s (.int .i64 a2), .s (.int .i64 a3)])] ⟨.v (.c (.s (.string t8.1))), [[.sl 5 t8.2.1, .s (.int .i64 t8.2.2.1), .s (.int .i64 t8.2.2.2)]]⟩ :=
  fun_sound envOK (cs_sound _ (by exact ⟨⟨f145.sound k, f145.fnok⟩, trivial⟩)) (f167.hok k) Try.func167 rfl _ _ (((f167.ev k xs1 a2 a3).trans (f167.nat k _ xs1 a2 a3)).trans (by rw [h_]; rfl))
theorem f167.fnok : FnOK Try.prog 167 := fn_ok Try.func167 (by kernel_rfl) rfl
def f123.step {R : Type} (k : Nat) (ret : (Int × ByteArray × ByteArray × Int × Int × Int × Int × Bool × Bool × (List Int) × (List Int) × Int × Int) → Option R) (xs1 : List Int) (a2 : Int) (a3 : Int) : Option R :=
  (f164 k xs1 a2 a3).bind fun t4 => (f164 k t4.2.1 t4.2.2.1 t4.2.2.2).bind fun t5 => (f145 k t5.2.1 t5.2.2.1 t5.2.2.2 (4 : Int)).bind fun t6 => if (0 : Int) ≤ t6.1 then
          if t6.1 < ((List.length ([(64 : Int), (1 : Int), (0 : Int), (255 : Int)] : List Int) : Nat) : Int) then
            (f145 k t6.2.1 t6.2.2.1 t6.2.2.2 (256 : Int)).bind fun t7 => (f165 k t7.2.1 t7.2.2.1 t7.2.2.2 (40 : Int)).bind fun t8 => (f166 k t8.2.1 t8.2.2.1 t8.2.2.2 (3 : Int)).bind fun t9 => if t9.1 = true then
                    (f145 k t9.2.1 t9.2.2.1 t9.2.2.2 (1400 : Int)).bind fun t10 => if (0 : Int) ≤ t10.1 then
                        if List.length t8.1 + List.length (List.replicate (Int.toNat t10.1) (0 : Int)) ≤ maxN then
                          (f166 k t10.2.1 t10.2.2.1 t10.2.2.2 (2 : Int)).bind fun t11 => if t11.1 = true then
                              (f167 k t11.2.1 t11.2.2.1 t11.2.2.2).bind fun t12 => (f167 k t12.2.1 t12.2.2.1 t12.2.2.2).bind fun t13 => (f145 k t13.2.1 t13.2.2.1 t13.2.2.2 (65536 : Int)).bind fun t14 => (f145 k t14.2.1 t14.2.2.1 t14.2.2.2 (4 : Int)).bind fun t15 => if (decide (t15.1 = (0 : Int))) = true then
                                        ret ((4 : Int), t12.1, t13.1, (List.getD ([(64 : Int), (1 : Int), (0 : Int), (255 : Int)] : List Int) (Int.toNat t6.1) (0 : Int)), t7.1, t14.1, (0 : Int), false, true, (t8.1 ++ (List.replicate (Int.toNat t10.1) (0 : Int))), t15.2.1, t15.2.2.1, t15.2.2.2)
                                      else
                                        if (decide (t15.1 = (1 : Int))) = true then
                                          (f145 k t15.2.1 t15.2.2.1 t15.2.2.2 (20 : Int)).bind fun t16 => if (decide ((Int.tmod (((List.length (t8.1 ++ (List.replicate (Int.toNat t10.1) (0 : Int)))) : Nat) : Int) (8 : Int)) = (0 : Int))) = true then
                                              ret ((4 : Int), t12.1, t13.1, (List.getD ([(64 : Int), (1 : Int), (0 : Int), (255 : Int)] : List Int) (Int.toNat t6.1) (0 : Int)), t7.1, t14.1, t16.1, (decide ((((List.length (t8.1 ++ (List.replicate (Int.toNat t10.1) (0 : Int)))) : Nat) : Int) > (0 : Int))), false, (t8.1 ++ (List.replicate (Int.toNat t10.1) (0 : Int))), t16.2.1, t16.2.2.1, t16.2.2.2)
                                            else
                                              ret ((4 : Int), t12.1, t13.1, (List.getD ([(64 : Int), (1 : Int), (0 : Int), (255 : Int)] : List Int) (Int.toNat t6.1) (0 : Int)), t7.1, t14.1, t16.1, false, false, (t8.1 ++ (List.replicate (Int.toNat t10.1) (0 : Int))), t16.2.1, t16.2.2.1, t16.2.2.2)
                                        else
                                          ret ((4 : Int), t12.1, t13.1, (List.getD ([(64 : Int), (1 : Int), (0 : Int), (255 : Int)] : List Int) (Int.toNat t6.1) (0 : Int)), t7.1, t14.1, (0 : Int), false, false, (t8.1 ++ (List.replicate (Int.toNat t10.1) (0 : Int))), t15.2.1, t15.2.2.1, t15.2.2.2)
                            else
                              ret ((6 : Int), t4.1, t5.1, (List.getD ([(64 : Int), (1 : Int), (0 : Int), (255 : Int)] : List Int) (Int.toNat t6.1) (0 : Int)), t7.1, (0 : Int), (0 : Int), false, false, (t8.1 ++ (List.replicate (Int.toNat t10.1) (0 : Int))), t11.2.1, t11.2.2.1, t11.2.2.2)
                        else none
                      else none
                  else
                    (f166 k t9.2.1 t9.2.2.1 t9.2.2.2 (2 : Int)).bind fun t17 => if t17.1 = true then
                        (f167 k t17.2.1 t17.2.2.1 t17.2.2.2).bind fun t18 => (f167 k t18.2.1 t18.2.2.1 t18.2.2.2).bind fun t19 => (f145 k t19.2.1 t19.2.2.1 t19.2.2.2 (65536 : Int)).bind fun t20 => (f145 k t20.2.1 t20.2.2.1 t20.2.2.2 (4 : Int)).bind fun t21 => if (decide (t21.1 = (0 : Int))) = true then
                                  ret ((4 : Int), t18.1, t19.1, (List.getD ([(64 : Int), (1 : Int), (0 : Int), (255 : Int)] : List Int) (Int.toNat t6.1) (0 : Int)), t7.1, t20.1, (0 : Int), false, true, t8.1, t21.2.1, t21.2.2.1, t21.2.2.2)
                                else
                                  if (decide (t21.1 = (1 : Int))) = true then
                                    (f145 k t21.2.1 t21.2.2.1 t21.2.2.2 (20 : Int)).bind fun t22 => if (decide ((Int.tmod (((List.length t8.1) : Nat) : Int) (8 : Int)) = (0 : Int))) = true then
                                        ret ((4 : Int), t18.1, t19.1, (List.getD ([(64 : Int), (1 : Int), (0 : Int), (255 : Int)] : List Int) (Int.toNat t6.1) (0 : Int)), t7.1, t20.1, t22.1, (decide ((((List.length t8.1) : Nat) : Int) > (0 : Int))), false, t8.1, t22.2.1, t22.2.2.1, t22.2.2.2)
                                      else
                                        ret ((4 : Int), t18.1, t19.1, (List.getD ([(64 : Int), (1 : Int), (0 : Int), (255 : Int)] : List Int) (Int.toNat t6.1) (0 : Int)), t7.1, t20.1, t22.1, false, false, t8.1, t22.2.1, t22.2.2.1, t22.2.2.2)
                                  else
                                    ret ((4 : Int), t18.1, t19.1, (List.getD ([(64 : Int), (1 : Int), (0 : Int), (255 : Int)] : List Int) (Int.toNat t6.1) (0 : Int)), t7.1, t20.1, (0 : Int), false, false, t8.1, t21.2.1, t21.2.2.1, t21.2.2.2)
                      else
                        ret ((6 : Int), t4.1, t5.1, (List.getD ([(64 : Int), (1 : Int), (0 : Int), (255 : Int)] : List Int) (Int.toNat t6.1) (0 : Int)), t7.1, (0 : Int), (0 : Int), false, false, t8.1, t17.2.1, t17.2.2.1, t17.2.2.2)
          else none
        else none
def f123 (k : Nat) (xs1 : List Int) (a2 : Int) (a3 : Int) : Option (Int × ByteArray × ByteArray × Int × Int × Int × Int × Bool × Bool × (List Int) × (List Int) × Int × Int) := f123.step k some xs1 a2 a3
def f123.w {R : Type} : (Int × ByteArray × ByteArray × Int × Int × Int × Int × Bool × Bool × (List Int) × (List Int) × Int × Int) → (Res env → Option R) → Option R := fun t23 K => K ⟨.v (.g [.s (.int .i64 t23.1), .s (.string t23.2.1), .s (.string t23.2.2.1), .s (.int .i64 t23.2.2.2.1), .s (.int .i64 t23.2.2.2.2.1), .s (.int .i64 t23.2.2.2.2.2.1), .s (.int .i64 t23.2.2.2.2.2.2.1), .s (.bool t23.2.2.2.2.2.2.2.1), .s (.bool t23.2.2.2.2.2.2.2.2.1), .own true 5 t23.2.2.2.2.2.2.2.2.2.1]), [[.sl 5 t23.2.2.2.2.2.2.2.2.2.2.1, .s (.int .i64 t23.2.2.2.2.2.2.2.2.2.2.2.1), .s (.int .i64 t23.2.2.2.2.2.2.2.2.2.2.2.2)]]⟩
theorem f123.wn (x : (Int × ByteArray × ByteArray × Int × Int × Int × Int × Bool × Bool × (List Int) × (List Int) × Int × Int)) : ∃ res, ∀ {R : Type} (K : Res env → Option R), f123.w x K = K res := by
  exact ⟨_, fun _ => rfl⟩
def f123.hd (k : Nat) (ps_ : List (P2 env)) : Cl env :=
  gC Cl.no ps_ fun p_ ps_ => qP Cl.no p_ fun cs_ => gC Cl.no cs_ fun c_ cs_ => qSl Cl.no 5 c_ fun xs1 => gC Cl.no cs_ fun c_ cs_ => qS Cl.no c_ fun v_ => vI Cl.no .i64 v_ fun a2 => gC Cl.no cs_ fun c_ cs_ => qS Cl.no c_ fun v_ => vI Cl.no .i64 v_ fun a3 => gE Cl.no cs_ <| gE Cl.no ps_ <| { α := Int × ByteArray × ByteArray × Int × Int × Int × Int × Bool × Bool × (List Int) × (List Int) × Int × Int, o := f123 k xs1 a2 a3, w := f123.w, nat := fun x _ => f123.wn x }
def f123.e (k : Nat) : Entry env := ⟨fun ps => f123.hd k (coer [[some 5, none, none]] ps)⟩
def f123.X (k : Nat) : Ctx env := { C := lookE [(145, f145.e k), (164, f164.e k), (165, f165.e k), (166, f166.e k), (167, f167.e k)], L := lookE [], J := lookE [], keep := lookD [], keepX := lookD [], span := lookN [], eff := fun n => memN n [1, 3], prep := lookP [] }
theorem f123.nat {R : Type} (k : Nat) (g : (Int × ByteArray × ByteArray × Int × Int × Int × Int × Bool × Bool × (List Int) × (List Int) × Int × Int) → Option R) (xs1 : List Int) (a2 : Int) (a3 : Int) : f123.step k g xs1 a2 a3 = (f123 k xs1 a2 a3).bind g := by
  simp only [f123, f123.step, bind_ite, bind_sum, Option.bind_assoc, Option.bind_some, Option.bind_none]
theorem f123.ev (k : Nat) (xs1 : List Int) (a2 : Int) (a3 : Int) : evF (f123.X k) (bodyOf Try.f123) Try.f123.ntmps Try.f123.results.toList [.v (.ptr [.sl 5 xs1, .s (.int .i64 a2), .s (.int .i64 a3)])] = f123.step k (fun x => f123.w x some) xs1 a2 a3 := by kernel_rfl
theorem f123.hok (k : Nat) : HOK (f123.X k) (bodyOf Try.f123) where
  l := allP_mem (by exact trivial)
  j := allP_mem (by exact trivial)
theorem f123.sound0 (k : Nat) : SoundC env Try.prog 123 (f123.hd k) := by
  intro ps_
  show GoodC _ _ _ ps_ (f123.hd k ps_)
  unfold f123.hd
  refine gC_ok (p := GoodC env Try.prog 123 _) goodC_no fun _ _ h => ?_
  subst h
  refine qP_ok (p := GoodC env Try.prog 123 _) goodC_no fun _ h => ?_
  subst h
  refine gC_ok (p := GoodC env Try.prog 123 _) goodC_no fun _ _ h => ?_
  subst h
  refine qSl_ok (p := GoodC env Try.prog 123 _) goodC_no fun _ h => ?_
  subst h
  refine gC_ok (p := GoodC env Try.prog 123 _) goodC_no fun _ _ h => ?_
  subst h
  refine qS_ok (p := GoodC env Try.prog 123 _) goodC_no fun _ h => ?_
  subst h
  refine vI_ok (p := GoodC env Try.prog 123 _) goodC_no fun _ h => ?_
  subst h
  refine gC_ok (p := GoodC env Try.prog 123 _) goodC_no fun _ _ h => ?_
  subst h
  refine qS_ok (p := GoodC env Try.prog 123 _) goodC_no fun _ h => ?_
  subst h
  refine vI_ok (p := GoodC env Try.prog 123 _) goodC_no fun _ h => ?_
  subst h
  refine gE_ok (p := GoodC env Try.prog 123 _) goodC_no fun h => ?_
  subst h
  refine gE_ok (p := GoodC env Try.prog 123 _) goodC_no fun h => ?_
  subst h
  exact fun_good (fun_sound envOK (cs_sound _ (by exact ⟨⟨f145.sound k, f145.fnok⟩, ⟨f164.sound k, f164.fnok⟩, ⟨f165.sound k, f165.fnok⟩, ⟨f166.sound k, f166.fnok⟩, ⟨f167.sound k, f167.fnok⟩, trivial⟩)) (f123.hok k) Try.func123 rfl) ((f123.ev k _ _ _).trans (f123.nat k _ _ _ _))
theorem f123.sound (k : Nat) : SoundC env Try.prog 123 (f123.e k).F := soundC_coer (f123.sound0 k) [[some 5, none, none]]
theorem f123.says (k : Nat) (xs1 : List Int) (a2 : Int) (a3 : Int) (t24 : Int × ByteArray × ByteArray × Int × Int × Int × Int × Bool × Bool × (List Int) × (List Int) × Int × Int) (h_ : f123 k xs1 a2 a3 = some t24) : SoundAt env Try.prog 123 [.v (.ptr [.sl 5 xs1, .s (.int .i64 a2), .s (.int .i64 a3)])] ⟨.v (.g [.s (.int .i64 t24.1), .s (.string t24.2.1), .s (.string t24.2.2.1), .s (.int .i64 t24.2.2.2.1), .s (.int .i64 t24.2.2.2.2.1), .s (.int .i64 t24.2.2.2.2.2.1), .s (.int .i64 t24.2.2.2.2.2.2.1), .s (.bool t24.2.2.2.2.2.2.2.1), .s (.bool t24.2.2.2.2.2.2.2.2.1), .own true 5 t24.2.2.2.2.2.2.2.2.2.1]), [[.sl 5 t24.2.2.2.2.2.2.2.2.2.2.1, .s (.int .i64 t24.2.2.2.2.2.2.2.2.2.2.2.1), .s (.int .i64 t24.2.2.2.2.2.2.2.2.2.2.2.2)]]⟩ :=
  fun_sound envOK (cs_sound _ (by exact ⟨⟨f145.sound k, f145.fnok⟩, ⟨f164.sound k, f164.fnok⟩, ⟨f165.sound k, f165.fnok⟩, ⟨f166.sound k, f166.fnok⟩, ⟨f167.sound k, f167.fnok⟩, trivial⟩)) (f123.hok k) Try.func123 rfl _ _ (((f123.ev k xs1 a2 a3).trans (f123.nat k _ xs1 a2 a3)).trans (by rw [h_]; rfl))
theorem f123.fnok : FnOK Try.prog 123 := fn_ok Try.func123 (by kernel_rfl) rfl
def f144.l2.step {R : Type} (k : Nat) (rec_ : Int → (List Int) → Int → Int → Int → ByteArray → ByteArray → Int → Int → Int → Int → Bool → Bool → Option R) (ret : (((List Int) × Int × Int × Int × ByteArray × ByteArray × Int × Int × Int × Int × Bool × Bool × (List Int)) ⊕ ((List Int) × Int × Int × Int × ByteArray × ByteArray × Int × Int × Int × Int × Bool × Bool)) → Option R) (a4 : Int) (xs5 : List Int) (a6 : Int) (a7 : Int) (a8 : Int) (s9 : ByteArray) (s10 : ByteArray) (a11 : Int) (a12 : Int) (a13 : Int) (a14 : Int) (b15 : Bool) (b16 : Bool) : Option R :=
  if (decide (a4 < (8 : Int))) = true then
    (f123 k xs5 a6 a7).bind fun t17 => if (decide (t17.1 = (4 : Int))) = true then
        ret (.inl (t17.2.2.2.2.2.2.2.2.2.2.1, t17.2.2.2.2.2.2.2.2.2.2.2.1, t17.2.2.2.2.2.2.2.2.2.2.2.2, t17.1, t17.2.1, t17.2.2.1, t17.2.2.2.1, t17.2.2.2.2.1, t17.2.2.2.2.2.1, t17.2.2.2.2.2.2.1, t17.2.2.2.2.2.2.2.1, t17.2.2.2.2.2.2.2.2.1, t17.2.2.2.2.2.2.2.2.2.1))
      else
        rec_ (IntKind.i64.wrap (a4 + (1 : Int))) t17.2.2.2.2.2.2.2.2.2.2.1 t17.2.2.2.2.2.2.2.2.2.2.2.1 t17.2.2.2.2.2.2.2.2.2.2.2.2 a8 s9 s10 a11 a12 a13 a14 b15 b16
  else
    ret (.inr (xs5, a6, a7, a8, s9, s10, a11, a12, a13, a14, b15, b16))
def f144.l2 (k : Nat) : Nat → Int → (List Int) → Int → Int → Int → ByteArray → ByteArray → Int → Int → Int → Int → Bool → Bool → Option (((List Int) × Int × Int × Int × ByteArray × ByteArray × Int × Int × Int × Int × Bool × Bool × (List Int)) ⊕ ((List Int) × Int × Int × Int × ByteArray × ByteArray × Int × Int × Int × Int × Bool × Bool))
  | 0, _, _, _, _, _, _, _, _, _, _, _, _, _ => none
  | j + 1, a4, xs5, a6, a7, a8, s9, s10, a11, a12, a13, a14, b15, b16 => f144.l2.step k (fun a4 xs5 a6 a7 a8 s9 s10 a11 a12 a13 a14 b15 b16 => f144.l2 k j a4 xs5 a6 a7 a8 s9 s10 a11 a12 a13 a14 b15 b16) some a4 xs5 a6 a7 a8 s9 s10 a11 a12 a13 a14 b15 b16
def f144.l2.w {R : Type} : (((List Int) × Int × Int × Int × ByteArray × ByteArray × Int × Int × Int × Int × Bool × Bool × (List Int)) ⊕ ((List Int) × Int × Int × Int × ByteArray × ByteArray × Int × Int × Int × Int × Bool × Bool)) → (Exit → St env → Option R) → Option R := fun x K => Sum.elim (fun t20 => K .ret ⟨fullT [0, 2] 0 16 [.v (.c (.bp 0 0)), .v (.c (.bp 1 0))], [(0, .box [.imm 5 t20.1, .s (.int .i64 t20.2.1), .s (.int .i64 t20.2.2.1)]), (1, .box [.s (.int .i64 t20.2.2.2.1), .s (.string t20.2.2.2.2.1), .s (.string t20.2.2.2.2.2.1), .s (.int .i64 t20.2.2.2.2.2.2.1), .s (.int .i64 t20.2.2.2.2.2.2.2.1), .s (.int .i64 t20.2.2.2.2.2.2.2.2.1), .s (.int .i64 t20.2.2.2.2.2.2.2.2.2.1), .s (.bool t20.2.2.2.2.2.2.2.2.2.2.1), .s (.bool t20.2.2.2.2.2.2.2.2.2.2.2.1), .row 81]), (81, .row true 5 t20.2.2.2.2.2.2.2.2.2.2.2.2)], 257⟩) (fun t21 => K (.exit 0) ⟨fullT [0, 2] 0 16 [.v (.c (.bp 0 0)), .v (.c (.bp 1 0))], [(0, .box [.imm 5 t21.1, .s (.int .i64 t21.2.1), .s (.int .i64 t21.2.2.1)]), (1, .box [.s (.int .i64 t21.2.2.2.1), .s (.string t21.2.2.2.2.1), .s (.string t21.2.2.2.2.2.1), .s (.int .i64 t21.2.2.2.2.2.2.1), .s (.int .i64 t21.2.2.2.2.2.2.2.1), .s (.int .i64 t21.2.2.2.2.2.2.2.2.1), .s (.int .i64 t21.2.2.2.2.2.2.2.2.2.1), .s (.bool t21.2.2.2.2.2.2.2.2.2.2.1), .s (.bool t21.2.2.2.2.2.2.2.2.2.2.2), .s (.slice none 0 0)])], 257⟩) x
def f144.l2.st (a4 : Int) (xs5 : List Int) (a6 : Int) (a7 : Int) (a8 : Int) (s9 : ByteArray) (s10 : ByteArray) (a11 : Int) (a12 : Int) (a13 : Int) (a14 : Int) (b15 : Bool) (b16 : Bool) : St env := ⟨fullT [0, 2, 3] 0 16 [.v (.c (.bp 0 0)), .v (.c (.bp 1 0)), .v (.c (.s (.int .i64 a4)))], [(0, .box [.imm 5 xs5, .s (.int .i64 a6), .s (.int .i64 a7)]), (1, .box [.s (.int .i64 a8), .s (.string s9), .s (.string s10), .s (.int .i64 a11), .s (.int .i64 a12), .s (.int .i64 a13), .s (.int .i64 a14), .s (.bool b15), .s (.bool b16), .s (.slice none 0 0)])], 33⟩
def f144.l2.hd (k : Nat) (ts_ : List (AV env)) (mm_ : Mem env) (n_ : Nat) : LCl env :=
  gTs LCl.no [0, 2, 3] 16 ts_ fun l_ => gV LCl.no l_ fun a_ l_ => rBp LCl.no 0 0 a_ <| gV LCl.no l_ fun a_ l_ => rBp LCl.no 1 0 a_ <| gV LCl.no l_ fun a_ l_ => rV LCl.no a_ fun v_ => vI LCl.no .i64 v_ fun a4 => gE LCl.no l_ <| mBox LCl.no 0 mm_ fun c_ m_ => gC LCl.no c_ fun a_ c_ => rImm LCl.no 5 a_ fun xs5 => gC LCl.no c_ fun a_ c_ => rV LCl.no a_ fun v_ => vI LCl.no .i64 v_ fun a6 => gC LCl.no c_ fun a_ c_ => rV LCl.no a_ fun v_ => vI LCl.no .i64 v_ fun a7 => gE LCl.no c_ <| mBox LCl.no 1 m_ fun c_ m_ => gC LCl.no c_ fun a_ c_ => rV LCl.no a_ fun v_ => vI LCl.no .i64 v_ fun a8 => gC LCl.no c_ fun a_ c_ => rV LCl.no a_ fun v_ => vS LCl.no v_ fun s9 => gC LCl.no c_ fun a_ c_ => rV LCl.no a_ fun v_ => vS LCl.no v_ fun s10 => gC LCl.no c_ fun a_ c_ => rV LCl.no a_ fun v_ => vI LCl.no .i64 v_ fun a11 => gC LCl.no c_ fun a_ c_ => rV LCl.no a_ fun v_ => vI LCl.no .i64 v_ fun a12 => gC LCl.no c_ fun a_ c_ => rV LCl.no a_ fun v_ => vI LCl.no .i64 v_ fun a13 => gC LCl.no c_ fun a_ c_ => rV LCl.no a_ fun v_ => vI LCl.no .i64 v_ fun a14 => gC LCl.no c_ fun a_ c_ => rV LCl.no a_ fun v_ => vB LCl.no v_ fun b15 => gC LCl.no c_ fun a_ c_ => rV LCl.no a_ fun v_ => vB LCl.no v_ fun b16 => gC LCl.no c_ fun a_ c_ => rV LCl.no a_ fun v_ => vNil LCl.no v_ <| gE LCl.no c_ <| gE LCl.no m_ <| gN LCl.no 33 n_ { α := ((List Int) × Int × Int × Int × ByteArray × ByteArray × Int × Int × Int × Int × Bool × Bool × (List Int)) ⊕ ((List Int) × Int × Int × Int × ByteArray × ByteArray × Int × Int × Int × Int × Bool × Bool), o := f144.l2 k k a4 xs5 a6 a7 a8 s9 s10 a11 a12 a13 a14 b15 b16, w := f144.l2.w }
def f144.step {R : Type} (k : Nat) (ret : ((Int × ByteArray × ByteArray × Int × Int × Int × Int × Bool × Bool × (List Int) × (List Int) × Int × Int) ⊕ (Int × ByteArray × ByteArray × Int × Int × Int × Int × Bool × Bool × (List Int) × Int × Int)) → Option R) (xs1 : List Int) (a2 : Int) (a3 : Int) : Option R :=
  (f144.l2 k k (0 : Int) xs1 a2 a3 (0 : Int) ByteArray.empty ByteArray.empty (0 : Int) (0 : Int) (0 : Int) (0 : Int) false false).bind (Sum.elim (fun t18 => ret (.inl (t18.2.2.2.1, t18.2.2.2.2.1, t18.2.2.2.2.2.1, t18.2.2.2.2.2.2.1, t18.2.2.2.2.2.2.2.1, t18.2.2.2.2.2.2.2.2.1, t18.2.2.2.2.2.2.2.2.2.1, t18.2.2.2.2.2.2.2.2.2.2.1, t18.2.2.2.2.2.2.2.2.2.2.2.1, t18.2.2.2.2.2.2.2.2.2.2.2.2, t18.1, t18.2.1, t18.2.2.1))) (fun t19 => ret (.inr ((4 : Int), (⟨#[97, 97, 97, 97]⟩ : ByteArray), (⟨#[98, 98, 98, 98]⟩ : ByteArray), (0 : Int), (0 : Int), (0 : Int), (0 : Int), false, false, t19.1, t19.2.1, t19.2.2.1))))
def f144 (k : Nat) (xs1 : List Int) (a2 : Int) (a3 : Int) : Option ((Int × ByteArray × ByteArray × Int × Int × Int × Int × Bool × Bool × (List Int) × (List Int) × Int × Int) ⊕ (Int × ByteArray × ByteArray × Int × Int × Int × Int × Bool × Bool × (List Int) × Int × Int)) := f144.step k some xs1 a2 a3
def f144.w {R : Type} : ((Int × ByteArray × ByteArray × Int × Int × Int × Int × Bool × Bool × (List Int) × (List Int) × Int × Int) ⊕ (Int × ByteArray × ByteArray × Int × Int × Int × Int × Bool × Bool × (List Int) × Int × Int)) → (Res env → Option R) → Option R := fun x K => Sum.elim (fun t22 => K ⟨.v (.g [.s (.int .i64 t22.1), .s (.string t22.2.1), .s (.string t22.2.2.1), .s (.int .i64 t22.2.2.2.1), .s (.int .i64 t22.2.2.2.2.1), .s (.int .i64 t22.2.2.2.2.2.1), .s (.int .i64 t22.2.2.2.2.2.2.1), .s (.bool t22.2.2.2.2.2.2.2.1), .s (.bool t22.2.2.2.2.2.2.2.2.1), .own true 5 t22.2.2.2.2.2.2.2.2.2.1]), [[.sl 5 t22.2.2.2.2.2.2.2.2.2.2.1, .s (.int .i64 t22.2.2.2.2.2.2.2.2.2.2.2.1), .s (.int .i64 t22.2.2.2.2.2.2.2.2.2.2.2.2)]]⟩) (fun t23 => K ⟨.v (.g [.s (.int .i64 t23.1), .s (.string t23.2.1), .s (.string t23.2.2.1), .s (.int .i64 t23.2.2.2.1), .s (.int .i64 t23.2.2.2.2.1), .s (.int .i64 t23.2.2.2.2.2.1), .s (.int .i64 t23.2.2.2.2.2.2.1), .s (.bool t23.2.2.2.2.2.2.2.1), .s (.bool t23.2.2.2.2.2.2.2.2.1), .s (.slice none 0 0)]), [[.sl 5 t23.2.2.2.2.2.2.2.2.2.1, .s (.int .i64 t23.2.2.2.2.2.2.2.2.2.2.1), .s (.int .i64 t23.2.2.2.2.2.2.2.2.2.2.2)]]⟩) x
theorem f144.wn (x : ((Int × ByteArray × ByteArray × Int × Int × Int × Int × Bool × Bool × (List Int) × (List Int) × Int × Int) ⊕ (Int × ByteArray × ByteArray × Int × Int × Int × Int × Bool × Bool × (List Int) × Int × Int))) : ∃ res, ∀ {R : Type} (K : Res env → Option R), f144.w x K = K res := by
  rcases x with x | x <;> exact ⟨_, fun _ => rfl⟩
def f144.hd (k : Nat) (ps_ : List (P2 env)) : Cl env :=
  gC Cl.no ps_ fun p_ ps_ => qP Cl.no p_ fun cs_ => gC Cl.no cs_ fun c_ cs_ => qSl Cl.no 5 c_ fun xs1 => gC Cl.no cs_ fun c_ cs_ => qS Cl.no c_ fun v_ => vI Cl.no .i64 v_ fun a2 => gC Cl.no cs_ fun c_ cs_ => qS Cl.no c_ fun v_ => vI Cl.no .i64 v_ fun a3 => gE Cl.no cs_ <| gE Cl.no ps_ <| { α := (Int × ByteArray × ByteArray × Int × Int × Int × Int × Bool × Bool × (List Int) × (List Int) × Int × Int) ⊕ (Int × ByteArray × ByteArray × Int × Int × Int × Int × Bool × Bool × (List Int) × Int × Int), o := f144 k xs1 a2 a3, w := f144.w, nat := fun x _ => f144.wn x }
def f144.e (k : Nat) : Entry env := ⟨fun ps => f144.hd k (coer [[some 5, none, none]] ps)⟩
def f144.X (k : Nat) : Ctx env := { C := lookE [(123, f123.e k)], L := lookE [(2, fun S => f144.l2.hd k S.ts S.m S.n)], J := lookE [], keep := lookD [(2, [0, 2, 3])], keepX := lookD [(2, [0, 2])], span := lookN [(2, 224)], eff := fun n => memN n [], prep := lookP [] }
theorem f144.l2.nat {R : Type} (k : Nat) (rec_ : Int → (List Int) → Int → Int → Int → ByteArray → ByteArray → Int → Int → Int → Int → Bool → Bool → Option (((List Int) × Int × Int × Int × ByteArray × ByteArray × Int × Int × Int × Int × Bool × Bool × (List Int)) ⊕ ((List Int) × Int × Int × Int × ByteArray × ByteArray × Int × Int × Int × Int × Bool × Bool))) (g : (((List Int) × Int × Int × Int × ByteArray × ByteArray × Int × Int × Int × Int × Bool × Bool × (List Int)) ⊕ ((List Int) × Int × Int × Int × ByteArray × ByteArray × Int × Int × Int × Int × Bool × Bool)) → Option R) (a4 : Int) (xs5 : List Int) (a6 : Int) (a7 : Int) (a8 : Int) (s9 : ByteArray) (s10 : ByteArray) (a11 : Int) (a12 : Int) (a13 : Int) (a14 : Int) (b15 : Bool) (b16 : Bool) : (f144.l2.step k rec_ some a4 xs5 a6 a7 a8 s9 s10 a11 a12 a13 a14 b15 b16).bind g = f144.l2.step k (fun a4 xs5 a6 a7 a8 s9 s10 a11 a12 a13 a14 b15 b16 => (rec_ a4 xs5 a6 a7 a8 s9 s10 a11 a12 a13 a14 b15 b16).bind g) g a4 xs5 a6 a7 a8 s9 s10 a11 a12 a13 a14 b15 b16 := by
  simp only [f144.l2.step, bind_ite, bind_sum, Option.bind_assoc, Option.bind_some, Option.bind_none]
theorem f144.l2.good (k : Nat) (a4 : Int) (xs5 : List Int) (a6 : Int) (a7 : Int) (a8 : Int) (s9 : ByteArray) (s10 : ByteArray) (a11 : Int) (a12 : Int) (a13 : Int) (a14 : Int) (b15 : Bool) (b16 : Bool) : GoodL (f144.X k) (nthC 0 (loopsOf (bodyOf Try.f144))) (f144.l2.st a4 xs5 a6 a7 a8 s9 s10 a11 a12 a13 a14 b15 b16) { α := (((List Int) × Int × Int × Int × ByteArray × ByteArray × Int × Int × Int × Int × Bool × Bool × (List Int)) ⊕ ((List Int) × Int × Int × Int × ByteArray × ByteArray × Int × Int × Int × Int × Bool × Bool)), o := f144.l2 k k a4 xs5 a6 a7 a8 s9 s10 a11 a12 a13 a14 b15 b16, w := f144.l2.w } :=
  loop_good (ι := Int × (List Int) × Int × Int × Int × ByteArray × ByteArray × Int × Int × Int × Int × Bool × Bool) (α := (((List Int) × Int × Int × Int × ByteArray × ByteArray × Int × Int × Int × Int × Bool × Bool × (List Int)) ⊕ ((List Int) × Int × Int × Int × ByteArray × ByteArray × Int × Int × Int × Int × Bool × Bool))) (fun i => f144.l2.st i.1 i.2.1 i.2.2.1 i.2.2.2.1 i.2.2.2.2.1 i.2.2.2.2.2.1 i.2.2.2.2.2.2.1 i.2.2.2.2.2.2.2.1 i.2.2.2.2.2.2.2.2.1 i.2.2.2.2.2.2.2.2.2.1 i.2.2.2.2.2.2.2.2.2.2.1 i.2.2.2.2.2.2.2.2.2.2.2.1 i.2.2.2.2.2.2.2.2.2.2.2.2) (fun j i => f144.l2 k j i.1 i.2.1 i.2.2.1 i.2.2.2.1 i.2.2.2.2.1 i.2.2.2.2.2.1 i.2.2.2.2.2.2.1 i.2.2.2.2.2.2.2.1 i.2.2.2.2.2.2.2.2.1 i.2.2.2.2.2.2.2.2.2.1 i.2.2.2.2.2.2.2.2.2.2.1 i.2.2.2.2.2.2.2.2.2.2.2.1 i.2.2.2.2.2.2.2.2.2.2.2.2) f144.l2.w (fun rec_ ret i => f144.l2.step k (fun a4 xs5 a6 a7 a8 s9 s10 a11 a12 a13 a14 b15 b16 => rec_ (a4, xs5, a6, a7, a8, s9, s10, a11, a12, a13, a14, b15, b16)) ret i.1 i.2.1 i.2.2.1 i.2.2.2.1 i.2.2.2.2.1 i.2.2.2.2.2.1 i.2.2.2.2.2.2.1 i.2.2.2.2.2.2.2.1 i.2.2.2.2.2.2.2.2.1 i.2.2.2.2.2.2.2.2.2.1 i.2.2.2.2.2.2.2.2.2.2.1 i.2.2.2.2.2.2.2.2.2.2.2.1 i.2.2.2.2.2.2.2.2.2.2.2.2)
    (fun _ => rfl) (fun _ _ => rfl) (fun rec_ g i => f144.l2.nat k _ g i.1 i.2.1 i.2.2.1 i.2.2.2.1 i.2.2.2.2.1 i.2.2.2.2.2.1 i.2.2.2.2.2.2.1 i.2.2.2.2.2.2.2.1 i.2.2.2.2.2.2.2.2.1 i.2.2.2.2.2.2.2.2.2.1 i.2.2.2.2.2.2.2.2.2.2.1 i.2.2.2.2.2.2.2.2.2.2.2.1 i.2.2.2.2.2.2.2.2.2.2.2.2) (fun {R} i0 i rec_ K => by kernel_rfl) k (a4, xs5, a6, a7, a8, s9, s10, a11, a12, a13, a14, b15, b16)
theorem f144.l2.all (k : Nat) (S : St env) : GoodL (f144.X k) (nthC 0 (loopsOf (bodyOf Try.f144))) S (f144.l2.hd k S.ts S.m S.n) := by
  obtain ⟨ts_, m_, n_⟩ := S
  show GoodL _ _ _ (f144.l2.hd k ts_ m_ n_)
  unfold f144.l2.hd
  refine gTs_ok (p := GoodL _ _ _) goodL_no fun _ h => ?_
  subst h
  refine gV_ok (p := GoodL _ _ _) goodL_no fun _ _ h => ?_
  subst h
  refine rBp_ok (p := GoodL _ _ _) goodL_no fun h => ?_
  subst h
  refine gV_ok (p := GoodL _ _ _) goodL_no fun _ _ h => ?_
  subst h
  refine rBp_ok (p := GoodL _ _ _) goodL_no fun h => ?_
  subst h
  refine gV_ok (p := GoodL _ _ _) goodL_no fun _ _ h => ?_
  subst h
  refine rV_ok (p := GoodL _ _ _) goodL_no fun _ h => ?_
  subst h
  refine vI_ok (p := GoodL _ _ _) goodL_no fun _ h => ?_
  subst h
  refine gE_ok (p := GoodL _ _ _) goodL_no fun h => ?_
  subst h
  refine mBox_ok (p := GoodL _ _ _) goodL_no fun _ _ h => ?_
  subst h
  refine gC_ok (p := GoodL _ _ _) goodL_no fun _ _ h => ?_
  subst h
  refine rImm_ok (p := GoodL _ _ _) goodL_no fun _ h => ?_
  subst h
  refine gC_ok (p := GoodL _ _ _) goodL_no fun _ _ h => ?_
  subst h
  refine rV_ok (p := GoodL _ _ _) goodL_no fun _ h => ?_
  subst h
  refine vI_ok (p := GoodL _ _ _) goodL_no fun _ h => ?_
  subst h
  refine gC_ok (p := GoodL _ _ _) goodL_no fun _ _ h => ?_
  subst h
  refine rV_ok (p := GoodL _ _ _) goodL_no fun _ h => ?_
  subst h
  refine vI_ok (p := GoodL _ _ _) goodL_no fun _ h => ?_
  subst h
  refine gE_ok (p := GoodL _ _ _) goodL_no fun h => ?_
  subst h
  refine mBox_ok (p := GoodL _ _ _) goodL_no fun _ _ h => ?_
  subst h
  refine gC_ok (p := GoodL _ _ _) goodL_no fun _ _ h => ?_
  subst h
  refine rV_ok (p := GoodL _ _ _) goodL_no fun _ h => ?_
  subst h
  refine vI_ok (p := GoodL _ _ _) goodL_no fun _ h => ?_
  subst h
  refine gC_ok (p := GoodL _ _ _) goodL_no fun _ _ h => ?_
  subst h
  refine rV_ok (p := GoodL _ _ _) goodL_no fun _ h => ?_
  subst h
  refine vS_ok (p := GoodL _ _ _) goodL_no fun _ h => ?_
  subst h
  refine gC_ok (p := GoodL _ _ _) goodL_no fun _ _ h => ?_
  subst h
  refine rV_ok (p := GoodL _ _ _) goodL_no fun _ h => ?_
  subst h
  refine vS_ok (p := GoodL _ _ _) goodL_no fun _ h => ?_
  subst h
  refine gC_ok (p := GoodL _ _ _) goodL_no fun _ _ h => ?_
  subst h
  refine rV_ok (p := GoodL _ _ _) goodL_no fun _ h => ?_
  subst h
  refine vI_ok (p := GoodL _ _ _) goodL_no fun _ h => ?_
  subst h
  refine gC_ok (p := GoodL _ _ _) goodL_no fun _ _ h => ?_
  subst h
  refine rV_ok (p := GoodL _ _ _) goodL_no fun _ h => ?_
  subst h
  refine vI_ok (p := GoodL _ _ _) goodL_no fun _ h => ?_
  subst h
  refine gC_ok (p := GoodL _ _ _) goodL_no fun _ _ h => ?_
  subst h
  refine rV_ok (p := GoodL _ _ _) goodL_no fun _ h => ?_
  subst h
  refine vI_ok (p := GoodL _ _ _) goodL_no fun _ h => ?_
  subst h
  refine gC_ok (p := GoodL _ _ _) goodL_no fun _ _ h => ?_
  subst h
  refine rV_ok (p := GoodL _ _ _) goodL_no fun _ h => ?_
  subst h
  refine vI_ok (p := GoodL _ _ _) goodL_no fun _ h => ?_
  subst h
  refine gC_ok (p := GoodL _ _ _) goodL_no fun _ _ h => ?_
  subst h
  refine rV_ok (p := GoodL _ _ _) goodL_no fun _ h => ?_
  subst h
  refine vB_ok (p := GoodL _ _ _) goodL_no fun _ h => ?_
  subst h
  refine gC_ok (p := GoodL _ _ _) goodL_no fun _ _ h => ?_
  subst h
  refine rV_ok (p := GoodL _ _ _) goodL_no fun _ h => ?_
  subst h
  refine vB_ok (p := GoodL _ _ _) goodL_no fun _ h => ?_
  subst h
  refine gC_ok (p := GoodL _ _ _) goodL_no fun _ _ h => ?_
  subst h
  refine rV_ok (p := GoodL _ _ _) goodL_no fun _ h => ?_
  subst h
  refine vNil_ok (p := GoodL _ _ _) goodL_no fun h => ?_
  subst h
  refine gE_ok (p := GoodL _ _ _) goodL_no fun h => ?_
  subst h
  refine gE_ok (p := GoodL _ _ _) goodL_no fun h => ?_
  subst h
  refine gN_ok (p := GoodL _ _ _) goodL_no fun h => ?_
  subst h
  exact f144.l2.good k _ _ _ _ _ _ _ _ _ _ _ _ _
theorem f144.nat {R : Type} (k : Nat) (g : ((Int × ByteArray × ByteArray × Int × Int × Int × Int × Bool × Bool × (List Int) × (List Int) × Int × Int) ⊕ (Int × ByteArray × ByteArray × Int × Int × Int × Int × Bool × Bool × (List Int) × Int × Int)) → Option R) (xs1 : List Int) (a2 : Int) (a3 : Int) : f144.step k g xs1 a2 a3 = (f144 k xs1 a2 a3).bind g := by
  simp only [f144, f144.step, bind_ite, bind_sum, Option.bind_assoc, Option.bind_some, Option.bind_none]
theorem f144.ev (k : Nat) (xs1 : List Int) (a2 : Int) (a3 : Int) : evF (f144.X k) (bodyOf Try.f144) Try.f144.ntmps Try.f144.results.toList [.v (.ptr [.sl 5 xs1, .s (.int .i64 a2), .s (.int .i64 a3)])] = f144.step k (fun x => f144.w x some) xs1 a2 a3 := by kernel_rfl
theorem f144.hok (k : Nat) : HOK (f144.X k) (bodyOf Try.f144) where
  l := allP_mem (by exact ⟨ls_of (h0 := fun S => f144.l2.hd k S.ts S.m S.n) (by kernel_rfl) (f144.l2.all k), trivial⟩)
  j := allP_mem (by exact trivial)
theorem f144.sound0 (k : Nat) : SoundC env Try.prog 144 (f144.hd k) := by
  intro ps_
  show GoodC _ _ _ ps_ (f144.hd k ps_)
  unfold f144.hd
  refine gC_ok (p := GoodC env Try.prog 144 _) goodC_no fun _ _ h => ?_
  subst h
  refine qP_ok (p := GoodC env Try.prog 144 _) goodC_no fun _ h => ?_
  subst h
  refine gC_ok (p := GoodC env Try.prog 144 _) goodC_no fun _ _ h => ?_
  subst h
  refine qSl_ok (p := GoodC env Try.prog 144 _) goodC_no fun _ h => ?_
  subst h
  refine gC_ok (p := GoodC env Try.prog 144 _) goodC_no fun _ _ h => ?_
  subst h
  refine qS_ok (p := GoodC env Try.prog 144 _) goodC_no fun _ h => ?_
  subst h
  refine vI_ok (p := GoodC env Try.prog 144 _) goodC_no fun _ h => ?_
  subst h
  refine gC_ok (p := GoodC env Try.prog 144 _) goodC_no fun _ _ h => ?_
  subst h
  refine qS_ok (p := GoodC env Try.prog 144 _) goodC_no fun _ h => ?_
  subst h
  refine vI_ok (p := GoodC env Try.prog 144 _) goodC_no fun _ h => ?_
  subst h
  refine gE_ok (p := GoodC env Try.prog 144 _) goodC_no fun h => ?_
  subst h
  refine gE_ok (p := GoodC env Try.prog 144 _) goodC_no fun h => ?_
  subst h
  exact fun_good (fun_sound envOK (cs_sound _ (by exact ⟨⟨f123.sound k, f123.fnok⟩, trivial⟩)) (f144.hok k) Try.func144 rfl) ((f144.ev k _ _ _).trans (f144.nat k _ _ _ _))
theorem f144.sound (k : Nat) : SoundC env Try.prog 144 (f144.e k).F := soundC_coer (f144.sound0 k) [[some 5, none, none]]
theorem f144.fnok : FnOK Try.prog 144 := fn_ok Try.func144 (by kernel_rfl) rfl
def f82.step {R : Type} (k : Nat) (ret : ((Int × ByteArray × ByteArray × Int × Int × Int × Int × Bool × Bool × (List Int) × (List Int) × Int × Int) ⊕ (Int × ByteArray × ByteArray × Int × Int × Int × Int × Bool × Bool × (List Int) × Int × Int)) → Option R) (xs1 : List Int) (a2 : Int) (a3 : Int) : Option R :=
  (f144 k xs1 a2 a3).bind (Sum.elim (fun t4 => (f145 k t4.2.2.2.2.2.2.2.2.2.2.1 t4.2.2.2.2.2.2.2.2.2.2.2.1 t4.2.2.2.2.2.2.2.2.2.2.2.2 (4 : Int)).bind fun t5 => ret (.inl (t4.1, (⟨#[10, 0, 0, 1]⟩ : ByteArray), (⟨#[10, 0, 0, 2]⟩ : ByteArray), t4.2.2.2.1, t4.2.2.2.2.1, t5.1, (0 : Int), false, false, t4.2.2.2.2.2.2.2.2.2.1, t5.2.1, t5.2.2.1, t5.2.2.2))) (fun t6 => (f145 k t6.2.2.2.2.2.2.2.2.2.1 t6.2.2.2.2.2.2.2.2.2.2.1 t6.2.2.2.2.2.2.2.2.2.2.2 (4 : Int)).bind fun t7 => ret (.inr (t6.1, (⟨#[10, 0, 0, 1]⟩ : ByteArray), (⟨#[10, 0, 0, 2]⟩ : ByteArray), t6.2.2.2.1, t6.2.2.2.2.1, t7.1, (0 : Int), false, false, t7.2.1, t7.2.2.1, t7.2.2.2))))
def f82 (k : Nat) (xs1 : List Int) (a2 : Int) (a3 : Int) : Option ((Int × ByteArray × ByteArray × Int × Int × Int × Int × Bool × Bool × (List Int) × (List Int) × Int × Int) ⊕ (Int × ByteArray × ByteArray × Int × Int × Int × Int × Bool × Bool × (List Int) × Int × Int)) := f82.step k some xs1 a2 a3
def f82.w {R : Type} : ((Int × ByteArray × ByteArray × Int × Int × Int × Int × Bool × Bool × (List Int) × (List Int) × Int × Int) ⊕ (Int × ByteArray × ByteArray × Int × Int × Int × Int × Bool × Bool × (List Int) × Int × Int)) → (Res env → Option R) → Option R := fun x K => Sum.elim (fun t8 => K ⟨.v (.g [.s (.int .i64 t8.1), .s (.string t8.2.1), .s (.string t8.2.2.1), .s (.int .i64 t8.2.2.2.1), .s (.int .i64 t8.2.2.2.2.1), .s (.int .i64 t8.2.2.2.2.2.1), .s (.int .i64 t8.2.2.2.2.2.2.1), .s (.bool t8.2.2.2.2.2.2.2.1), .s (.bool t8.2.2.2.2.2.2.2.2.1), .own true 5 t8.2.2.2.2.2.2.2.2.2.1]), [[.sl 5 t8.2.2.2.2.2.2.2.2.2.2.1, .s (.int .i64 t8.2.2.2.2.2.2.2.2.2.2.2.1), .s (.int .i64 t8.2.2.2.2.2.2.2.2.2.2.2.2)]]⟩) (fun t9 => K ⟨.v (.g [.s (.int .i64 t9.1), .s (.string t9.2.1), .s (.string t9.2.2.1), .s (.int .i64 t9.2.2.2.1), .s (.int .i64 t9.2.2.2.2.1), .s (.int .i64 t9.2.2.2.2.2.1), .s (.int .i64 t9.2.2.2.2.2.2.1), .s (.bool t9.2.2.2.2.2.2.2.1), .s (.bool t9.2.2.2.2.2.2.2.2.1), .s (.slice none 0 0)]), [[.sl 5 t9.2.2.2.2.2.2.2.2.2.1, .s (.int .i64 t9.2.2.2.2.2.2.2.2.2.2.1), .s (.int .i64 t9.2.2.2.2.2.2.2.2.2.2.2)]]⟩) x
theorem f82.wn (x : ((Int × ByteArray × ByteArray × Int × Int × Int × Int × Bool × Bool × (List Int) × (List Int) × Int × Int) ⊕ (Int × ByteArray × ByteArray × Int × Int × Int × Int × Bool × Bool × (List Int) × Int × Int))) : ∃ res, ∀ {R : Type} (K : Res env → Option R), f82.w x K = K res := by
  rcases x with x | x <;> exact ⟨_, fun _ => rfl⟩
def f82.hd (k : Nat) (ps_ : List (P2 env)) : Cl env :=
  gC Cl.no ps_ fun p_ ps_ => qP Cl.no p_ fun cs_ => gC Cl.no cs_ fun c_ cs_ => qSl Cl.no 5 c_ fun xs1 => gC Cl.no cs_ fun c_ cs_ => qS Cl.no c_ fun v_ => vI Cl.no .i64 v_ fun a2 => gC Cl.no cs_ fun c_ cs_ => qS Cl.no c_ fun v_ => vI Cl.no .i64 v_ fun a3 => gE Cl.no cs_ <| gE Cl.no ps_ <| { α := (Int × ByteArray × ByteArray × Int × Int × Int × Int × Bool × Bool × (List Int) × (List Int) × Int × Int) ⊕ (Int × ByteArray × ByteArray × Int × Int × Int × Int × Bool × Bool × (List Int) × Int × Int), o := f82 k xs1 a2 a3, w := f82.w, nat := fun x _ => f82.wn x }
def f82.e (k : Nat) : Entry env := ⟨fun ps => f82.hd k (coer [[some 5, none, none]] ps)⟩
def f82.X (k : Nat) : Ctx env := { C := lookE [(144, f144.e k), (145, f145.e k)], L := lookE [], J := lookE [], keep := lookD [], keepX := lookD [], span := lookN [], eff := fun n => memN n [], prep := lookP [] }
theorem f82.nat {R : Type} (k : Nat) (g : ((Int × ByteArray × ByteArray × Int × Int × Int × Int × Bool × Bool × (List Int) × (List Int) × Int × Int) ⊕ (Int × ByteArray × ByteArray × Int × Int × Int × Int × Bool × Bool × (List Int) × Int × Int)) → Option R) (xs1 : List Int) (a2 : Int) (a3 : Int) : f82.step k g xs1 a2 a3 = (f82 k xs1 a2 a3).bind g := by
  simp only [f82, f82.step, bind_ite, bind_sum, Option.bind_assoc, Option.bind_some, Option.bind_none]
theorem f82.ev (k : Nat) (xs1 : List Int) (a2 : Int) (a3 : Int) : evF (f82.X k) (bodyOf Try.f82) Try.f82.ntmps Try.f82.results.toList [.v (.ptr [.sl 5 xs1, .s (.int .i64 a2), .s (.int .i64 a3)])] = f82.step k (fun x => f82.w x some) xs1 a2 a3 := by kernel_rfl
theorem f82.hok (k : Nat) : HOK (f82.X k) (bodyOf Try.f82) where
  l := allP_mem (by exact trivial)
  j := allP_mem (by exact trivial)
theorem f82.sound0 (k : Nat) : SoundC env Try.prog 82 (f82.hd k) := by
  intro ps_
  show GoodC _ _ _ ps_ (f82.hd k ps_)
  unfold f82.hd
  refine gC_ok (p := GoodC env Try.prog 82 _) goodC_no fun _ _ h => ?_
  subst h
  refine qP_ok (p := GoodC env Try.prog 82 _) goodC_no fun _ h => ?_
  subst h
  refine gC_ok (p := GoodC env Try.prog 82 _) goodC_no fun _ _ h => ?_
  subst h
  refine qSl_ok (p := GoodC env Try.prog 82 _) goodC_no fun _ h => ?_
  subst h
  refine gC_ok (p := GoodC env Try.prog 82 _) goodC_no fun _ _ h => ?_
  subst h
  refine qS_ok (p := GoodC env Try.prog 82 _) goodC_no fun _ h => ?_
  subst h
  refine vI_ok (p := GoodC env Try.prog 82 _) goodC_no fun _ h => ?_
  subst h
  refine gC_ok (p := GoodC env Try.prog 82 _) goodC_no fun _ _ h => ?_
  subst h
  refine qS_ok (p := GoodC env Try.prog 82 _) goodC_no fun _ h => ?_
  subst h
  refine vI_ok (p := GoodC env Try.prog 82 _) goodC_no fun _ h => ?_
  subst h
  refine gE_ok (p := GoodC env Try.prog 82 _) goodC_no fun h => ?_
  subst h
  refine gE_ok (p := GoodC env Try.prog 82 _) goodC_no fun h => ?_
  subst h
  exact fun_good (fun_sound envOK (cs_sound _ (by exact ⟨⟨f144.sound k, f144.fnok⟩, ⟨f145.sound k, f145.fnok⟩, trivial⟩)) (f82.hok k) Try.func82 rfl) ((f82.ev k _ _ _).trans (f82.nat k _ _ _ _))
theorem f82.sound (k : Nat) : SoundC env Try.prog 82 (f82.e k).F := soundC_coer (f82.sound0 k) [[some 5, none, none]]
theorem f82.fnok : FnOK Try.prog 82 := fn_ok Try.func82 (by kernel_rfl) rfl
def f15.step {R : Type} (k : Nat) (ret : ((Int × ByteArray × ByteArray × Int × Int × Int × Int × Bool × Bool × (List Int)) ⊕ (Int × ByteArray × ByteArray × Int × Int × Int × Int × Bool × Bool)) → Option R) (xs1 : List Int) : Option R :=
  (f81 k xs1).bind fun t2 => (f82 k t2.1 t2.2.1 t2.2.2).bind (Sum.elim (fun t3 => ret (.inl (t3.1, t3.2.1, t3.2.2.1, t3.2.2.2.1, t3.2.2.2.2.1, t3.2.2.2.2.2.1, t3.2.2.2.2.2.2.1, t3.2.2.2.2.2.2.2.1, t3.2.2.2.2.2.2.2.2.1, t3.2.2.2.2.2.2.2.2.2.1))) (fun t4 => ret (.inr (t4.1, t4.2.1, t4.2.2.1, t4.2.2.2.1, t4.2.2.2.2.1, t4.2.2.2.2.2.1, t4.2.2.2.2.2.2.1, t4.2.2.2.2.2.2.2.1, t4.2.2.2.2.2.2.2.2.1))))
def f15 (k : Nat) (xs1 : List Int) : Option ((Int × ByteArray × ByteArray × Int × Int × Int × Int × Bool × Bool × (List Int)) ⊕ (Int × ByteArray × ByteArray × Int × Int × Int × Int × Bool × Bool)) := f15.step k some xs1
def f15.w {R : Type} : ((Int × ByteArray × ByteArray × Int × Int × Int × Int × Bool × Bool × (List Int)) ⊕ (Int × ByteArray × ByteArray × Int × Int × Int × Int × Bool × Bool)) → (Res env → Option R) → Option R := fun x K => Sum.elim (fun t5 => K ⟨.v (.g [.s (.int .i64 t5.1), .s (.string t5.2.1), .s (.string t5.2.2.1), .s (.int .i64 t5.2.2.2.1), .s (.int .i64 t5.2.2.2.2.1), .s (.int .i64 t5.2.2.2.2.2.1), .s (.int .i64 t5.2.2.2.2.2.2.1), .s (.bool t5.2.2.2.2.2.2.2.1), .s (.bool t5.2.2.2.2.2.2.2.2.1), .own true 5 t5.2.2.2.2.2.2.2.2.2]), [[]]⟩) (fun t6 => K ⟨.v (.g [.s (.int .i64 t6.1), .s (.string t6.2.1), .s (.string t6.2.2.1), .s (.int .i64 t6.2.2.2.1), .s (.int .i64 t6.2.2.2.2.1), .s (.int .i64 t6.2.2.2.2.2.1), .s (.int .i64 t6.2.2.2.2.2.2.1), .s (.bool t6.2.2.2.2.2.2.2.1), .s (.bool t6.2.2.2.2.2.2.2.2), .s (.slice none 0 0)]), [[]]⟩) x
theorem f15.wn (x : ((Int × ByteArray × ByteArray × Int × Int × Int × Int × Bool × Bool × (List Int)) ⊕ (Int × ByteArray × ByteArray × Int × Int × Int × Int × Bool × Bool))) : ∃ res, ∀ {R : Type} (K : Res env → Option R), f15.w x K = K res := by
  rcases x with x | x <;> exact ⟨_, fun _ => rfl⟩
def f15.hd (k : Nat) (ps_ : List (P2 env)) : Cl env :=
  gC Cl.no ps_ fun p_ ps_ => qC Cl.no p_ fun c_ => qSl Cl.no 5 c_ fun xs1 => gE Cl.no ps_ <| { α := (Int × ByteArray × ByteArray × Int × Int × Int × Int × Bool × Bool × (List Int)) ⊕ (Int × ByteArray × ByteArray × Int × Int × Int × Int × Bool × Bool), o := f15 k xs1, w := f15.w, nat := fun x _ => f15.wn x }
def f15.e (k : Nat) : Entry env := ⟨fun ps => f15.hd k (coer [[some 5]] ps)⟩
def f15.X (k : Nat) : Ctx env := { C := lookE [(81, f81.e k), (82, f82.e k)], L := lookE [], J := lookE [], keep := lookD [], keepX := lookD [], span := lookN [], eff := fun n => memN n [], prep := lookP [] }
theorem f15.nat {R : Type} (k : Nat) (g : ((Int × ByteArray × ByteArray × Int × Int × Int × Int × Bool × Bool × (List Int)) ⊕ (Int × ByteArray × ByteArray × Int × Int × Int × Int × Bool × Bool)) → Option R) (xs1 : List Int) : f15.step k g xs1 = (f15 k xs1).bind g := by
  simp only [f15, f15.step, bind_ite, bind_sum, Option.bind_assoc, Option.bind_some, Option.bind_none]
theorem f15.ev (k : Nat) (xs1 : List Int) : evF (f15.X k) (bodyOf Try.f15) Try.f15.ntmps Try.f15.results.toList [.v (.c (.sl 5 xs1))] = f15.step k (fun x => f15.w x some) xs1 := by kernel_rfl
theorem f15.hok (k : Nat) : HOK (f15.X k) (bodyOf Try.f15) where
  l := allP_mem (by exact trivial)
  j := allP_mem (by exact trivial)
theorem f15.sound0 (k : Nat) : SoundC env Try.prog 15 (f15.hd k) := by
  intro ps_
  show GoodC _ _ _ ps_ (f15.hd k ps_)
  unfold f15.hd
  refine gC_ok (p := GoodC env Try.prog 15 _) goodC_no fun _ _ h => ?_
  subst h
  refine qC_ok (p := GoodC env Try.prog 15 _) goodC_no fun _ h => ?_
  subst h
  refine qSl_ok (p := GoodC env Try.prog 15 _) goodC_no fun _ h => ?_
  subst h
  refine gE_ok (p := GoodC env Try.prog 15 _) goodC_no fun h => ?_
  subst h
  exact fun_good (fun_sound envOK (cs_sound _ (by exact ⟨⟨f81.sound k, f81.fnok⟩, ⟨f82.sound k, f82.fnok⟩, trivial⟩)) (f15.hok k) Try.func15 rfl) ((f15.ev k _).trans (f15.nat k _ _))
theorem f15.sound (k : Nat) : SoundC env Try.prog 15 (f15.e k).F := soundC_coer (f15.sound0 k) [[some 5]]
theorem f15.fnok : FnOK Try.prog 15 := fn_ok Try.func15 (by kernel_rfl) rfl
def f16.step {R : Type} (k : Nat) (ret : Int → Option R) (xs1 : List Int) (a2 : Int) (a3 : Int) : Option R :=
  if (decide (a3 ≤ (1 : Int))) = true then
    ret (0 : Int)
  else
    if (decide ((((List.length xs1) : Nat) : Int) = (0 : Int))) = true then
      if a3 ≠ 0 then
        ret (Int.tmod (IntKind.i64.wrap (a2 * (7 : Int))) a3)
      else none
    else
      if (((List.length xs1) : Nat) : Int) ≠ 0 then
        if (0 : Int) ≤ (Int.tmod a2 (((List.length xs1) : Nat) : Int)) then
          if (Int.tmod a2 (((List.length xs1) : Nat) : Int)) < ((List.length xs1 : Nat) : Int) then
            if (((List.length xs1) : Nat) : Int) ≠ 0 then
              if (0 : Int) ≤ (Int.tmod (IntKind.i64.wrap (a2 + (1 : Int))) (((List.length xs1) : Nat) : Int)) then
                if (Int.tmod (IntKind.i64.wrap (a2 + (1 : Int))) (((List.length xs1) : Nat) : Int)) < ((List.length xs1 : Nat) : Int) then
                  if (((List.length xs1) : Nat) : Int) ≠ 0 then
                    if a3 ≠ 0 then
                      ret (Int.tmod (IntKind.i64.wrap ((IntKind.i64.wrap ((IntKind.i64.wrap ((IntKind.i64.wrap (List.getD xs1 (Int.toNat (Int.tmod a2 (((List.length xs1) : Nat) : Int))) (0 : Int))) * (31 : Int))) + (IntKind.i64.wrap (List.getD xs1 (Int.toNat (Int.tmod (IntKind.i64.wrap (a2 + (1 : Int))) (((List.length xs1) : Nat) : Int))) (0 : Int))))) + (IntKind.i64.wrap (Int.tdiv a2 (((List.length xs1) : Nat) : Int))))) a3)
                    else none
                  else none
                else none
              else none
            else none
          else none
        else none
      else none
def f16 (k : Nat) (xs1 : List Int) (a2 : Int) (a3 : Int) : Option Int := f16.step k some xs1 a2 a3
def f16.w {R : Type} : Int → (Res env → Option R) → Option R := fun t4 K => K ⟨.v (.c (.s (.int .i64 t4))), [[], [], []]⟩
theorem f16.wn (x : Int) : ∃ res, ∀ {R : Type} (K : Res env → Option R), f16.w x K = K res := by
  exact ⟨_, fun _ => rfl⟩
def f16.hd (k : Nat) (ps_ : List (P2 env)) : Cl env :=
  gC Cl.no ps_ fun p_ ps_ => qC Cl.no p_ fun c_ => qSl Cl.no 5 c_ fun xs1 => gC Cl.no ps_ fun p_ ps_ => qC Cl.no p_ fun c_ => qS Cl.no c_ fun v_ => vI Cl.no .i64 v_ fun a2 => gC Cl.no ps_ fun p_ ps_ => qC Cl.no p_ fun c_ => qS Cl.no c_ fun v_ => vI Cl.no .i64 v_ fun a3 => gE Cl.no ps_ <| { α := Int, o := f16 k xs1 a2 a3, w := f16.w, nat := fun x _ => f16.wn x }
def f16.e (k : Nat) : Entry env := ⟨fun ps => f16.hd k (coer [[some 5], [none], [none]] ps)⟩
def f16.X (k : Nat) : Ctx env := { C := lookE [], L := lookE [], J := lookE [], keep := lookD [], keepX := lookD [], span := lookN [], eff := fun n => memN n [], prep := lookP [] }
theorem f16.nat {R : Type} (k : Nat) (g : Int → Option R) (xs1 : List Int) (a2 : Int) (a3 : Int) : f16.step k g xs1 a2 a3 = (f16 k xs1 a2 a3).bind g := by
  simp only [f16, f16.step, bind_ite, bind_sum, Option.bind_assoc, Option.bind_some, Option.bind_none]
theorem f16.ev (k : Nat) (xs1 : List Int) (a2 : Int) (a3 : Int) : evF (f16.X k) (bodyOf Try.f16) Try.f16.ntmps Try.f16.results.toList [.v (.c (.sl 5 xs1)), .v (.c (.s (.int .i64 a2))), .v (.c (.s (.int .i64 a3)))] = f16.step k (fun x => f16.w x some) xs1 a2 a3 := by kernel_rfl
theorem f16.hok (k : Nat) : HOK (f16.X k) (bodyOf Try.f16) where
  l := allP_mem (by exact trivial)
  j := allP_mem (by exact trivial)
theorem f16.sound0 (k : Nat) : SoundC env Try.prog 16 (f16.hd k) := by
  intro ps_
  show GoodC _ _ _ ps_ (f16.hd k ps_)
  unfold f16.hd
  refine gC_ok (p := GoodC env Try.prog 16 _) goodC_no fun _ _ h => ?_
  subst h
  refine qC_ok (p := GoodC env Try.prog 16 _) goodC_no fun _ h => ?_
  subst h
  refine qSl_ok (p := GoodC env Try.prog 16 _) goodC_no fun _ h => ?_
  subst h
  refine gC_ok (p := GoodC env Try.prog 16 _) goodC_no fun _ _ h => ?_
  subst h
  refine qC_ok (p := GoodC env Try.prog 16 _) goodC_no fun _ h => ?_
  subst h
  refine qS_ok (p := GoodC env Try.prog 16 _) goodC_no fun _ h => ?_
  subst h
  refine vI_ok (p := GoodC env Try.prog 16 _) goodC_no fun _ h => ?_
  subst h
  refine gC_ok (p := GoodC env Try.prog 16 _) goodC_no fun _ _ h => ?_
  subst h
  refine qC_ok (p := GoodC env Try.prog 16 _) goodC_no fun _ h => ?_
  subst h
  refine qS_ok (p := GoodC env Try.prog 16 _) goodC_no fun _ h => ?_
  subst h
  refine vI_ok (p := GoodC env Try.prog 16 _) goodC_no fun _ h => ?_
  subst h
  refine gE_ok (p := GoodC env Try.prog 16 _) goodC_no fun h => ?_
  subst h
  exact fun_good (fun_sound envOK (cs_sound _ (by exact trivial)) (f16.hok k) Try.func16 rfl) ((f16.ev k _ _ _).trans (f16.nat k _ _ _ _))
theorem f16.sound (k : Nat) : SoundC env Try.prog 16 (f16.e k).F := soundC_coer (f16.sound0 k) [[some 5], [none], [none]]
theorem f16.says (k : Nat) (xs1 : List Int) (a2 : Int) (a3 : Int) (t5 : Int) (h_ : f16 k xs1 a2 a3 = some t5) : SoundAt env Try.prog 16 [.v (.c (.sl 5 xs1)), .v (.c (.s (.int .i64 a2))), .v (.c (.s (.int .i64 a3)))] ⟨.v (.c (.s (.int .i64 t5))), [[], [], []]⟩ :=
  fun_sound envOK (cs_sound _ (by exact trivial)) (f16.hok k) Try.func16 rfl _ _ (((f16.ev k xs1 a2 a3).trans (f16.nat k _ xs1 a2 a3)).trans (by rw [h_]; rfl))
theorem f16.fnok : FnOK Try.prog 16 := fn_ok Try.func16 (by kernel_rfl) rfl
def f83.step {R : Type} (k : Nat) (ret : Bool → Option R) (a1 : Int) (a2 : Int) (a3 : Int) : Option R :=
  if (decide (a1 ≥ a2)) = true then
    ret (decide (a1 ≤ a3))
  else
    ret false
def f83 (k : Nat) (a1 : Int) (a2 : Int) (a3 : Int) : Option Bool := f83.step k some a1 a2 a3
def f83.w {R : Type} : Bool → (Res env → Option R) → Option R := fun t4 K => K ⟨.v (.c (.s (.bool t4))), [[], [], []]⟩
theorem f83.wn (x : Bool) : ∃ res, ∀ {R : Type} (K : Res env → Option R), f83.w x K = K res := by
  exact ⟨_, fun _ => rfl⟩
def f83.hd (k : Nat) (ps_ : List (P2 env)) : Cl env :=
  gC Cl.no ps_ fun p_ ps_ => qC Cl.no p_ fun c_ => qS Cl.no c_ fun v_ => vI Cl.no .i64 v_ fun a1 => gC Cl.no ps_ fun p_ ps_ => qC Cl.no p_ fun c_ => qS Cl.no c_ fun v_ => vI Cl.no .i64 v_ fun a2 => gC Cl.no ps_ fun p_ ps_ => qC Cl.no p_ fun c_ => qS Cl.no c_ fun v_ => vI Cl.no .i64 v_ fun a3 => gE Cl.no ps_ <| { α := Bool, o := f83 k a1 a2 a3, w := f83.w, nat := fun x _ => f83.wn x }
def f83.e (k : Nat) : Entry env := ⟨f83.hd k⟩
def f83.X (k : Nat) : Ctx env := { C := lookE [], L := lookE [], J := lookE [], keep := lookD [], keepX := lookD [], span := lookN [], eff := fun n => memN n [], prep := lookP [] }
theorem f83.nat {R : Type} (k : Nat) (g : Bool → Option R) (a1 : Int) (a2 : Int) (a3 : Int) : f83.step k g a1 a2 a3 = (f83 k a1 a2 a3).bind g := by
  simp only [f83, f83.step, bind_ite, bind_sum, Option.bind_assoc, Option.bind_some, Option.bind_none]
theorem f83.ev (k : Nat) (a1 : Int) (a2 : Int) (a3 : Int) : evF (f83.X k) (bodyOf Try.f83) Try.f83.ntmps Try.f83.results.toList [.v (.c (.s (.int .i64 a1))), .v (.c (.s (.int .i64 a2))), .v (.c (.s (.int .i64 a3)))] = f83.step k (fun x => f83.w x some) a1 a2 a3 := by kernel_rfl
theorem f83.hok (k : Nat) : HOK (f83.X k) (bodyOf Try.f83) where
  l := allP_mem (by exact trivial)
  j := allP_mem (by exact trivial)
theorem f83.sound (k : Nat) : SoundC env Try.prog 83 ((f83.e k).F) := by
  intro ps_
  show GoodC _ _ _ ps_ (f83.hd k ps_)
  unfold f83.hd
  refine gC_ok (p := GoodC env Try.prog 83 _) goodC_no fun _ _ h => ?_
  subst h
  refine qC_ok (p := GoodC env Try.prog 83 _) goodC_no fun _ h => ?_
  subst h
  refine qS_ok (p := GoodC env Try.prog 83 _) goodC_no fun _ h => ?_
  subst h
  refine vI_ok (p := GoodC env Try.prog 83 _) goodC_no fun _ h => ?_
  subst h
  refine gC_ok (p := GoodC env Try.prog 83 _) goodC_no fun _ _ h => ?_
  subst h
  refine qC_ok (p := GoodC env Try.prog 83 _) goodC_no fun _ h => ?_
  subst h
  refine qS_ok (p := GoodC env Try.prog 83 _) goodC_no fun _ h => ?_
  subst h
  refine vI_ok (p := GoodC env Try.prog 83 _) goodC_no fun _ h => ?_
  subst h
  refine gC_ok (p := GoodC env Try.prog 83 _) goodC_no fun _ _ h => ?_
  subst h
  refine qC_ok (p := GoodC env Try.prog 83 _) goodC_no fun _ h => ?_
  subst h
  refine qS_ok (p := GoodC env Try.prog 83 _) goodC_no fun _ h => ?_
  subst h
  refine vI_ok (p := GoodC env Try.prog 83 _) goodC_no fun _ h => ?_
  subst h
  refine gE_ok (p := GoodC env Try.prog 83 _) goodC_no fun h => ?_
  subst h
  exact fun_good (fun_sound envOK (cs_sound _ (by exact trivial)) (f83.hok k) Try.func83 rfl) ((f83.ev k _ _ _).trans (f83.nat k _ _ _ _))
theorem f83.says (k : Nat) (a1 : Int) (a2 : Int) (a3 : Int) (t5 : Bool) (h_ : f83 k a1 a2 a3 = some t5) : SoundAt env Try.prog 83 [.v (.c (.s (.int .i64 a1))), .v (.c (.s (.int .i64 a2))), .v (.c (.s (.int .i64 a3)))] ⟨.v (.c (.s (.bool t5))), [[], [], []]⟩ :=
  fun_sound envOK (cs_sound _ (by exact trivial)) (f83.hok k) Try.func83 rfl _ _ (((f83.ev k a1 a2 a3).trans (f83.nat k _ a1 a2 a3)).trans (by rw [h_]; rfl))
theorem f83.fnok : FnOK Try.prog 83 := fn_ok Try.func83 (by kernel_rfl) rfl
def f20.step {R : Type} (k : Nat) (ret : Bool → Option R) (a1 : Int) (s2 : ByteArray) (s3 : ByteArray) (a4 : Int) (a5 : Int) (a6 : Int) (a7 : Int) (b8 : Bool) (b9 : Bool) (xs10 : List Int) : Option R :=
  (f83 k a4 (0 : Int) (255 : Int)).bind fun t11 => if (!t11) = false then
      (f83 k a5 (0 : Int) (255 : Int)).bind fun t12 => if (!t12) = false then
          if (decide ((((List.length xs10) : Nat) : Int) > (1500 : Int))) = true then
            ret false
          else
            if (decide (a1 = (4 : Int))) = true then
              if (decide ((((ByteArray.size s2) : Nat) : Int) ≠ (4 : Int))) = false then
                if (decide ((((ByteArray.size s3) : Nat) : Int) ≠ (4 : Int))) = false then
                  (f83 k a6 (0 : Int) (65535 : Int)).bind fun t13 => if (!t13) = false then
                      (f83 k a7 (0 : Int) (8191 : Int)).bind fun t14 => if (!t14) = true then
                          ret false
                        else
                          if b9 = true then
                            if b8 = false then
                              if (decide (a7 > (0 : Int))) = true then
                                ret false
                              else
                                if b8 = true then
                                  if (decide ((((List.length xs10) : Nat) : Int) = (0 : Int))) = false then
                                    if (decide ((Int.tmod (((List.length xs10) : Nat) : Int) (8 : Int)) ≠ (0 : Int))) = true then
                                      ret false
                                    else
                                      ret (decide ((IntKind.i64.wrap ((IntKind.i64.wrap ((8 : Int) * a7)) + (((List.length xs10) : Nat) : Int))) ≤ (65515 : Int)))
                                  else
                                    ret false
                                else
                                  ret (decide ((IntKind.i64.wrap ((IntKind.i64.wrap ((8 : Int) * a7)) + (((List.length xs10) : Nat) : Int))) ≤ (65515 : Int)))
                            else
                              ret false
                          else
                            if b8 = true then
                              if (decide ((((List.length xs10) : Nat) : Int) = (0 : Int))) = false then
                                if (decide ((Int.tmod (((List.length xs10) : Nat) : Int) (8 : Int)) ≠ (0 : Int))) = true then
                                  ret false
                                else
                                  ret (decide ((IntKind.i64.wrap ((IntKind.i64.wrap ((8 : Int) * a7)) + (((List.length xs10) : Nat) : Int))) ≤ (65515 : Int)))
                              else
                                ret false
                            else
                              ret (decide ((IntKind.i64.wrap ((IntKind.i64.wrap ((8 : Int) * a7)) + (((List.length xs10) : Nat) : Int))) ≤ (65515 : Int)))
                    else
                      ret false
                else
                  ret false
              else
                ret false
            else
              if (decide (a1 = (6 : Int))) = true then
                if (decide ((((ByteArray.size s2) : Nat) : Int) = (16 : Int))) = true then
                  if (decide ((((ByteArray.size s3) : Nat) : Int) = (16 : Int))) = true then
                    if (decide (a6 = (0 : Int))) = true then
                      if (decide (a7 = (0 : Int))) = true then
                        if (!b8) = true then
                          ret (!b9)
                        else
                          ret false
                      else
                        ret false
                    else
                      ret false
                  else
                    ret false
                else
                  ret false
              else
                ret false
        else
          ret false
    else
      ret false
def f20 (k : Nat) (a1 : Int) (s2 : ByteArray) (s3 : ByteArray) (a4 : Int) (a5 : Int) (a6 : Int) (a7 : Int) (b8 : Bool) (b9 : Bool) (xs10 : List Int) : Option Bool := f20.step k some a1 s2 s3 a4 a5 a6 a7 b8 b9 xs10
def f20.w {R : Type} : Bool → (Res env → Option R) → Option R := fun t15 K => K ⟨.v (.c (.s (.bool t15))), [[]]⟩
theorem f20.wn (x : Bool) : ∃ res, ∀ {R : Type} (K : Res env → Option R), f20.w x K = K res := by
  exact ⟨_, fun _ => rfl⟩
def f20.hd (k : Nat) (ps_ : List (P2 env)) : Cl env :=
  gC Cl.no ps_ fun p_ ps_ => qG Cl.no p_ fun cs_ => gC Cl.no cs_ fun c_ cs_ => qS Cl.no c_ fun v_ => vI Cl.no .i64 v_ fun a1 => gC Cl.no cs_ fun c_ cs_ => qS Cl.no c_ fun v_ => vS Cl.no v_ fun s2 => gC Cl.no cs_ fun c_ cs_ => qS Cl.no c_ fun v_ => vS Cl.no v_ fun s3 => gC Cl.no cs_ fun c_ cs_ => qS Cl.no c_ fun v_ => vI Cl.no .i64 v_ fun a4 => gC Cl.no cs_ fun c_ cs_ => qS Cl.no c_ fun v_ => vI Cl.no .i64 v_ fun a5 => gC Cl.no cs_ fun c_ cs_ => qS Cl.no c_ fun v_ => vI Cl.no .i64 v_ fun a6 => gC Cl.no cs_ fun c_ cs_ => qS Cl.no c_ fun v_ => vI Cl.no .i64 v_ fun a7 => gC Cl.no cs_ fun c_ cs_ => qS Cl.no c_ fun v_ => vB Cl.no v_ fun b8 => gC Cl.no cs_ fun c_ cs_ => qS Cl.no c_ fun v_ => vB Cl.no v_ fun b9 => gC Cl.no cs_ fun c_ cs_ => qSl Cl.no 5 c_ fun xs10 => gE Cl.no cs_ <| gE Cl.no ps_ <| { α := Bool, o := f20 k a1 s2 s3 a4 a5 a6 a7 b8 b9 xs10, w := f20.w, nat := fun x _ => f20.wn x }
def f20.e (k : Nat) : Entry env := ⟨fun ps => f20.hd k (coer [[none, none, none, none, none, none, none, none, none, some 5]] ps)⟩
def f20.X (k : Nat) : Ctx env := { C := lookE [(83, f83.e k)], L := lookE [], J := lookE [], keep := lookD [], keepX := lookD [], span := lookN [], eff := fun n => memN n [], prep := lookP [] }
theorem f20.nat {R : Type} (k : Nat) (g : Bool → Option R) (a1 : Int) (s2 : ByteArray) (s3 : ByteArray) (a4 : Int) (a5 : Int) (a6 : Int) (a7 : Int) (b8 : Bool) (b9 : Bool) (xs10 : List Int) : f20.step k g a1 s2 s3 a4 a5 a6 a7 b8 b9 xs10 = (f20 k a1 s2 s3 a4 a5 a6 a7 b8 b9 xs10).bind g := by
  simp only [f20, f20.step, bind_ite, bind_sum, Option.bind_assoc, Option.bind_some, Option.bind_none]
theorem f20.ev (k : Nat) (a1 : Int) (s2 : ByteArray) (s3 : ByteArray) (a4 : Int) (a5 : Int) (a6 : Int) (a7 : Int) (b8 : Bool) (b9 : Bool) (xs10 : List Int) : evF (f20.X k) (bodyOf Try.f20) Try.f20.ntmps Try.f20.results.toList [.g [.s (.int .i64 a1), .s (.string s2), .s (.string s3), .s (.int .i64 a4), .s (.int .i64 a5), .s (.int .i64 a6), .s (.int .i64 a7), .s (.bool b8), .s (.bool b9), .sl 5 xs10]] = f20.step k (fun x => f20.w x some) a1 s2 s3 a4 a5 a6 a7 b8 b9 xs10 := by kernel_rfl
theorem f20.hok (k : Nat) : HOK (f20.X k) (bodyOf Try.f20) where
  l := allP_mem (by exact trivial)
  j := allP_mem (by exact trivial)
theorem f20.sound0 (k : Nat) : SoundC env Try.prog 20 (f20.hd k) := by
  intro ps_
  show GoodC _ _ _ ps_ (f20.hd k ps_)
  unfold f20.hd
  refine gC_ok (p := GoodC env Try.prog 20 _) goodC_no fun _ _ h => ?_
  subst h
  refine qG_ok (p := GoodC env Try.prog 20 _) goodC_no fun _ h => ?_
  subst h
  refine gC_ok (p := GoodC env Try.prog 20 _) goodC_no fun _ _ h => ?_
  subst h
  refine qS_ok (p := GoodC env Try.prog 20 _) goodC_no fun _ h => ?_
  subst h
  refine vI_ok (p := GoodC env Try.prog 20 _) goodC_no fun _ h => ?_
  subst h
  refine gC_ok (p := GoodC env Try.prog 20 _) goodC_no fun _ _ h => ?_
  subst h
  refine qS_ok (p := GoodC env Try.prog 20 _) goodC_no fun _ h => ?_
  subst h
  refine vS_ok (p := GoodC env Try.prog 20 _) goodC_no fun _ h => ?_
  subst h
  refine gC_ok (p := GoodC env Try.prog 20 _) goodC_no fun _ _ h => ?_
  subst h
  refine qS_ok (p := GoodC env Try.prog 20 _) goodC_no fun _ h => ?_
  subst h
  refine vS_ok (p := GoodC env Try.prog 20 _) goodC_no fun _ h => ?_
  subst h
  refine gC_ok (p := GoodC env Try.prog 20 _) goodC_no fun _ _ h => ?_
  subst h
  refine qS_ok (p := GoodC env Try.prog 20 _) goodC_no fun _ h => ?_
  subst h
  refine vI_ok (p := GoodC env Try.prog 20 _) goodC_no fun _ h => ?_
  subst h
  refine gC_ok (p := GoodC env Try.prog 20 _) goodC_no fun _ _ h => ?_
  subst h
  refine qS_ok (p := GoodC env Try.prog 20 _) goodC_no fun _ h => ?_
  subst h
  refine vI_ok (p := GoodC env Try.prog 20 _) goodC_no fun _ h => ?_
  subst h
  refine gC_ok (p := GoodC env Try.prog 20 _) goodC_no fun _ _ h => ?_
  subst h
  refine qS_ok (p := GoodC env Try.prog 20 _) goodC_no fun _ h => ?_
  subst h
  refine vI_ok (p := GoodC env Try.prog 20 _) goodC_no fun _ h => ?_
  subst h
  refine gC_ok (p := GoodC env Try.prog 20 _) goodC_no fun _ _ h => ?_
  subst h
  refine qS_ok (p := GoodC env Try.prog 20 _) goodC_no fun _ h => ?_
  subst h
  refine vI_ok (p := GoodC env Try.prog 20 _) goodC_no fun _ h => ?_
  subst h
  refine gC_ok (p := GoodC env Try.prog 20 _) goodC_no fun _ _ h => ?_
  subst h
  refine qS_ok (p := GoodC env Try.prog 20 _) goodC_no fun _ h => ?_
  subst h
  refine vB_ok (p := GoodC env Try.prog 20 _) goodC_no fun _ h => ?_
  subst h
  refine gC_ok (p := GoodC env Try.prog 20 _) goodC_no fun _ _ h => ?_
  subst h
  refine qS_ok (p := GoodC env Try.prog 20 _) goodC_no fun _ h => ?_
  subst h
  refine vB_ok (p := GoodC env Try.prog 20 _) goodC_no fun _ h => ?_
  subst h
  refine gC_ok (p := GoodC env Try.prog 20 _) goodC_no fun _ _ h => ?_
  subst h
  refine qSl_ok (p := GoodC env Try.prog 20 _) goodC_no fun _ h => ?_
  subst h
  refine gE_ok (p := GoodC env Try.prog 20 _) goodC_no fun h => ?_
  subst h
  refine gE_ok (p := GoodC env Try.prog 20 _) goodC_no fun h => ?_
  subst h
  exact fun_good (fun_sound envOK (cs_sound _ (by exact ⟨⟨f83.sound k, f83.fnok⟩, trivial⟩)) (f20.hok k) Try.func20 rfl) ((f20.ev k _ _ _ _ _ _ _ _ _ _).trans (f20.nat k _ _ _ _ _ _ _ _ _ _ _))
theorem f20.sound (k : Nat) : SoundC env Try.prog 20 (f20.e k).F := soundC_coer (f20.sound0 k) [[none, none, none, none, none, none, none, none, none, some 5]]
theorem f20.says (k : Nat) (a1 : Int) (s2 : ByteArray) (s3 : ByteArray) (a4 : Int) (a5 : Int) (a6 : Int) (a7 : Int) (b8 : Bool) (b9 : Bool) (xs10 : List Int) (t16 : Bool) (h_ : f20 k a1 s2 s3 a4 a5 a6 a7 b8 b9 xs10 = some t16) : SoundAt env Try.prog 20 [.g [.s (.int .i64 a1), .s (.string s2), .s (.string s3), .s (.int .i64 a4), .s (.int .i64 a5), .s (.int .i64 a6), .s (.int .i64 a7), .s (.bool b8), .s (.bool b9), .sl 5 xs10]] ⟨.v (.c (.s (.bool t16))), [[]]⟩ :=
  fun_sound envOK (cs_sound _ (by exact ⟨⟨f83.sound k, f83.fnok⟩, trivial⟩)) (f20.hok k) Try.func20 rfl _ _ (((f20.ev k a1 s2 s3 a4 a5 a6 a7 b8 b9 xs10).trans (f20.nat k _ a1 s2 s3 a4 a5 a6 a7 b8 b9 xs10)).trans (by rw [h_]; rfl))
theorem f20.fnok : FnOK Try.prog 20 := fn_ok Try.func20 (by kernel_rfl) rfl
def f84.l5.step {R : Type} (k : Nat) (rec_ : Int → Int → (List Int) → Int → Int → ByteArray → ByteArray → Int → Int → Int → Int → Bool → Bool → (List Int) → (List S24) → Option R) (ret : ((List Int) × Int × Int × ByteArray × ByteArray × Int × Int × Int × Int × Bool × Bool × (List Int) × (List S24)) → Option R) (a12 : Int) (a13 : Int) (xs14 : List Int) (a15 : Int) (a16 : Int) (s17 : ByteArray) (s18 : ByteArray) (a19 : Int) (a20 : Int) (a21 : Int) (a22 : Int) (b23 : Bool) (b24 : Bool) (xs25 : List Int) (xs26 : List S24) : Option R :=
  if (decide ((((List.length xs14) : Nat) : Int) > a12)) = true then
    if (0 : Int) ≤ a13 then
      if a13 ≤ ((List.length xs14 : Nat) : Int) then
        if (List.length ([] : List Int) + List.length (List.drop 0 (List.take (Int.toNat a13) xs14))) * 1 ≤ maxN then
          if (List.length xs26 + List.length ([(⟨a16, s17, s18, a19, a20, a21, a15, true, b24, (([] : List Int) ++ (List.drop 0 (List.take (Int.toNat a13) xs14)))⟩ : S24)] : List S24)) * 104 ≤ maxN then
            if (0 : Int) ≤ a13 then
              if a13 ≤ ((List.length xs14 : Nat) : Int) then
                if ((List.length xs14 : Nat) : Int) ≤ ((List.length xs14 : Nat) : Int) then
                  rec_ a12 a13 (List.drop (Int.toNat a13) (List.take (Int.toNat ((List.length xs14 : Nat) : Int)) xs14)) (IntKind.i64.wrap (a15 + (IntKind.i64.wrap (Int.tdiv a13 (8 : Int))))) a16 s17 s18 a19 a20 a21 a22 b23 b24 xs25 (xs26 ++ ([(⟨a16, s17, s18, a19, a20, a21, a15, true, b24, (([] : List Int) ++ (List.drop 0 (List.take (Int.toNat a13) xs14)))⟩ : S24)] : List S24))
                else none
              else none
            else none
          else none
        else none
      else none
    else none
  else
    ret (xs14, a15, a16, s17, s18, a19, a20, a21, a22, b23, b24, xs25, xs26)
def f84.l5 (k : Nat) : Nat → Int → Int → (List Int) → Int → Int → ByteArray → ByteArray → Int → Int → Int → Int → Bool → Bool → (List Int) → (List S24) → Option ((List Int) × Int × Int × ByteArray × ByteArray × Int × Int × Int × Int × Bool × Bool × (List Int) × (List S24))
  | 0, _, _, _, _, _, _, _, _, _, _, _, _, _, _, _ => none
  | j + 1, a12, a13, xs14, a15, a16, s17, s18, a19, a20, a21, a22, b23, b24, xs25, xs26 => f84.l5.step k (fun a12 a13 xs14 a15 a16 s17 s18 a19 a20 a21 a22 b23 b24 xs25 xs26 => f84.l5 k j a12 a13 xs14 a15 a16 s17 s18 a19 a20 a21 a22 b23 b24 xs25 xs26) some a12 a13 xs14 a15 a16 s17 s18 a19 a20 a21 a22 b23 b24 xs25 xs26
def f84.l5.w {R : Type} : ((List Int) × Int × Int × ByteArray × ByteArray × Int × Int × Int × Int × Bool × Bool × (List Int) × (List S24)) → (Exit → St env → Option R) → Option R := fun t28 K => K (.exit 0) ⟨fullT [2, 7, 8, 9] 0 58 [.v (.c (.bp 2 0)), .v (.c (.row 146)), .v (.c (.imm 5 t28.1)), .v (.c (.s (.int .i64 t28.2.1)))], [(2, .box [.s (.int .i64 t28.2.2.1), .s (.string t28.2.2.2.1), .s (.string t28.2.2.2.2.1), .s (.int .i64 t28.2.2.2.2.2.1), .s (.int .i64 t28.2.2.2.2.2.2.1), .s (.int .i64 t28.2.2.2.2.2.2.2.1), .s (.int .i64 t28.2.2.2.2.2.2.2.2.1), .s (.bool t28.2.2.2.2.2.2.2.2.2.1), .s (.bool t28.2.2.2.2.2.2.2.2.2.2.1), .imm 5 t28.2.2.2.2.2.2.2.2.2.2.2.1]), (146, .row true 24 t28.2.2.2.2.2.2.2.2.2.2.2.2)], 802⟩
def f84.l5.st (a12 : Int) (a13 : Int) (xs14 : List Int) (a15 : Int) (a16 : Int) (s17 : ByteArray) (s18 : ByteArray) (a19 : Int) (a20 : Int) (a21 : Int) (a22 : Int) (b23 : Bool) (b24 : Bool) (xs25 : List Int) (xs26 : List S24) : St env := ⟨fullT [2, 5, 6, 7, 8, 9] 0 58 [.v (.c (.bp 2 0)), .v (.c (.s (.int .i64 a12))), .v (.c (.s (.int .i64 a13))), .v (.c (.row 146)), .v (.c (.imm 5 xs14)), .v (.c (.s (.int .i64 a15)))], [(2, .box [.s (.int .i64 a16), .s (.string s17), .s (.string s18), .s (.int .i64 a19), .s (.int .i64 a20), .s (.int .i64 a21), .s (.int .i64 a22), .s (.bool b23), .s (.bool b24), .imm 5 xs25]), (146, .row true 24 xs26)], 274⟩
def f84.l5.hd (k : Nat) (ts_ : List (AV env)) (mm_ : Mem env) (n_ : Nat) : LCl env :=
  gTs LCl.no [2, 5, 6, 7, 8, 9] 58 ts_ fun l_ => gV LCl.no l_ fun a_ l_ => rBp LCl.no 2 0 a_ <| gV LCl.no l_ fun a_ l_ => rV LCl.no a_ fun v_ => vI LCl.no .i64 v_ fun a12 => gV LCl.no l_ fun a_ l_ => rV LCl.no a_ fun v_ => vI LCl.no .i64 v_ fun a13 => gV LCl.no l_ fun a_ l_ => rRow LCl.no 146 a_ <| gV LCl.no l_ fun a_ l_ => rImm LCl.no 5 a_ fun xs14 => gV LCl.no l_ fun a_ l_ => rV LCl.no a_ fun v_ => vI LCl.no .i64 v_ fun a15 => gE LCl.no l_ <| mBox LCl.no 2 mm_ fun c_ m_ => gC LCl.no c_ fun a_ c_ => rV LCl.no a_ fun v_ => vI LCl.no .i64 v_ fun a16 => gC LCl.no c_ fun a_ c_ => rV LCl.no a_ fun v_ => vS LCl.no v_ fun s17 => gC LCl.no c_ fun a_ c_ => rV LCl.no a_ fun v_ => vS LCl.no v_ fun s18 => gC LCl.no c_ fun a_ c_ => rV LCl.no a_ fun v_ => vI LCl.no .i64 v_ fun a19 => gC LCl.no c_ fun a_ c_ => rV LCl.no a_ fun v_ => vI LCl.no .i64 v_ fun a20 => gC LCl.no c_ fun a_ c_ => rV LCl.no a_ fun v_ => vI LCl.no .i64 v_ fun a21 => gC LCl.no c_ fun a_ c_ => rV LCl.no a_ fun v_ => vI LCl.no .i64 v_ fun a22 => gC LCl.no c_ fun a_ c_ => rV LCl.no a_ fun v_ => vB LCl.no v_ fun b23 => gC LCl.no c_ fun a_ c_ => rV LCl.no a_ fun v_ => vB LCl.no v_ fun b24 => gC LCl.no c_ fun a_ c_ => rImm LCl.no 5 a_ fun xs25 => gE LCl.no c_ <| mRow LCl.no 146 true 24 m_ fun xs26 m_ => gE LCl.no m_ <| gN LCl.no 274 n_ { α := (List Int) × Int × Int × ByteArray × ByteArray × Int × Int × Int × Int × Bool × Bool × (List Int) × (List S24), o := f84.l5 k k a12 a13 xs14 a15 a16 s17 s18 a19 a20 a21 a22 b23 b24 xs25 xs26, w := f84.l5.w }
def f84.step {R : Type} (k : Nat) (ret : ((List S24)) → Option R) (a1 : Int) (s2 : ByteArray) (s3 : ByteArray) (a4 : Int) (a5 : Int) (a6 : Int) (a7 : Int) (b8 : Bool) (b9 : Bool) (xs10 : List Int) (a11 : Int) : Option R :=
  (f84.l5 k k (IntKind.i64.wrap (a11 - (20 : Int))) (IntKind.i64.wrap ((IntKind.i64.wrap (Int.tdiv (IntKind.i64.wrap (a11 - (20 : Int))) (8 : Int))) * (8 : Int))) xs10 a7 a1 s2 s3 a4 a5 a6 a7 b8 b9 xs10 ([] : List S24)).bind fun t27 => if (List.length ([] : List Int) + List.length t27.1) * 1 ≤ maxN then
      if (List.length t27.2.2.2.2.2.2.2.2.2.2.2.2 + List.length ([(⟨t27.2.2.1, t27.2.2.2.1, t27.2.2.2.2.1, t27.2.2.2.2.2.1, t27.2.2.2.2.2.2.1, t27.2.2.2.2.2.2.2.1, t27.2.1, t27.2.2.2.2.2.2.2.2.2.1, t27.2.2.2.2.2.2.2.2.2.2.1, (([] : List Int) ++ t27.1)⟩ : S24)] : List S24)) * 104 ≤ maxN then
        ret (t27.2.2.2.2.2.2.2.2.2.2.2.2 ++ ([(⟨t27.2.2.1, t27.2.2.2.1, t27.2.2.2.2.1, t27.2.2.2.2.2.1, t27.2.2.2.2.2.2.1, t27.2.2.2.2.2.2.2.1, t27.2.1, t27.2.2.2.2.2.2.2.2.2.1, t27.2.2.2.2.2.2.2.2.2.2.1, (([] : List Int) ++ t27.1)⟩ : S24)] : List S24))
      else none
    else none
def f84 (k : Nat) (a1 : Int) (s2 : ByteArray) (s3 : ByteArray) (a4 : Int) (a5 : Int) (a6 : Int) (a7 : Int) (b8 : Bool) (b9 : Bool) (xs10 : List Int) (a11 : Int) : Option ((List S24)) := f84.step k some a1 s2 s3 a4 a5 a6 a7 b8 b9 xs10 a11
def f84.w {R : Type} : ((List S24)) → (Res env → Option R) → Option R := fun t29 K => K ⟨.v (.c (.own true 24 t29)), [[], []]⟩
theorem f84.wn (x : ((List S24))) : ∃ res, ∀ {R : Type} (K : Res env → Option R), f84.w x K = K res := by
  exact ⟨_, fun _ => rfl⟩
def f84.hd (k : Nat) (ps_ : List (P2 env)) : Cl env :=
  gC Cl.no ps_ fun p_ ps_ => qG Cl.no p_ fun cs_ => gC Cl.no cs_ fun c_ cs_ => qS Cl.no c_ fun v_ => vI Cl.no .i64 v_ fun a1 => gC Cl.no cs_ fun c_ cs_ => qS Cl.no c_ fun v_ => vS Cl.no v_ fun s2 => gC Cl.no cs_ fun c_ cs_ => qS Cl.no c_ fun v_ => vS Cl.no v_ fun s3 => gC Cl.no cs_ fun c_ cs_ => qS Cl.no c_ fun v_ => vI Cl.no .i64 v_ fun a4 => gC Cl.no cs_ fun c_ cs_ => qS Cl.no c_ fun v_ => vI Cl.no .i64 v_ fun a5 => gC Cl.no cs_ fun c_ cs_ => qS Cl.no c_ fun v_ => vI Cl.no .i64 v_ fun a6 => gC Cl.no cs_ fun c_ cs_ => qS Cl.no c_ fun v_ => vI Cl.no .i64 v_ fun a7 => gC Cl.no cs_ fun c_ cs_ => qS Cl.no c_ fun v_ => vB Cl.no v_ fun b8 => gC Cl.no cs_ fun c_ cs_ => qS Cl.no c_ fun v_ => vB Cl.no v_ fun b9 => gC Cl.no cs_ fun c_ cs_ => qSl Cl.no 5 c_ fun xs10 => gE Cl.no cs_ <| gC Cl.no ps_ fun p_ ps_ => qC Cl.no p_ fun c_ => qS Cl.no c_ fun v_ => vI Cl.no .i64 v_ fun a11 => gE Cl.no ps_ <| { α := (List S24), o := f84 k a1 s2 s3 a4 a5 a6 a7 b8 b9 xs10 a11, w := f84.w, nat := fun x _ => f84.wn x }
def f84.e (k : Nat) : Entry env := ⟨fun ps => f84.hd k (coer [[none, none, none, none, none, none, none, none, none, some 5], [none]] ps)⟩
def f84.X (k : Nat) : Ctx env := { C := lookE [], L := lookE [(5, fun S => f84.l5.hd k S.ts S.m S.n)], J := lookE [], keep := lookD [(5, [2, 5, 6, 7, 8, 9])], keepX := lookD [(5, [2, 7, 8, 9])], span := lookN [(5, 528)], eff := fun n => memN n [], prep := lookP [] }
theorem f84.l5.nat {R : Type} (k : Nat) (rec_ : Int → Int → (List Int) → Int → Int → ByteArray → ByteArray → Int → Int → Int → Int → Bool → Bool → (List Int) → (List S24) → Option ((List Int) × Int × Int × ByteArray × ByteArray × Int × Int × Int × Int × Bool × Bool × (List Int) × (List S24))) (g : ((List Int) × Int × Int × ByteArray × ByteArray × Int × Int × Int × Int × Bool × Bool × (List Int) × (List S24)) → Option R) (a12 : Int) (a13 : Int) (xs14 : List Int) (a15 : Int) (a16 : Int) (s17 : ByteArray) (s18 : ByteArray) (a19 : Int) (a20 : Int) (a21 : Int) (a22 : Int) (b23 : Bool) (b24 : Bool) (xs25 : List Int) (xs26 : List S24) : (f84.l5.step k rec_ some a12 a13 xs14 a15 a16 s17 s18 a19 a20 a21 a22 b23 b24 xs25 xs26).bind g = f84.l5.step k (fun a12 a13 xs14 a15 a16 s17 s18 a19 a20 a21 a22 b23 b24 xs25 xs26 => (rec_ a12 a13 xs14 a15 a16 s17 s18 a19 a20 a21 a22 b23 b24 xs25 xs26).bind g) g a12 a13 xs14 a15 a16 s17 s18 a19 a20 a21 a22 b23 b24 xs25 xs26 := by
  simp only [f84.l5.step, bind_ite, bind_sum, Option.bind_assoc, Option.bind_some, Option.bind_none]
theorem f84.l5.good (k : Nat) (a12 : Int) (a13 : Int) (xs14 : List Int) (a15 : Int) (a16 : Int) (s17 : ByteArray) (s18 : ByteArray) (a19 : Int) (a20 : Int) (a21 : Int) (a22 : Int) (b23 : Bool) (b24 : Bool) (xs25 : List Int) (xs26 : List S24) : GoodL (f84.X k) (nthC 0 (loopsOf (bodyOf Try.f84))) (f84.l5.st a12 a13 xs14 a15 a16 s17 s18 a19 a20 a21 a22 b23 b24 xs25 xs26) { α := ((List Int) × Int × Int × ByteArray × ByteArray × Int × Int × Int × Int × Bool × Bool × (List Int) × (List S24)), o := f84.l5 k k a12 a13 xs14 a15 a16 s17 s18 a19 a20 a21 a22 b23 b24 xs25 xs26, w := f84.l5.w } :=
  loop_good (ι := Int × Int × (List Int) × Int × Int × ByteArray × ByteArray × Int × Int × Int × Int × Bool × Bool × (List Int) × (List S24)) (α := ((List Int) × Int × Int × ByteArray × ByteArray × Int × Int × Int × Int × Bool × Bool × (List Int) × (List S24))) (fun i => f84.l5.st i.1 i.2.1 i.2.2.1 i.2.2.2.1 i.2.2.2.2.1 i.2.2.2.2.2.1 i.2.2.2.2.2.2.1 i.2.2.2.2.2.2.2.1 i.2.2.2.2.2.2.2.2.1 i.2.2.2.2.2.2.2.2.2.1 i.2.2.2.2.2.2.2.2.2.2.1 i.2.2.2.2.2.2.2.2.2.2.2.1 i.2.2.2.2.2.2.2.2.2.2.2.2.1 i.2.2.2.2.2.2.2.2.2.2.2.2.2.1 i.2.2.2.2.2.2.2.2.2.2.2.2.2.2) (fun j i => f84.l5 k j i.1 i.2.1 i.2.2.1 i.2.2.2.1 i.2.2.2.2.1 i.2.2.2.2.2.1 i.2.2.2.2.2.2.1 i.2.2.2.2.2.2.2.1 i.2.2.2.2.2.2.2.2.1 i.2.2.2.2.2.2.2.2.2.1 i.2.2.2.2.2.2.2.2.2.2.1 i.2.2.2.2.2.2.2.2.2.2.2.1 i.2.2.2.2.2.2.2.2.2.2.2.2.1 i.2.2.2.2.2.2.2.2.2.2.2.2.2.1 i.2.2.2.2.2.2.2.2.2.2.2.2.2.2) f84.l5.w (fun rec_ ret i => f84.l5.step k (fun a12 a13 xs14 a15 a16 s17 s18 a19 a20 a21 a22 b23 b24 xs25 xs26 => rec_ (a12, a13, xs14, a15, a16, s17, s18, a19, a20, a21, a22, b23, b24, xs25, xs26)) ret i.1 i.2.1 i.2.2.1 i.2.2.2.1 i.2.2.2.2.1 i.2.2.2.2.2.1 i.2.2.2.2.2.2.1 i.2.2.2.2.2.2.2.1 i.2.2.2.2.2.2.2.2.1 i.2.2.2.2.2.2.2.2.2.1 i.2.2.2.2.2.2.2.2.2.2.1 i.2.2.2.2.2.2.2.2.2.2.2.1 i.2.2.2.2.2.2.2.2.2.2.2.2.1 i.2.2.2.2.2.2.2.2.2.2.2.2.2.1 i.2.2.2.2.2.2.2.2.2.2.2.2.2.2)
    (fun _ => rfl) (fun _ _ => rfl) (fun rec_ g i => f84.l5.nat k _ g i.1 i.2.1 i.2.2.1 i.2.2.2.1 i.2.2.2.2.1 i.2.2.2.2.2.1 i.2.2.2.2.2.2.1 i.2.2.2.2.2.2.2.1 i.2.2.2.2.2.2.2.2.1 i.2.2.2.2.2.2.2.2.2.1 i.2.2.2.2.2.2.2.2.2.2.1 i.2.2.2.2.2.2.2.2.2.2.2.1 i.2.2.2.2.2.2.2.2.2.2.2.2.1 i.2.2.2.2.2.2.2.2.2.2.2.2.2.1 i.2.2.2.2.2.2.2.2.2.2.2.2.2.2) (fun {R} i0 i rec_ K => by kernel_rfl) k (a12, a13, xs14, a15, a16, s17, s18, a19, a20, a21, a22, b23, b24, xs25, xs26)
theorem f84.l5.all (k : Nat) (S : St env) : GoodL (f84.X k) (nthC 0 (loopsOf (bodyOf Try.f84))) S (f84.l5.hd k S.ts S.m S.n) := by
  obtain ⟨ts_, m_, n_⟩ := S
  show GoodL _ _ _ (f84.l5.hd k ts_ m_ n_)
  unfold f84.l5.hd
  refine gTs_ok (p := GoodL _ _ _) goodL_no fun _ h => ?_
  subst h
  refine gV_ok (p := GoodL _ _ _) goodL_no fun _ _ h => ?_
  subst h
  refine rBp_ok (p := GoodL _ _ _) goodL_no fun h => ?_
  subst h
  refine gV_ok (p := GoodL _ _ _) goodL_no fun _ _ h => ?_
  subst h
  refine rV_ok (p := GoodL _ _ _) goodL_no fun _ h => ?_
  subst h
  refine vI_ok (p := GoodL _ _ _) goodL_no fun _ h => ?_
  subst h
  refine gV_ok (p := GoodL _ _ _) goodL_no fun _ _ h => ?_
  subst h
  refine rV_ok (p := GoodL _ _ _) goodL_no fun _ h => ?_
  subst h
  refine vI_ok (p := GoodL _ _ _) goodL_no fun _ h => ?_
  subst h
  refine gV_ok (p := GoodL _ _ _) goodL_no fun _ _ h => ?_
  subst h
  refine rRow_ok (p := GoodL _ _ _) goodL_no fun h => ?_
  subst h
  refine gV_ok (p := GoodL _ _ _) goodL_no fun _ _ h => ?_
  subst h
  refine rImm_ok (p := GoodL _ _ _) goodL_no fun _ h => ?_
  subst h
  refine gV_ok (p := GoodL _ _ _) goodL_no fun _ _ h => ?_
  subst h
  refine rV_ok (p := GoodL _ _ _) goodL_no fun _ h => ?_
  subst h
  refine vI_ok (p := GoodL _ _ _) goodL_no fun _ h => ?_
  subst h
  refine gE_ok (p := GoodL _ _ _) goodL_no fun h => ?_
  subst h
  refine mBox_ok (p := GoodL _ _ _) goodL_no fun _ _ h => ?_
  subst h
  refine gC_ok (p := GoodL _ _ _) goodL_no fun _ _ h => ?_
  subst h
  refine rV_ok (p := GoodL _ _ _) goodL_no fun _ h => ?_
  subst h
  refine vI_ok (p := GoodL _ _ _) goodL_no fun _ h => ?_
  subst h
  refine gC_ok (p := GoodL _ _ _) goodL_no fun _ _ h => ?_
  subst h
  refine rV_ok (p := GoodL _ _ _) goodL_no fun _ h => ?_
  subst h
  refine vS_ok (p := GoodL _ _ _) goodL_no fun _ h => ?_
  subst h
  refine gC_ok (p := GoodL _ _ _) goodL_no fun _ _ h => ?_
  subst h
  refine rV_ok (p := GoodL _ _ _) goodL_no fun _ h => ?_
  subst h
  refine vS_ok (p := GoodL _ _ _) goodL_no fun _ h => ?_
  subst h
  refine gC_ok (p := GoodL _ _ _) goodL_no fun _ _ h => ?_
  subst h
  refine rV_ok (p := GoodL _ _ _) goodL_no fun _ h => ?_
  subst h
  refine vI_ok (p := GoodL _ _ _) goodL_no fun _ h => ?_
  subst h
  refine gC_ok (p := GoodL _ _ _) goodL_no fun _ _ h => ?_
  subst h
  refine rV_ok (p := GoodL _ _ _) goodL_no fun _ h => ?_
  subst h
  refine vI_ok (p := GoodL _ _ _) goodL_no fun _ h => ?_
  subst h
  refine gC_ok (p := GoodL _ _ _) goodL_no fun _ _ h => ?_
  subst h
  refine rV_ok (p := GoodL _ _ _) goodL_no fun _ h => ?_
  subst h
  refine vI_ok (p := GoodL _ _ _) goodL_no fun _ h => ?_
  subst h
  refine gC_ok (p := GoodL _ _ _) goodL_no fun _ _ h => ?_
  subst h
  refine rV_ok (p := GoodL _ _ _) goodL_no fun _ h => ?_
  subst h
  refine vI_ok (p := GoodL _ _ _) goodL_no fun _ h => ?_
  subst h
  refine gC_ok (p := GoodL _ _ _) goodL_no fun _ _ h => ?_
  subst h
  refine rV_ok (p := GoodL _ _ _) goodL_no fun _ h => ?_
  subst h
  refine vB_ok (p := GoodL _ _ _) goodL_no fun _ h => ?_
  subst h
  refine gC_ok (p := GoodL _ _ _) goodL_no fun _ _ h => ?_
  subst h
  refine rV_ok (p := GoodL _ _ _) goodL_no fun _ h => ?_
  subst h
  refine vB_ok (p := GoodL _ _ _) goodL_no fun _ h => ?_
  subst h
  refine gC_ok (p := GoodL _ _ _) goodL_no fun _ _ h => ?_
  subst h
  refine rImm_ok (p := GoodL _ _ _) goodL_no fun _ h => ?_
  subst h
  refine gE_ok (p := GoodL _ _ _) goodL_no fun h => ?_
  subst h
  refine mRow_ok (p := GoodL _ _ _) goodL_no fun _ _ h => ?_
  subst h
  refine gE_ok (p := GoodL _ _ _) goodL_no fun h => ?_
  subst h
  refine gN_ok (p := GoodL _ _ _) goodL_no fun h => ?_
  subst h
  exact f84.l5.good k _ _ _ _ _ _ _ _ _ _ _ _ _ _ _
theorem f84.nat {R : Type} (k : Nat) (g : ((List S24)) → Option R) (a1 : Int) (s2 : ByteArray) (s3 : ByteArray) (a4 : Int) (a5 : Int) (a6 : Int) (a7 : Int) (b8 : Bool) (b9 : Bool) (xs10 : List Int) (a11 : Int) : f84.step k g a1 s2 s3 a4 a5 a6 a7 b8 b9 xs10 a11 = (f84 k a1 s2 s3 a4 a5 a6 a7 b8 b9 xs10 a11).bind g := by
  simp only [f84, f84.step, bind_ite, bind_sum, Option.bind_assoc, Option.bind_some, Option.bind_none]
theorem f84.ev (k : Nat) (a1 : Int) (s2 : ByteArray) (s3 : ByteArray) (a4 : Int) (a5 : Int) (a6 : Int) (a7 : Int) (b8 : Bool) (b9 : Bool) (xs10 : List Int) (a11 : Int) : evF (f84.X k) (bodyOf Try.f84) Try.f84.ntmps Try.f84.results.toList [.g [.s (.int .i64 a1), .s (.string s2), .s (.string s3), .s (.int .i64 a4), .s (.int .i64 a5), .s (.int .i64 a6), .s (.int .i64 a7), .s (.bool b8), .s (.bool b9), .sl 5 xs10], .v (.c (.s (.int .i64 a11)))] = f84.step k (fun x => f84.w x some) a1 s2 s3 a4 a5 a6 a7 b8 b9 xs10 a11 := by kernel_rfl
theorem f84.hok (k : Nat) : HOK (f84.X k) (bodyOf Try.f84) where
  l := allP_mem (by exact ⟨ls_of (h0 := fun S => f84.l5.hd k S.ts S.m S.n) (by kernel_rfl) (f84.l5.all k), trivial⟩)
  j := allP_mem (by exact trivial)
theorem f84.sound0 (k : Nat) : SoundC env Try.prog 84 (f84.hd k) := by
  intro ps_
  show GoodC _ _ _ ps_ (f84.hd k ps_)
  unfold f84.hd
  refine gC_ok (p := GoodC env Try.prog 84 _) goodC_no fun _ _ h => ?_
  subst h
  refine qG_ok (p := GoodC env Try.prog 84 _) goodC_no fun _ h => ?_
  subst h
  refine gC_ok (p := GoodC env Try.prog 84 _) goodC_no fun _ _ h => ?_
  subst h
  refine qS_ok (p := GoodC env Try.prog 84 _) goodC_no fun _ h => ?_
  subst h
  refine vI_ok (p := GoodC env Try.prog 84 _) goodC_no fun _ h => ?_
  subst h
  refine gC_ok (p := GoodC env Try.prog 84 _) goodC_no fun _ _ h => ?_
  subst h
  refine qS_ok (p := GoodC env Try.prog 84 _) goodC_no fun _ h => ?_
  subst h
  refine vS_ok (p := GoodC env Try.prog 84 _) goodC_no fun _ h => ?_
  subst h
  refine gC_ok (p := GoodC env Try.prog 84 _) goodC_no fun _ _ h => ?_
  subst h
  refine qS_ok (p := GoodC env Try.prog 84 _) goodC_no fun _ h => ?_
  subst h
  refine vS_ok (p := GoodC env Try.prog 84 _) goodC_no fun _ h => ?_
  subst h
  refine gC_ok (p := GoodC env Try.prog 84 _) goodC_no fun _ _ h => ?_
  subst h
  refine qS_ok (p := GoodC env Try.prog 84 _) goodC_no fun _ h => ?_
  subst h
  refine vI_ok (p := GoodC env Try.prog 84 _) goodC_no fun _ h => ?_
  subst h
  refine gC_ok (p := GoodC env Try.prog 84 _) goodC_no fun _ _ h => ?_
  subst h
  refine qS_ok (p := GoodC env Try.prog 84 _) goodC_no fun _ h => ?_
  subst h
  refine vI_ok (p := GoodC env Try.prog 84 _) goodC_no fun _ h => ?_
  subst h
  refine gC_ok (p := GoodC env Try.prog 84 _) goodC_no fun _ _ h => ?_
  subst h
  refine qS_ok (p := GoodC env Try.prog 84 _) goodC_no fun _ h => ?_
  subst h
  refine vI_ok (p := GoodC env Try.prog 84 _) goodC_no fun _ h => ?_
  subst h
  refine gC_ok (p := GoodC env Try.prog 84 _) goodC_no fun _ _ h => ?_
  subst h
  refine qS_ok (p := GoodC env Try.prog 84 _) goodC_no fun _ h => ?_
  subst h
  refine vI_ok (p := GoodC env Try.prog 84 _) goodC_no fun _ h => ?_
  subst h
  refine gC_ok (p := GoodC env Try.prog 84 _) goodC_no fun _ _ h => ?_
  subst h
  refine qS_ok (p := GoodC env Try.prog 84 _) goodC_no fun _ h => ?_
  subst h
  refine vB_ok (p := GoodC env Try.prog 84 _) goodC_no fun _ h => ?_
  subst h
  refine gC_ok (p := GoodC env Try.prog 84 _) goodC_no fun _ _ h => ?_
  subst h
  refine qS_ok (p := GoodC env Try.prog 84 _) goodC_no fun _ h => ?_
  subst h
  refine vB_ok (p := GoodC env Try.prog 84 _) goodC_no fun _ h => ?_
  subst h
  refine gC_ok (p := GoodC env Try.prog 84 _) goodC_no fun _ _ h => ?_
  subst h
  refine qSl_ok (p := GoodC env Try.prog 84 _) goodC_no fun _ h => ?_
  subst h
  refine gE_ok (p := GoodC env Try.prog 84 _) goodC_no fun h => ?_
  subst h
  refine gC_ok (p := GoodC env Try.prog 84 _) goodC_no fun _ _ h => ?_
  subst h
  refine qC_ok (p := GoodC env Try.prog 84 _) goodC_no fun _ h => ?_
  subst h
  refine qS_ok (p := GoodC env Try.prog 84 _) goodC_no fun _ h => ?_
  subst h
  refine vI_ok (p := GoodC env Try.prog 84 _) goodC_no fun _ h => ?_
  subst h
  refine gE_ok (p := GoodC env Try.prog 84 _) goodC_no fun h => ?_
  subst h
  exact fun_good (fun_sound envOK (cs_sound _ (by exact trivial)) (f84.hok k) Try.func84 rfl) ((f84.ev k _ _ _ _ _ _ _ _ _ _ _).trans (f84.nat k _ _ _ _ _ _ _ _ _ _ _ _))
theorem f84.sound (k : Nat) : SoundC env Try.prog 84 (f84.e k).F := soundC_coer (f84.sound0 k) [[none, none, none, none, none, none, none, none, none, some 5], [none]]
theorem f84.says (k : Nat) (a1 : Int) (s2 : ByteArray) (s3 : ByteArray) (a4 : Int) (a5 : Int) (a6 : Int) (a7 : Int) (b8 : Bool) (b9 : Bool) (xs10 : List Int) (a11 : Int) (t30 : (List S24)) (h_ : f84 k a1 s2 s3 a4 a5 a6 a7 b8 b9 xs10 a11 = some t30) : SoundAt env Try.prog 84 [.g [.s (.int .i64 a1), .s (.string s2), .s (.string s3), .s (.int .i64 a4), .s (.int .i64 a5), .s (.int .i64 a6), .s (.int .i64 a7), .s (.bool b8), .s (.bool b9), .sl 5 xs10], .v (.c (.s (.int .i64 a11)))] ⟨.v (.c (.own true 24 t30)), [[], []]⟩ :=
  fun_sound envOK (cs_sound _ (by exact trivial)) (f84.hok k) Try.func84 rfl _ _ (((f84.ev k a1 s2 s3 a4 a5 a6 a7 b8 b9 xs10 a11).trans (f84.nat k _ a1 s2 s3 a4 a5 a6 a7 b8 b9 xs10 a11)).trans (by rw [h_]; rfl))
theorem f84.fnok : FnOK Try.prog 84 := fn_ok Try.func84 (by kernel_rfl) rfl
def f17.step {R : Type} (k : Nat) (ret : (Int ⊕ ((List S24) × Int)) → Option R) (a1 : Int) (s2 : ByteArray) (s3 : ByteArray) (a4 : Int) (a5 : Int) (a6 : Int) (a7 : Int) (b8 : Bool) (b9 : Bool) (xs10 : List Int) (a11 : Int) : Option R :=
  (f20 k a1 s2 s3 a4 a5 a6 a7 b8 b9 xs10).bind fun t12 => if (!t12) = false then
      if (decide (a1 ≠ (4 : Int))) = true then
        ret (.inl (1 : Int))
      else
        (f83 k a11 (28 : Int) (1520 : Int)).bind fun t13 => if (!t13) = true then
            ret (.inl (4 : Int))
          else
            if b9 = true then
              if (decide ((IntKind.i64.wrap ((((List.length xs10) : Nat) : Int) + (20 : Int))) > a11)) = true then
                ret (.inl (11 : Int))
              else
                (f84 k a1 s2 s3 a4 a5 a6 a7 b8 b9 xs10 a11).bind fun t14 => ret (.inr (t14, (0 : Int)))
            else
              (f84 k a1 s2 s3 a4 a5 a6 a7 b8 b9 xs10 a11).bind fun t15 => ret (.inr (t15, (0 : Int)))
    else
      ret (.inl (1 : Int))
def f17 (k : Nat) (a1 : Int) (s2 : ByteArray) (s3 : ByteArray) (a4 : Int) (a5 : Int) (a6 : Int) (a7 : Int) (b8 : Bool) (b9 : Bool) (xs10 : List Int) (a11 : Int) : Option (Int ⊕ ((List S24) × Int)) := f17.step k some a1 s2 s3 a4 a5 a6 a7 b8 b9 xs10 a11
def f17.w {R : Type} : (Int ⊕ ((List S24) × Int)) → (Res env → Option R) → Option R := fun x K => Sum.elim (fun t16 => K ⟨.tup [.c (.s (.slice none 0 0)), .c (.s (.int .i64 t16))], [[], []]⟩) (fun t17 => K ⟨.tup [.c (.own true 24 t17.1), .c (.s (.int .i64 t17.2))], [[], []]⟩) x
theorem f17.wn (x : (Int ⊕ ((List S24) × Int))) : ∃ res, ∀ {R : Type} (K : Res env → Option R), f17.w x K = K res := by
  rcases x with x | x <;> exact ⟨_, fun _ => rfl⟩
def f17.hd (k : Nat) (ps_ : List (P2 env)) : Cl env :=
  gC Cl.no ps_ fun p_ ps_ => qG Cl.no p_ fun cs_ => gC Cl.no cs_ fun c_ cs_ => qS Cl.no c_ fun v_ => vI Cl.no .i64 v_ fun a1 => gC Cl.no cs_ fun c_ cs_ => qS Cl.no c_ fun v_ => vS Cl.no v_ fun s2 => gC Cl.no cs_ fun c_ cs_ => qS Cl.no c_ fun v_ => vS Cl.no v_ fun s3 => gC Cl.no cs_ fun c_ cs_ => qS Cl.no c_ fun v_ => vI Cl.no .i64 v_ fun a4 => gC Cl.no cs_ fun c_ cs_ => qS Cl.no c_ fun v_ => vI Cl.no .i64 v_ fun a5 => gC Cl.no cs_ fun c_ cs_ => qS Cl.no c_ fun v_ => vI Cl.no .i64 v_ fun a6 => gC Cl.no cs_ fun c_ cs_ => qS Cl.no c_ fun v_ => vI Cl.no .i64 v_ fun a7 => gC Cl.no cs_ fun c_ cs_ => qS Cl.no c_ fun v_ => vB Cl.no v_ fun b8 => gC Cl.no cs_ fun c_ cs_ => qS Cl.no c_ fun v_ => vB Cl.no v_ fun b9 => gC Cl.no cs_ fun c_ cs_ => qSl Cl.no 5 c_ fun xs10 => gE Cl.no cs_ <| gC Cl.no ps_ fun p_ ps_ => qC Cl.no p_ fun c_ => qS Cl.no c_ fun v_ => vI Cl.no .i64 v_ fun a11 => gE Cl.no ps_ <| { α := Int ⊕ ((List S24) × Int), o := f17 k a1 s2 s3 a4 a5 a6 a7 b8 b9 xs10 a11, w := f17.w, nat := fun x _ => f17.wn x }
def f17.e (k : Nat) : Entry env := ⟨fun ps => f17.hd k (coer [[none, none, none, none, none, none, none, none, none, some 5], [none]] ps)⟩
def f17.X (k : Nat) : Ctx env := { C := lookE [(20, f20.e k), (83, f83.e k), (84, f84.e k)], L := lookE [], J := lookE [], keep := lookD [], keepX := lookD [], span := lookN [], eff := fun n => memN n [], prep := lookP [] }
theorem f17.nat {R : Type} (k : Nat) (g : (Int ⊕ ((List S24) × Int)) → Option R) (a1 : Int) (s2 : ByteArray) (s3 : ByteArray) (a4 : Int) (a5 : Int) (a6 : Int) (a7 : Int) (b8 : Bool) (b9 : Bool) (xs10 : List Int) (a11 : Int) : f17.step k g a1 s2 s3 a4 a5 a6 a7 b8 b9 xs10 a11 = (f17 k a1 s2 s3 a4 a5 a6 a7 b8 b9 xs10 a11).bind g := by
  simp only [f17, f17.step, bind_ite, bind_sum, Option.bind_assoc, Option.bind_some, Option.bind_none]
theorem f17.ev (k : Nat) (a1 : Int) (s2 : ByteArray) (s3 : ByteArray) (a4 : Int) (a5 : Int) (a6 : Int) (a7 : Int) (b8 : Bool) (b9 : Bool) (xs10 : List Int) (a11 : Int) : evF (f17.X k) (bodyOf Try.f17) Try.f17.ntmps Try.f17.results.toList [.g [.s (.int .i64 a1), .s (.string s2), .s (.string s3), .s (.int .i64 a4), .s (.int .i64 a5), .s (.int .i64 a6), .s (.int .i64 a7), .s (.bool b8), .s (.bool b9), .sl 5 xs10], .v (.c (.s (.int .i64 a11)))] = f17.step k (fun x => f17.w x some) a1 s2 s3 a4 a5 a6 a7 b8 b9 xs10 a11 := by kernel_rfl
theorem f17.hok (k : Nat) : HOK (f17.X k) (bodyOf Try.f17) where
  l := allP_mem (by exact trivial)
  j := allP_mem (by exact trivial)
theorem f17.sound0 (k : Nat) : SoundC env Try.prog 17 (f17.hd k) := by
  intro ps_
  show GoodC _ _ _ ps_ (f17.hd k ps_)
  unfold f17.hd
  refine gC_ok (p := GoodC env Try.prog 17 _) goodC_no fun _ _ h => ?_
  subst h
  refine qG_ok (p := GoodC env Try.prog 17 _) goodC_no fun _ h => ?_
  subst h
  refine gC_ok (p := GoodC env Try.prog 17 _) goodC_no fun _ _ h => ?_
  subst h
  refine qS_ok (p := GoodC env Try.prog 17 _) goodC_no fun _ h => ?_
  subst h
  refine vI_ok (p := GoodC env Try.prog 17 _) goodC_no fun _ h => ?_
  subst h
  refine gC_ok (p := GoodC env Try.prog 17 _) goodC_no fun _ _ h => ?_
  subst h
  refine qS_ok (p := GoodC env Try.prog 17 _) goodC_no fun _ h => ?_
  subst h
  refine vS_ok (p := GoodC env Try.prog 17 _) goodC_no fun _ h => ?_
  subst h
  refine gC_ok (p := GoodC env Try.prog 17 _) goodC_no fun _ _ h => ?_
  subst h
  refine qS_ok (p := GoodC env Try.prog 17 _) goodC_no fun _ h => ?_
  subst h
  refine vS_ok (p := GoodC env Try.prog 17 _) goodC_no fun _ h => ?_
  subst h
  refine gC_ok (p := GoodC env Try.prog 17 _) goodC_no fun _ _ h => ?_
  subst h
  refine qS_ok (p := GoodC env Try.prog 17 _) goodC_no fun _ h => ?_
  subst h
  refine vI_ok (p := GoodC env Try.prog 17 _) goodC_no fun _ h => ?_
  subst h
  refine gC_ok (p := GoodC env Try.prog 17 _) goodC_no fun _ _ h => ?_
  subst h
  refine qS_ok (p := GoodC env Try.prog 17 _) goodC_no fun _ h => ?_
  subst h
  refine vI_ok (p := GoodC env Try.prog 17 _) goodC_no fun _ h => ?_
  subst h
  refine gC_ok (p := GoodC env Try.prog 17 _) goodC_no fun _ _ h => ?_
  subst h
  refine qS_ok (p := GoodC env Try.prog 17 _) goodC_no fun _ h => ?_
  subst h
  refine vI_ok (p := GoodC env Try.prog 17 _) goodC_no fun _ h => ?_
  subst h
  refine gC_ok (p := GoodC env Try.prog 17 _) goodC_no fun _ _ h => ?_
  subst h
  refine qS_ok (p := GoodC env Try.prog 17 _) goodC_no fun _ h => ?_
  subst h
  refine vI_ok (p := GoodC env Try.prog 17 _) goodC_no fun _ h => ?_
  subst h
  refine gC_ok (p := GoodC env Try.prog 17 _) goodC_no fun _ _ h => ?_
  subst h
  refine qS_ok (p := GoodC env Try.prog 17 _) goodC_no fun _ h => ?_
  subst h
  refine vB_ok (p := GoodC env Try.prog 17 _) goodC_no fun _ h => ?_
  subst h
  refine gC_ok (p := GoodC env Try.prog 17 _) goodC_no fun _ _ h => ?_
  subst h
  refine qS_ok (p := GoodC env Try.prog 17 _) goodC_no fun _ h => ?_
  subst h
  refine vB_ok (p := GoodC env Try.prog 17 _) goodC_no fun _ h => ?_
  subst h
  refine gC_ok (p := GoodC env Try.prog 17 _) goodC_no fun _ _ h => ?_
  subst h
  refine qSl_ok (p := GoodC env Try.prog 17 _) goodC_no fun _ h => ?_
  subst h
  refine gE_ok (p := GoodC env Try.prog 17 _) goodC_no fun h => ?_
  subst h
  refine gC_ok (p := GoodC env Try.prog 17 _) goodC_no fun _ _ h => ?_
  subst h
  refine qC_ok (p := GoodC env Try.prog 17 _) goodC_no fun _ h => ?_
  subst h
  refine qS_ok (p := GoodC env Try.prog 17 _) goodC_no fun _ h => ?_
  subst h
  refine vI_ok (p := GoodC env Try.prog 17 _) goodC_no fun _ h => ?_
  subst h
  refine gE_ok (p := GoodC env Try.prog 17 _) goodC_no fun h => ?_
  subst h
  exact fun_good (fun_sound envOK (cs_sound _ (by exact ⟨⟨f20.sound k, f20.fnok⟩, ⟨f83.sound k, f83.fnok⟩, ⟨f84.sound k, f84.fnok⟩, trivial⟩)) (f17.hok k) Try.func17 rfl) ((f17.ev k _ _ _ _ _ _ _ _ _ _ _).trans (f17.nat k _ _ _ _ _ _ _ _ _ _ _ _))
theorem f17.sound (k : Nat) : SoundC env Try.prog 17 (f17.e k).F := soundC_coer (f17.sound0 k) [[none, none, none, none, none, none, none, none, none, some 5], [none]]
theorem f17.fnok : FnOK Try.prog 17 := fn_ok Try.func17 (by kernel_rfl) rfl
def f86.step {R : Type} (k : Nat) (ret : Bool → Option R) (a1 : Int) (a2 : Int) (a3 : Int) : Option R :=
  if (decide (a1 ≥ a2)) = true then
    ret (decide (a1 ≤ a3))
  else
    ret false
def f86 (k : Nat) (a1 : Int) (a2 : Int) (a3 : Int) : Option Bool := f86.step k some a1 a2 a3
def f86.w {R : Type} : Bool → (Res env → Option R) → Option R := fun t4 K => K ⟨.v (.c (.s (.bool t4))), [[], [], []]⟩
theorem f86.wn (x : Bool) : ∃ res, ∀ {R : Type} (K : Res env → Option R), f86.w x K = K res := by
  exact ⟨_, fun _ => rfl⟩
def f86.hd (k : Nat) (ps_ : List (P2 env)) : Cl env :=
  gC Cl.no ps_ fun p_ ps_ => qC Cl.no p_ fun c_ => qS Cl.no c_ fun v_ => vI Cl.no .i64 v_ fun a1 => gC Cl.no ps_ fun p_ ps_ => qC Cl.no p_ fun c_ => qS Cl.no c_ fun v_ => vI Cl.no .i64 v_ fun a2 => gC Cl.no ps_ fun p_ ps_ => qC Cl.no p_ fun c_ => qS Cl.no c_ fun v_ => vI Cl.no .i64 v_ fun a3 => gE Cl.no ps_ <| { α := Bool, o := f86 k a1 a2 a3, w := f86.w, nat := fun x _ => f86.wn x }
def f86.e (k : Nat) : Entry env := ⟨f86.hd k⟩
def f86.X (k : Nat) : Ctx env := { C := lookE [], L := lookE [], J := lookE [], keep := lookD [], keepX := lookD [], span := lookN [], eff := fun n => memN n [], prep := lookP [] }
theorem f86.nat {R : Type} (k : Nat) (g : Bool → Option R) (a1 : Int) (a2 : Int) (a3 : Int) : f86.step k g a1 a2 a3 = (f86 k a1 a2 a3).bind g := by
  simp only [f86, f86.step, bind_ite, bind_sum, Option.bind_assoc, Option.bind_some, Option.bind_none]
theorem f86.ev (k : Nat) (a1 : Int) (a2 : Int) (a3 : Int) : evF (f86.X k) (bodyOf Try.f86) Try.f86.ntmps Try.f86.results.toList [.v (.c (.s (.int .i64 a1))), .v (.c (.s (.int .i64 a2))), .v (.c (.s (.int .i64 a3)))] = f86.step k (fun x => f86.w x some) a1 a2 a3 := by kernel_rfl
theorem f86.hok (k : Nat) : HOK (f86.X k) (bodyOf Try.f86) where
  l := allP_mem (by exact trivial)
  j := allP_mem (by exact trivial)
theorem f86.sound (k : Nat) : SoundC env Try.prog 86 ((f86.e k).F) := by
  intro ps_
  show GoodC _ _ _ ps_ (f86.hd k ps_)
  unfold f86.hd
  refine gC_ok (p := GoodC env Try.prog 86 _) goodC_no fun _ _ h => ?_
  subst h
  refine qC_ok (p := GoodC env Try.prog 86 _) goodC_no fun _ h => ?_
  subst h
  refine qS_ok (p := GoodC env Try.prog 86 _) goodC_no fun _ h => ?_
  subst h
  refine vI_ok (p := GoodC env Try.prog 86 _) goodC_no fun _ h => ?_
  subst h
  refine gC_ok (p := GoodC env Try.prog 86 _) goodC_no fun _ _ h => ?_
  subst h
  refine qC_ok (p := GoodC env Try.prog 86 _) goodC_no fun _ h => ?_
  subst h
  refine qS_ok (p := GoodC env Try.prog 86 _) goodC_no fun _ h => ?_
  subst h
  refine vI_ok (p := GoodC env Try.prog 86 _) goodC_no fun _ h => ?_
  subst h
  refine gC_ok (p := GoodC env Try.prog 86 _) goodC_no fun _ _ h => ?_
  subst h
  refine qC_ok (p := GoodC env Try.prog 86 _) goodC_no fun _ h => ?_
  subst h
  refine qS_ok (p := GoodC env Try.prog 86 _) goodC_no fun _ h => ?_
  subst h
  refine vI_ok (p := GoodC env Try.prog 86 _) goodC_no fun _ h => ?_
  subst h
  refine gE_ok (p := GoodC env Try.prog 86 _) goodC_no fun h => ?_
  subst h
  exact fun_good (fun_sound envOK (cs_sound _ (by exact trivial)) (f86.hok k) Try.func86 rfl) ((f86.ev k _ _ _).trans (f86.nat k _ _ _ _))
theorem f86.says (k : Nat) (a1 : Int) (a2 : Int) (a3 : Int) (t5 : Bool) (h_ : f86 k a1 a2 a3 = some t5) : SoundAt env Try.prog 86 [.v (.c (.s (.int .i64 a1))), .v (.c (.s (.int .i64 a2))), .v (.c (.s (.int .i64 a3)))] ⟨.v (.c (.s (.bool t5))), [[], [], []]⟩ :=
  fun_sound envOK (cs_sound _ (by exact trivial)) (f86.hok k) Try.func86 rfl _ _ (((f86.ev k a1 a2 a3).trans (f86.nat k _ a1 a2 a3)).trans (by rw [h_]; rfl))
theorem f86.fnok : FnOK Try.prog 86 := fn_ok Try.func86 (by kernel_rfl) rfl
def f85.step {R : Type} (k : Nat) (ret : Bool → Option R) (a1 : Int) (s2 : ByteArray) (s3 : ByteArray) (a4 : Int) (a5 : Int) (a6 : Int) (a7 : Int) (b8 : Bool) (b9 : Bool) (xs10 : List Int) : Option R :=
  if (decide ((((List.length xs10) : Nat) : Int) > (1500 : Int))) = false then
    (f86 k a4 (0 : Int) (255 : Int)).bind fun t11 => if (!t11) = false then
        (f86 k a5 (0 : Int) (255 : Int)).bind fun t12 => if (!t12) = true then
            ret false
          else
            if (decide (a1 = (4 : Int))) = true then
              if (decide ((((ByteArray.size s2) : Nat) : Int) = (4 : Int))) = true then
                if (decide ((((ByteArray.size s3) : Nat) : Int) = (4 : Int))) = true then
                  (f86 k a6 (0 : Int) (65535 : Int)).bind fun t13 => if t13 = true then
                      (f86 k a7 (0 : Int) (8191 : Int)).bind fun t14 => if t14 = true then
                          if b9 = true then
                            if b8 = false then
                              if (!(decide (a7 > (0 : Int)))) = true then
                                if (!b8) = false then
                                  if (decide ((Int.tmod (((List.length xs10) : Nat) : Int) (8 : Int)) = (0 : Int))) = true then
                                    if (decide ((((List.length xs10) : Nat) : Int) > (0 : Int))) = true then
                                      ret (decide ((IntKind.i64.wrap ((IntKind.i64.wrap ((8 : Int) * a7)) + (((List.length xs10) : Nat) : Int))) ≤ (65515 : Int)))
                                    else
                                      ret false
                                  else
                                    ret false
                                else
                                  ret (decide ((IntKind.i64.wrap ((IntKind.i64.wrap ((8 : Int) * a7)) + (((List.length xs10) : Nat) : Int))) ≤ (65515 : Int)))
                              else
                                ret false
                            else
                              ret false
                          else
                            if (!b8) = false then
                              if (decide ((Int.tmod (((List.length xs10) : Nat) : Int) (8 : Int)) = (0 : Int))) = true then
                                if (decide ((((List.length xs10) : Nat) : Int) > (0 : Int))) = true then
                                  ret (decide ((IntKind.i64.wrap ((IntKind.i64.wrap ((8 : Int) * a7)) + (((List.length xs10) : Nat) : Int))) ≤ (65515 : Int)))
                                else
                                  ret false
                              else
                                ret false
                            else
                              ret (decide ((IntKind.i64.wrap ((IntKind.i64.wrap ((8 : Int) * a7)) + (((List.length xs10) : Nat) : Int))) ≤ (65515 : Int)))
                        else
                          ret false
                    else
                      ret false
                else
                  ret false
              else
                ret false
            else
              if (decide (a1 = (6 : Int))) = true then
                if (decide ((((ByteArray.size s2) : Nat) : Int) = (16 : Int))) = true then
                  if (decide ((((ByteArray.size s3) : Nat) : Int) = (16 : Int))) = true then
                    if (decide (a6 = (0 : Int))) = true then
                      if (decide (a7 = (0 : Int))) = true then
                        if (!b8) = true then
                          ret (!b9)
                        else
                          ret false
                      else
                        ret false
                    else
                      ret false
                  else
                    ret false
                else
                  ret false
              else
                ret false
      else
        ret false
  else
    ret false
def f85 (k : Nat) (a1 : Int) (s2 : ByteArray) (s3 : ByteArray) (a4 : Int) (a5 : Int) (a6 : Int) (a7 : Int) (b8 : Bool) (b9 : Bool) (xs10 : List Int) : Option Bool := f85.step k some a1 s2 s3 a4 a5 a6 a7 b8 b9 xs10
def f85.w {R : Type} : Bool → (Res env → Option R) → Option R := fun t15 K => K ⟨.v (.c (.s (.bool t15))), [[]]⟩
theorem f85.wn (x : Bool) : ∃ res, ∀ {R : Type} (K : Res env → Option R), f85.w x K = K res := by
  exact ⟨_, fun _ => rfl⟩
def f85.hd (k : Nat) (ps_ : List (P2 env)) : Cl env :=
  gC Cl.no ps_ fun p_ ps_ => qG Cl.no p_ fun cs_ => gC Cl.no cs_ fun c_ cs_ => qS Cl.no c_ fun v_ => vI Cl.no .i64 v_ fun a1 => gC Cl.no cs_ fun c_ cs_ => qS Cl.no c_ fun v_ => vS Cl.no v_ fun s2 => gC Cl.no cs_ fun c_ cs_ => qS Cl.no c_ fun v_ => vS Cl.no v_ fun s3 => gC Cl.no cs_ fun c_ cs_ => qS Cl.no c_ fun v_ => vI Cl.no .i64 v_ fun a4 => gC Cl.no cs_ fun c_ cs_ => qS Cl.no c_ fun v_ => vI Cl.no .i64 v_ fun a5 => gC Cl.no cs_ fun c_ cs_ => qS Cl.no c_ fun v_ => vI Cl.no .i64 v_ fun a6 => gC Cl.no cs_ fun c_ cs_ => qS Cl.no c_ fun v_ => vI Cl.no .i64 v_ fun a7 => gC Cl.no cs_ fun c_ cs_ => qS Cl.no c_ fun v_ => vB Cl.no v_ fun b8 => gC Cl.no cs_ fun c_ cs_ => qS Cl.no c_ fun v_ => vB Cl.no v_ fun b9 => gC Cl.no cs_ fun c_ cs_ => qSl Cl.no 5 c_ fun xs10 => gE Cl.no cs_ <| gE Cl.no ps_ <| { α := Bool, o := f85 k a1 s2 s3 a4 a5 a6 a7 b8 b9 xs10, w := f85.w, nat := fun x _ => f85.wn x }
def f85.e (k : Nat) : Entry env := ⟨fun ps => f85.hd k (coer [[none, none, none, none, none, none, none, none, none, some 5]] ps)⟩
def f85.X (k : Nat) : Ctx env := { C := lookE [(86, f86.e k)], L := lookE [], J := lookE [], keep := lookD [], keepX := lookD [], span := lookN [], eff := fun n => memN n [], prep := lookP [] }
theorem f85.nat {R : Type} (k : Nat) (g : Bool → Option R) (a1 : Int) (s2 : ByteArray) (s3 : ByteArray) (a4 : Int) (a5 : Int) (a6 : Int) (a7 : Int) (b8 : Bool) (b9 : Bool) (xs10 : List Int) : f85.step k g a1 s2 s3 a4 a5 a6 a7 b8 b9 xs10 = (f85 k a1 s2 s3 a4 a5 a6 a7 b8 b9 xs10).bind g := by
  simp only [f85, f85.step, bind_ite, bind_sum, Option.bind_assoc, Option.bind_some, Option.bind_none]
theorem f85.ev (k : Nat) (a1 : Int) (s2 : ByteArray) (s3 : ByteArray) (a4 : Int) (a5 : Int) (a6 : Int) (a7 : Int) (b8 : Bool) (b9 : Bool) (xs10 : List Int) : evF (f85.X k) (bodyOf Try.f85) Try.f85.ntmps Try.f85.results.toList [.g [.s (.int .i64 a1), .s (.string s2), .s (.string s3), .s (.int .i64 a4), .s (.int .i64 a5), .s (.int .i64 a6), .s (.int .i64 a7), .s (.bool b8), .s (.bool b9), .sl 5 xs10]] = f85.step k (fun x => f85.w x some) a1 s2 s3 a4 a5 a6 a7 b8 b9 xs10 := by kernel_rfl
theorem f85.hok (k : Nat) : HOK (f85.X k) (bodyOf Try.f85) where
  l := allP_mem (by exact trivial)
  j := allP_mem (by exact trivial)
theorem f85.sound0 (k : Nat) : SoundC env Try.prog 85 (f85.hd k) := by
  intro ps_
  show GoodC _ _ _ ps_ (f85.hd k ps_)
  unfold f85.hd
  refine gC_ok (p := GoodC env Try.prog 85 _) goodC_no fun _ _ h => ?_
  subst h
  refine qG_ok (p := GoodC env Try.prog 85 _) goodC_no fun _ h => ?_
  subst h
  refine gC_ok (p := GoodC env Try.prog 85 _) goodC_no fun _ _ h => ?_
  subst h
  refine qS_ok (p := GoodC env Try.prog 85 _) goodC_no fun _ h => ?_
  subst h
  refine vI_ok (p := GoodC env Try.prog 85 _) goodC_no fun _ h => ?_
  subst h
  refine gC_ok (p := GoodC env Try.prog 85 _) goodC_no fun _ _ h => ?_
  subst h
  refine qS_ok (p := GoodC env Try.prog 85 _) goodC_no fun _ h => ?_
  subst h
  refine vS_ok (p := GoodC env Try.prog 85 _) goodC_no fun _ h => ?_
  subst h
  refine gC_ok (p := GoodC env Try.prog 85 _) goodC_no fun _ _ h => ?_
  subst h
  refine qS_ok (p := GoodC env Try.prog 85 _) goodC_no fun _ h => ?_
  subst h
  refine vS_ok (p := GoodC env Try.prog 85 _) goodC_no fun _ h => ?_
  subst h
  refine gC_ok (p := GoodC env Try.prog 85 _) goodC_no fun _ _ h => ?_
  subst h
  refine qS_ok (p := GoodC env Try.prog 85 _) goodC_no fun _ h => ?_
  subst h
  refine vI_ok (p := GoodC env Try.prog 85 _) goodC_no fun _ h => ?_
  subst h
  refine gC_ok (p := GoodC env Try.prog 85 _) goodC_no fun _ _ h => ?_
  subst h
  refine qS_ok (p := GoodC env Try.prog 85 _) goodC_no fun _ h => ?_
  subst h
  refine vI_ok (p := GoodC env Try.prog 85 _) goodC_no fun _ h => ?_
  subst h
  refine gC_ok (p := GoodC env Try.prog 85 _) goodC_no fun _ _ h => ?_
  subst h
  refine qS_ok (p := GoodC env Try.prog 85 _) goodC_no fun _ h => ?_
  subst h
  refine vI_ok (p := GoodC env Try.prog 85 _) goodC_no fun _ h => ?_
  subst h
  refine gC_ok (p := GoodC env Try.prog 85 _) goodC_no fun _ _ h => ?_
  subst h
  refine qS_ok (p := GoodC env Try.prog 85 _) goodC_no fun _ h => ?_
  subst h
  refine vI_ok (p := GoodC env Try.prog 85 _) goodC_no fun _ h => ?_
  subst h
  refine gC_ok (p := GoodC env Try.prog 85 _) goodC_no fun _ _ h => ?_
  subst h
  refine qS_ok (p := GoodC env Try.prog 85 _) goodC_no fun _ h => ?_
  subst h
  refine vB_ok (p := GoodC env Try.prog 85 _) goodC_no fun _ h => ?_
  subst h
  refine gC_ok (p := GoodC env Try.prog 85 _) goodC_no fun _ _ h => ?_
  subst h
  refine qS_ok (p := GoodC env Try.prog 85 _) goodC_no fun _ h => ?_
  subst h
  refine vB_ok (p := GoodC env Try.prog 85 _) goodC_no fun _ h => ?_
  subst h
  refine gC_ok (p := GoodC env Try.prog 85 _) goodC_no fun _ _ h => ?_
  subst h
  refine qSl_ok (p := GoodC env Try.prog 85 _) goodC_no fun _ h => ?_
  subst h
  refine gE_ok (p := GoodC env Try.prog 85 _) goodC_no fun h => ?_
  subst h
  refine gE_ok (p := GoodC env Try.prog 85 _) goodC_no fun h => ?_
  subst h
  exact fun_good (fun_sound envOK (cs_sound _ (by exact ⟨⟨f86.sound k, f86.fnok⟩, trivial⟩)) (f85.hok k) Try.func85 rfl) ((f85.ev k _ _ _ _ _ _ _ _ _ _).trans (f85.nat k _ _ _ _ _ _ _ _ _ _ _))
theorem f85.sound (k : Nat) : SoundC env Try.prog 85 (f85.e k).F := soundC_coer (f85.sound0 k) [[none, none, none, none, none, none, none, none, none, some 5]]
theorem f85.says (k : Nat) (a1 : Int) (s2 : ByteArray) (s3 : ByteArray) (a4 : Int) (a5 : Int) (a6 : Int) (a7 : Int) (b8 : Bool) (b9 : Bool) (xs10 : List Int) (t16 : Bool) (h_ : f85 k a1 s2 s3 a4 a5 a6 a7 b8 b9 xs10 = some t16) : SoundAt env Try.prog 85 [.g [.s (.int .i64 a1), .s (.string s2), .s (.string s3), .s (.int .i64 a4), .s (.int .i64 a5), .s (.int .i64 a6), .s (.int .i64 a7), .s (.bool b8), .s (.bool b9), .sl 5 xs10]] ⟨.v (.c (.s (.bool t16))), [[]]⟩ :=
  fun_sound envOK (cs_sound _ (by exact ⟨⟨f86.sound k, f86.fnok⟩, trivial⟩)) (f85.hok k) Try.func85 rfl _ _ (((f85.ev k a1 s2 s3 a4 a5 a6 a7 b8 b9 xs10).trans (f85.nat k _ a1 s2 s3 a4 a5 a6 a7 b8 b9 xs10)).trans (by rw [h_]; rfl))
theorem f85.fnok : FnOK Try.prog 85 := fn_ok Try.func85 (by kernel_rfl) rfl
def f146.step {R : Type} (k : Nat) (ret : (Int × ByteArray × ByteArray × Int × Int × Int × Int × Bool × Bool × (List Int)) → Option R) (a1 : Int) (s2 : ByteArray) (s3 : ByteArray) (a4 : Int) (a5 : Int) (a6 : Int) (a7 : Int) (b8 : Bool) (b9 : Bool) (xs10 : List Int) : Option R :=
  if (List.length ([] : List Int) + List.length xs10) * 1 ≤ maxN then
    ret (a1, s2, s3, a4, a5, a6, a7, b8, b9, (([] : List Int) ++ xs10))
  else none
def f146 (k : Nat) (a1 : Int) (s2 : ByteArray) (s3 : ByteArray) (a4 : Int) (a5 : Int) (a6 : Int) (a7 : Int) (b8 : Bool) (b9 : Bool) (xs10 : List Int) : Option (Int × ByteArray × ByteArray × Int × Int × Int × Int × Bool × Bool × (List Int)) := f146.step k some a1 s2 s3 a4 a5 a6 a7 b8 b9 xs10
def f146.w {R : Type} : (Int × ByteArray × ByteArray × Int × Int × Int × Int × Bool × Bool × (List Int)) → (Res env → Option R) → Option R := fun t11 K => K ⟨.v (.g [.s (.int .i64 t11.1), .s (.string t11.2.1), .s (.string t11.2.2.1), .s (.int .i64 t11.2.2.2.1), .s (.int .i64 t11.2.2.2.2.1), .s (.int .i64 t11.2.2.2.2.2.1), .s (.int .i64 t11.2.2.2.2.2.2.1), .s (.bool t11.2.2.2.2.2.2.2.1), .s (.bool t11.2.2.2.2.2.2.2.2.1), .own true 5 t11.2.2.2.2.2.2.2.2.2]), [[]]⟩
theorem f146.wn (x : (Int × ByteArray × ByteArray × Int × Int × Int × Int × Bool × Bool × (List Int))) : ∃ res, ∀ {R : Type} (K : Res env → Option R), f146.w x K = K res := by
  exact ⟨_, fun _ => rfl⟩
def f146.hd (k : Nat) (ps_ : List (P2 env)) : Cl env :=
  gC Cl.no ps_ fun p_ ps_ => qG Cl.no p_ fun cs_ => gC Cl.no cs_ fun c_ cs_ => qS Cl.no c_ fun v_ => vI Cl.no .i64 v_ fun a1 => gC Cl.no cs_ fun c_ cs_ => qS Cl.no c_ fun v_ => vS Cl.no v_ fun s2 => gC Cl.no cs_ fun c_ cs_ => qS Cl.no c_ fun v_ => vS Cl.no v_ fun s3 => gC Cl.no cs_ fun c_ cs_ => qS Cl.no c_ fun v_ => vI Cl.no .i64 v_ fun a4 => gC Cl.no cs_ fun c_ cs_ => qS Cl.no c_ fun v_ => vI Cl.no .i64 v_ fun a5 => gC Cl.no cs_ fun c_ cs_ => qS Cl.no c_ fun v_ => vI Cl.no .i64 v_ fun a6 => gC Cl.no cs_ fun c_ cs_ => qS Cl.no c_ fun v_ => vI Cl.no .i64 v_ fun a7 => gC Cl.no cs_ fun c_ cs_ => qS Cl.no c_ fun v_ => vB Cl.no v_ fun b8 => gC Cl.no cs_ fun c_ cs_ => qS Cl.no c_ fun v_ => vB Cl.no v_ fun b9 => gC Cl.no cs_ fun c_ cs_ => qSl Cl.no 5 c_ fun xs10 => gE Cl.no cs_ <| gE Cl.no ps_ <| { α := Int × ByteArray × ByteArray × Int × Int × Int × Int × Bool × Bool × (List Int), o := f146 k a1 s2 s3 a4 a5 a6 a7 b8 b9 xs10, w := f146.w, nat := fun x _ => f146.wn x }
def f146.e (k : Nat) : Entry env := ⟨fun ps => f146.hd k (coer [[none, none, none, none, none, none, none, none, none, some 5]] ps)⟩
def f146.X (k : Nat) : Ctx env := { C := lookE [], L := lookE [], J := lookE [], keep := lookD [], keepX := lookD [], span := lookN [], eff := fun n => memN n [], prep := lookP [] }
theorem f146.nat {R : Type} (k : Nat) (g : (Int × ByteArray × ByteArray × Int × Int × Int × Int × Bool × Bool × (List Int)) → Option R) (a1 : Int) (s2 : ByteArray) (s3 : ByteArray) (a4 : Int) (a5 : Int) (a6 : Int) (a7 : Int) (b8 : Bool) (b9 : Bool) (xs10 : List Int) : f146.step k g a1 s2 s3 a4 a5 a6 a7 b8 b9 xs10 = (f146 k a1 s2 s3 a4 a5 a6 a7 b8 b9 xs10).bind g := by
  simp only [f146, f146.step, bind_ite, bind_sum, Option.bind_assoc, Option.bind_some, Option.bind_none]
theorem f146.ev (k : Nat) (a1 : Int) (s2 : ByteArray) (s3 : ByteArray) (a4 : Int) (a5 : Int) (a6 : Int) (a7 : Int) (b8 : Bool) (b9 : Bool) (xs10 : List Int) : evF (f146.X k) (bodyOf Try.f146) Try.f146.ntmps Try.f146.results.toList [.g [.s (.int .i64 a1), .s (.string s2), .s (.string s3), .s (.int .i64 a4), .s (.int .i64 a5), .s (.int .i64 a6), .s (.int .i64 a7), .s (.bool b8), .s (.bool b9), .sl 5 xs10]] = f146.step k (fun x => f146.w x some) a1 s2 s3 a4 a5 a6 a7 b8 b9 xs10 := by kernel_rfl
theorem f146.hok (k : Nat) : HOK (f146.X k) (bodyOf Try.f146) where
  l := allP_mem (by exact trivial)
  j := allP_mem (by exact trivial)
theorem f146.sound0 (k : Nat) : SoundC env Try.prog 146 (f146.hd k) := by
  intro ps_
  show GoodC _ _ _ ps_ (f146.hd k ps_)
  unfold f146.hd
  refine gC_ok (p := GoodC env Try.prog 146 _) goodC_no fun _ _ h => ?_
  subst h
  refine qG_ok (p := GoodC env Try.prog 146 _) goodC_no fun _ h => ?_
  subst h
  refine gC_ok (p := GoodC env Try.prog 146 _) goodC_no fun _ _ h => ?_
  subst h
  refine qS_ok (p := GoodC env Try.prog 146 _) goodC_no fun _ h => ?_
  subst h
  refine vI_ok (p := GoodC env Try.prog 146 _) goodC_no fun _ h => ?_
  subst h
  refine gC_ok (p := GoodC env Try.prog 146 _) goodC_no fun _ _ h => ?_
  subst h
  refine qS_ok (p := GoodC env Try.prog 146 _) goodC_no fun _ h => ?_
  subst h
  refine vS_ok (p := GoodC env Try.prog 146 _) goodC_no fun _ h => ?_
  subst h
  refine gC_ok (p := GoodC env Try.prog 146 _) goodC_no fun _ _ h => ?_
  subst h
  refine qS_ok (p := GoodC env Try.prog 146 _) goodC_no fun _ h => ?_
  subst h
  refine vS_ok (p := GoodC env Try.prog 146 _) goodC_no fun _ h => ?_
  subst h
  refine gC_ok (p := GoodC env Try.prog 146 _) goodC_no fun _ _ h => ?_
  subst h
  refine qS_ok (p := GoodC env Try.prog 146 _) goodC_no fun _ h => ?_
  subst h
  refine vI_ok (p := GoodC env Try.prog 146 _) goodC_no fun _ h => ?_
  subst h
  refine gC_ok (p := GoodC env Try.prog 146 _) goodC_no fun _ _ h => ?_
  subst h
  refine qS_ok (p := GoodC env Try.prog 146 _) goodC_no fun _ h => ?_
  subst h
  refine vI_ok (p := GoodC env Try.prog 146 _) goodC_no fun _ h => ?_
  subst h
  refine gC_ok (p := GoodC env Try.prog 146 _) goodC_no fun _ _ h => ?_
  subst h
  refine qS_ok (p := GoodC env Try.prog 146 _) goodC_no fun _ h => ?_
  subst h
  refine vI_ok (p := GoodC env Try.prog 146 _) goodC_no fun _ h => ?_
  subst h
  refine gC_ok (p := GoodC env Try.prog 146 _) goodC_no fun _ _ h => ?_
  subst h
  refine qS_ok (p := GoodC env Try.prog 146 _) goodC_no fun _ h => ?_
  subst h
  refine vI_ok (p := GoodC env Try.prog 146 _) goodC_no fun _ h => ?_
  subst h
  refine gC_ok (p := GoodC env Try.prog 146 _) goodC_no fun _ _ h => ?_
  subst h
  refine qS_ok (p := GoodC env Try.prog 146 _) goodC_no fun _ h => ?_
  subst h
  refine vB_ok (p := GoodC env Try.prog 146 _) goodC_no fun _ h => ?_
  subst h
  refine gC_ok (p := GoodC env Try.prog 146 _) goodC_no fun _ _ h => ?_
  subst h
  refine qS_ok (p := GoodC env Try.prog 146 _) goodC_no fun _ h => ?_
  subst h
  refine vB_ok (p := GoodC env Try.prog 146 _) goodC_no fun _ h => ?_
  subst h
  refine gC_ok (p := GoodC env Try.prog 146 _) goodC_no fun _ _ h => ?_
  subst h
  refine qSl_ok (p := GoodC env Try.prog 146 _) goodC_no fun _ h => ?_
  subst h
  refine gE_ok (p := GoodC env Try.prog 146 _) goodC_no fun h => ?_
  subst h
  refine gE_ok (p := GoodC env Try.prog 146 _) goodC_no fun h => ?_
  subst h
  exact fun_good (fun_sound envOK (cs_sound _ (by exact trivial)) (f146.hok k) Try.func146 rfl) ((f146.ev k _ _ _ _ _ _ _ _ _ _).trans (f146.nat k _ _ _ _ _ _ _ _ _ _ _))
theorem f146.sound (k : Nat) : SoundC env Try.prog 146 (f146.e k).F := soundC_coer (f146.sound0 k) [[none, none, none, none, none, none, none, none, none, some 5]]
theorem f146.says (k : Nat) (a1 : Int) (s2 : ByteArray) (s3 : ByteArray) (a4 : Int) (a5 : Int) (a6 : Int) (a7 : Int) (b8 : Bool) (b9 : Bool) (xs10 : List Int) (t12 : Int × ByteArray × ByteArray × Int × Int × Int × Int × Bool × Bool × (List Int)) (h_ : f146 k a1 s2 s3 a4 a5 a6 a7 b8 b9 xs10 = some t12) : SoundAt env Try.prog 146 [.g [.s (.int .i64 a1), .s (.string s2), .s (.string s3), .s (.int .i64 a4), .s (.int .i64 a5), .s (.int .i64 a6), .s (.int .i64 a7), .s (.bool b8), .s (.bool b9), .sl 5 xs10]] ⟨.v (.g [.s (.int .i64 t12.1), .s (.string t12.2.1), .s (.string t12.2.2.1), .s (.int .i64 t12.2.2.2.1), .s (.int .i64 t12.2.2.2.2.1), .s (.int .i64 t12.2.2.2.2.2.1), .s (.int .i64 t12.2.2.2.2.2.2.1), .s (.bool t12.2.2.2.2.2.2.2.1), .s (.bool t12.2.2.2.2.2.2.2.2.1), .own true 5 t12.2.2.2.2.2.2.2.2.2]), [[]]⟩ :=
  fun_sound envOK (cs_sound _ (by exact trivial)) (f146.hok k) Try.func146 rfl _ _ (((f146.ev k a1 s2 s3 a4 a5 a6 a7 b8 b9 xs10).trans (f146.nat k _ a1 s2 s3 a4 a5 a6 a7 b8 b9 xs10)).trans (by rw [h_]; rfl))
theorem f146.fnok : FnOK Try.prog 146 := fn_ok Try.func146 (by kernel_rfl) rfl
def f87.l6.step {R : Type} (k : Nat) (rec_ : Int → Int → Int → Int → ByteArray → ByteArray → Int → Int → Int → Int → Bool → Bool → (List Int) → (List S24) → Option R) (ret : ((List S24)) → Option R) (a13 : Int) (a14 : Int) (a15 : Int) (a16 : Int) (s17 : ByteArray) (s18 : ByteArray) (a19 : Int) (a20 : Int) (a21 : Int) (a22 : Int) (b23 : Bool) (b24 : Bool) (xs25 : List Int) (xs26 : List S24) : Option R :=
  if (decide (a15 < (((List.length xs25) : Nat) : Int))) = true then
    if (decide ((IntKind.i64.wrap ((((List.length xs25) : Nat) : Int) - a15)) ≤ (IntKind.i64.wrap (a13 - (20 : Int))))) = true then
      if (0 : Int) ≤ a15 then
        if a15 ≤ (((List.length xs25) : Nat) : Int) then
          if (((List.length xs25) : Nat) : Int) ≤ ((List.length xs25 : Nat) : Int) then
            if (List.length ([] : List Int) + List.length (List.drop (Int.toNat a15) (List.take (Int.toNat (((List.length xs25) : Nat) : Int)) xs25))) * 1 ≤ maxN then
              if b23 = false then
                if (List.length xs26 + List.length ([(⟨a16, s17, s18, a19, a20, a21, (IntKind.i64.wrap (a22 + (IntKind.i64.wrap (Int.tdiv a15 (8 : Int))))), (decide ((((List.length xs25) : Nat) : Int) < (((List.length xs25) : Nat) : Int))), b24, (([] : List Int) ++ (List.drop (Int.toNat a15) (List.take (Int.toNat (((List.length xs25) : Nat) : Int)) xs25)))⟩ : S24)] : List S24)) * 104 ≤ maxN then
                  rec_ a13 (IntKind.i64.wrap ((((List.length xs25) : Nat) : Int) - a15)) (IntKind.i64.wrap (a15 + (IntKind.i64.wrap ((((List.length xs25) : Nat) : Int) - a15)))) a16 s17 s18 a19 a20 a21 a22 b23 b24 xs25 (xs26 ++ ([(⟨a16, s17, s18, a19, a20, a21, (IntKind.i64.wrap (a22 + (IntKind.i64.wrap (Int.tdiv a15 (8 : Int))))), (decide ((((List.length xs25) : Nat) : Int) < (((List.length xs25) : Nat) : Int))), b24, (([] : List Int) ++ (List.drop (Int.toNat a15) (List.take (Int.toNat (((List.length xs25) : Nat) : Int)) xs25)))⟩ : S24)] : List S24))
                else none
              else
                if (List.length xs26 + List.length ([(⟨a16, s17, s18, a19, a20, a21, (IntKind.i64.wrap (a22 + (IntKind.i64.wrap (Int.tdiv a15 (8 : Int))))), true, b24, (([] : List Int) ++ (List.drop (Int.toNat a15) (List.take (Int.toNat (((List.length xs25) : Nat) : Int)) xs25)))⟩ : S24)] : List S24)) * 104 ≤ maxN then
                  rec_ a13 (IntKind.i64.wrap ((((List.length xs25) : Nat) : Int) - a15)) (IntKind.i64.wrap (a15 + (IntKind.i64.wrap ((((List.length xs25) : Nat) : Int) - a15)))) a16 s17 s18 a19 a20 a21 a22 b23 b24 xs25 (xs26 ++ ([(⟨a16, s17, s18, a19, a20, a21, (IntKind.i64.wrap (a22 + (IntKind.i64.wrap (Int.tdiv a15 (8 : Int))))), true, b24, (([] : List Int) ++ (List.drop (Int.toNat a15) (List.take (Int.toNat (((List.length xs25) : Nat) : Int)) xs25)))⟩ : S24)] : List S24))
                else none
            else none
          else none
        else none
      else none
    else
      if (0 : Int) ≤ a15 then
        if a15 ≤ (if (((List.length xs25) : Nat) : Int) < (IntKind.i64.wrap (a15 + a14)) then (((List.length xs25) : Nat) : Int) else (IntKind.i64.wrap (a15 + a14))) then
          if (if (((List.length xs25) : Nat) : Int) < (IntKind.i64.wrap (a15 + a14)) then (((List.length xs25) : Nat) : Int) else (IntKind.i64.wrap (a15 + a14))) ≤ ((List.length xs25 : Nat) : Int) then
            if (List.length ([] : List Int) + List.length (List.drop (Int.toNat a15) (List.take (Int.toNat (if (((List.length xs25) : Nat) : Int) < (IntKind.i64.wrap (a15 + a14)) then (((List.length xs25) : Nat) : Int) else (IntKind.i64.wrap (a15 + a14)))) xs25))) * 1 ≤ maxN then
              if b23 = false then
                if (List.length xs26 + List.length ([(⟨a16, s17, s18, a19, a20, a21, (IntKind.i64.wrap (a22 + (IntKind.i64.wrap (Int.tdiv a15 (8 : Int))))), (decide ((if (((List.length xs25) : Nat) : Int) < (IntKind.i64.wrap (a15 + a14)) then (((List.length xs25) : Nat) : Int) else (IntKind.i64.wrap (a15 + a14))) < (((List.length xs25) : Nat) : Int))), b24, (([] : List Int) ++ (List.drop (Int.toNat a15) (List.take (Int.toNat (if (((List.length xs25) : Nat) : Int) < (IntKind.i64.wrap (a15 + a14)) then (((List.length xs25) : Nat) : Int) else (IntKind.i64.wrap (a15 + a14)))) xs25)))⟩ : S24)] : List S24)) * 104 ≤ maxN then
                  rec_ a13 a14 (IntKind.i64.wrap (a15 + a14)) a16 s17 s18 a19 a20 a21 a22 b23 b24 xs25 (xs26 ++ ([(⟨a16, s17, s18, a19, a20, a21, (IntKind.i64.wrap (a22 + (IntKind.i64.wrap (Int.tdiv a15 (8 : Int))))), (decide ((if (((List.length xs25) : Nat) : Int) < (IntKind.i64.wrap (a15 + a14)) then (((List.length xs25) : Nat) : Int) else (IntKind.i64.wrap (a15 + a14))) < (((List.length xs25) : Nat) : Int))), b24, (([] : List Int) ++ (List.drop (Int.toNat a15) (List.take (Int.toNat (if (((List.length xs25) : Nat) : Int) < (IntKind.i64.wrap (a15 + a14)) then (((List.length xs25) : Nat) : Int) else (IntKind.i64.wrap (a15 + a14)))) xs25)))⟩ : S24)] : List S24))
                else none
              else
                if (List.length xs26 + List.length ([(⟨a16, s17, s18, a19, a20, a21, (IntKind.i64.wrap (a22 + (IntKind.i64.wrap (Int.tdiv a15 (8 : Int))))), true, b24, (([] : List Int) ++ (List.drop (Int.toNat a15) (List.take (Int.toNat (if (((List.length xs25) : Nat) : Int) < (IntKind.i64.wrap (a15 + a14)) then (((List.length xs25) : Nat) : Int) else (IntKind.i64.wrap (a15 + a14)))) xs25)))⟩ : S24)] : List S24)) * 104 ≤ maxN then
                  rec_ a13 a14 (IntKind.i64.wrap (a15 + a14)) a16 s17 s18 a19 a20 a21 a22 b23 b24 xs25 (xs26 ++ ([(⟨a16, s17, s18, a19, a20, a21, (IntKind.i64.wrap (a22 + (IntKind.i64.wrap (Int.tdiv a15 (8 : Int))))), true, b24, (([] : List Int) ++ (List.drop (Int.toNat a15) (List.take (Int.toNat (if (((List.length xs25) : Nat) : Int) < (IntKind.i64.wrap (a15 + a14)) then (((List.length xs25) : Nat) : Int) else (IntKind.i64.wrap (a15 + a14)))) xs25)))⟩ : S24)] : List S24))
                else none
            else none
          else none
        else none
      else none
  else
    ret xs26
def f87.l6 (k : Nat) : Nat → Int → Int → Int → Int → ByteArray → ByteArray → Int → Int → Int → Int → Bool → Bool → (List Int) → (List S24) → Option ((List S24))
  | 0, _, _, _, _, _, _, _, _, _, _, _, _, _, _ => none
  | j + 1, a13, a14, a15, a16, s17, s18, a19, a20, a21, a22, b23, b24, xs25, xs26 => f87.l6.step k (fun a13 a14 a15 a16 s17 s18 a19 a20 a21 a22 b23 b24 xs25 xs26 => f87.l6 k j a13 a14 a15 a16 s17 s18 a19 a20 a21 a22 b23 b24 xs25 xs26) some a13 a14 a15 a16 s17 s18 a19 a20 a21 a22 b23 b24 xs25 xs26
def f87.l6.w {R : Type} : ((List S24)) → (Exit → St env → Option R) → Option R := fun t28 K => K (.exit 0) ⟨fullT [6] 0 85 [.v (.c (.row 210))], [(210, .row true 24 t28)], 1378⟩
def f87.l6.st (a13 : Int) (a14 : Int) (a15 : Int) (a16 : Int) (s17 : ByteArray) (s18 : ByteArray) (a19 : Int) (a20 : Int) (a21 : Int) (a22 : Int) (b23 : Bool) (b24 : Bool) (xs25 : List Int) (xs26 : List S24) : St env := ⟨fullT [1, 2, 5, 6, 7] 0 85 [.v (.c (.s (.int .i64 a13))), .v (.c (.bp 2 0)), .v (.c (.s (.int .i64 a14))), .v (.c (.row 210)), .v (.c (.s (.int .i64 a15)))], [(2, .box [.s (.int .i64 a16), .s (.string s17), .s (.string s18), .s (.int .i64 a19), .s (.int .i64 a20), .s (.int .i64 a21), .s (.int .i64 a22), .s (.bool b23), .s (.bool b24), .imm 5 xs25]), (210, .row true 24 xs26)], 258⟩
def f87.l6.hd (k : Nat) (ts_ : List (AV env)) (mm_ : Mem env) (n_ : Nat) : LCl env :=
  gTs LCl.no [1, 2, 5, 6, 7] 85 ts_ fun l_ => gV LCl.no l_ fun a_ l_ => rV LCl.no a_ fun v_ => vI LCl.no .i64 v_ fun a13 => gV LCl.no l_ fun a_ l_ => rBp LCl.no 2 0 a_ <| gV LCl.no l_ fun a_ l_ => rV LCl.no a_ fun v_ => vI LCl.no .i64 v_ fun a14 => gV LCl.no l_ fun a_ l_ => rRow LCl.no 210 a_ <| gV LCl.no l_ fun a_ l_ => rV LCl.no a_ fun v_ => vI LCl.no .i64 v_ fun a15 => gE LCl.no l_ <| mBox LCl.no 2 mm_ fun c_ m_ => gC LCl.no c_ fun a_ c_ => rV LCl.no a_ fun v_ => vI LCl.no .i64 v_ fun a16 => gC LCl.no c_ fun a_ c_ => rV LCl.no a_ fun v_ => vS LCl.no v_ fun s17 => gC LCl.no c_ fun a_ c_ => rV LCl.no a_ fun v_ => vS LCl.no v_ fun s18 => gC LCl.no c_ fun a_ c_ => rV LCl.no a_ fun v_ => vI LCl.no .i64 v_ fun a19 => gC LCl.no c_ fun a_ c_ => rV LCl.no a_ fun v_ => vI LCl.no .i64 v_ fun a20 => gC LCl.no c_ fun a_ c_ => rV LCl.no a_ fun v_ => vI LCl.no .i64 v_ fun a21 => gC LCl.no c_ fun a_ c_ => rV LCl.no a_ fun v_ => vI LCl.no .i64 v_ fun a22 => gC LCl.no c_ fun a_ c_ => rV LCl.no a_ fun v_ => vB LCl.no v_ fun b23 => gC LCl.no c_ fun a_ c_ => rV LCl.no a_ fun v_ => vB LCl.no v_ fun b24 => gC LCl.no c_ fun a_ c_ => rImm LCl.no 5 a_ fun xs25 => gE LCl.no c_ <| mRow LCl.no 210 true 24 m_ fun xs26 m_ => gE LCl.no m_ <| gN LCl.no 258 n_ { α := (List S24), o := f87.l6 k k a13 a14 a15 a16 s17 s18 a19 a20 a21 a22 b23 b24 xs25 xs26, w := f87.l6.w }
def f87.step {R : Type} (k : Nat) (ret : ((List S24)) → Option R) (a1 : Int) (s2 : ByteArray) (s3 : ByteArray) (a4 : Int) (a5 : Int) (a6 : Int) (a7 : Int) (b8 : Bool) (b9 : Bool) (xs10 : List Int) (a11 : Int) : Option R :=
  if (decide ((IntKind.i64.wrap ((20 : Int) + (((List.length xs10) : Nat) : Int))) ≤ a11)) = true then
    (f146 k a1 s2 s3 a4 a5 a6 a7 b8 b9 xs10).bind fun t12 => ret ([(⟨t12.1, t12.2.1, t12.2.2.1, t12.2.2.2.1, t12.2.2.2.2.1, t12.2.2.2.2.2.1, t12.2.2.2.2.2.2.1, t12.2.2.2.2.2.2.2.1, t12.2.2.2.2.2.2.2.2.1, t12.2.2.2.2.2.2.2.2.2⟩ : S24)] : List S24)
  else
    (f87.l6 k k a11 (IntKind.i64.wrap ((IntKind.i64.wrap (Int.tdiv (IntKind.i64.wrap (a11 - (20 : Int))) (8 : Int))) * (8 : Int))) (0 : Int) a1 s2 s3 a4 a5 a6 a7 b8 b9 xs10 ([] : List S24)).bind fun t27 => ret t27
def f87 (k : Nat) (a1 : Int) (s2 : ByteArray) (s3 : ByteArray) (a4 : Int) (a5 : Int) (a6 : Int) (a7 : Int) (b8 : Bool) (b9 : Bool) (xs10 : List Int) (a11 : Int) : Option ((List S24)) := f87.step k some a1 s2 s3 a4 a5 a6 a7 b8 b9 xs10 a11
def f87.w {R : Type} : ((List S24)) → (Res env → Option R) → Option R := fun t29 K => K ⟨.v (.c (.own true 24 t29)), [[], []]⟩
theorem f87.wn (x : ((List S24))) : ∃ res, ∀ {R : Type} (K : Res env → Option R), f87.w x K = K res := by
  exact ⟨_, fun _ => rfl⟩
def f87.hd (k : Nat) (ps_ : List (P2 env)) : Cl env :=
  gC Cl.no ps_ fun p_ ps_ => qG Cl.no p_ fun cs_ => gC Cl.no cs_ fun c_ cs_ => qS Cl.no c_ fun v_ => vI Cl.no .i64 v_ fun a1 => gC Cl.no cs_ fun c_ cs_ => qS Cl.no c_ fun v_ => vS Cl.no v_ fun s2 => gC Cl.no cs_ fun c_ cs_ => qS Cl.no c_ fun v_ => vS Cl.no v_ fun s3 => gC Cl.no cs_ fun c_ cs_ => qS Cl.no c_ fun v_ => vI Cl.no .i64 v_ fun a4 => gC Cl.no cs_ fun c_ cs_ => qS Cl.no c_ fun v_ => vI Cl.no .i64 v_ fun a5 => gC Cl.no cs_ fun c_ cs_ => qS Cl.no c_ fun v_ => vI Cl.no .i64 v_ fun a6 => gC Cl.no cs_ fun c_ cs_ => qS Cl.no c_ fun v_ => vI Cl.no .i64 v_ fun a7 => gC Cl.no cs_ fun c_ cs_ => qS Cl.no c_ fun v_ => vB Cl.no v_ fun b8 => gC Cl.no cs_ fun c_ cs_ => qS Cl.no c_ fun v_ => vB Cl.no v_ fun b9 => gC Cl.no cs_ fun c_ cs_ => qSl Cl.no 5 c_ fun xs10 => gE Cl.no cs_ <| gC Cl.no ps_ fun p_ ps_ => qC Cl.no p_ fun c_ => qS Cl.no c_ fun v_ => vI Cl.no .i64 v_ fun a11 => gE Cl.no ps_ <| { α := (List S24), o := f87 k a1 s2 s3 a4 a5 a6 a7 b8 b9 xs10 a11, w := f87.w, nat := fun x _ => f87.wn x }
def f87.e (k : Nat) : Entry env := ⟨fun ps => f87.hd k (coer [[none, none, none, none, none, none, none, none, none, some 5], [none]] ps)⟩
def f87.X (k : Nat) : Ctx env := { C := lookE [(146, f146.e k)], L := lookE [(6, fun S => f87.l6.hd k S.ts S.m S.n)], J := lookE [], keep := lookD [(6, [1, 2, 5, 6, 7])], keepX := lookD [(6, [6])], span := lookN [(6, 1120)], eff := fun n => memN n [], prep := lookP [] }
theorem f87.l6.nat {R : Type} (k : Nat) (rec_ : Int → Int → Int → Int → ByteArray → ByteArray → Int → Int → Int → Int → Bool → Bool → (List Int) → (List S24) → Option ((List S24))) (g : ((List S24)) → Option R) (a13 : Int) (a14 : Int) (a15 : Int) (a16 : Int) (s17 : ByteArray) (s18 : ByteArray) (a19 : Int) (a20 : Int) (a21 : Int) (a22 : Int) (b23 : Bool) (b24 : Bool) (xs25 : List Int) (xs26 : List S24) : (f87.l6.step k rec_ some a13 a14 a15 a16 s17 s18 a19 a20 a21 a22 b23 b24 xs25 xs26).bind g = f87.l6.step k (fun a13 a14 a15 a16 s17 s18 a19 a20 a21 a22 b23 b24 xs25 xs26 => (rec_ a13 a14 a15 a16 s17 s18 a19 a20 a21 a22 b23 b24 xs25 xs26).bind g) g a13 a14 a15 a16 s17 s18 a19 a20 a21 a22 b23 b24 xs25 xs26 := by
  simp only [f87.l6.step, bind_ite, bind_sum, Option.bind_assoc, Option.bind_some, Option.bind_none]
theorem f87.l6.good (k : Nat) (a13 : Int) (a14 : Int) (a15 : Int) (a16 : Int) (s17 : ByteArray) (s18 : ByteArray) (a19 : Int) (a20 : Int) (a21 : Int) (a22 : Int) (b23 : Bool) (b24 : Bool) (xs25 : List Int) (xs26 : List S24) : GoodL (f87.X k) (nthC 0 (loopsOf (bodyOf Try.f87))) (f87.l6.st a13 a14 a15 a16 s17 s18 a19 a20 a21 a22 b23 b24 xs25 xs26) { α := ((List S24)), o := f87.l6 k k a13 a14 a15 a16 s17 s18 a19 a20 a21 a22 b23 b24 xs25 xs26, w := f87.l6.w } :=
  loop_good (ι := Int × Int × Int × Int × ByteArray × ByteArray × Int × Int × Int × Int × Bool × Bool × (List Int) × (List S24)) (α := ((List S24))) (fun i => f87.l6.st i.1 i.2.1 i.2.2.1 i.2.2.2.1 i.2.2.2.2.1 i.2.2.2.2.2.1 i.2.2.2.2.2.2.1 i.2.2.2.2.2.2.2.1 i.2.2.2.2.2.2.2.2.1 i.2.2.2.2.2.2.2.2.2.1 i.2.2.2.2.2.2.2.2.2.2.1 i.2.2.2.2.2.2.2.2.2.2.2.1 i.2.2.2.2.2.2.2.2.2.2.2.2.1 i.2.2.2.2.2.2.2.2.2.2.2.2.2) (fun j i => f87.l6 k j i.1 i.2.1 i.2.2.1 i.2.2.2.1 i.2.2.2.2.1 i.2.2.2.2.2.1 i.2.2.2.2.2.2.1 i.2.2.2.2.2.2.2.1 i.2.2.2.2.2.2.2.2.1 i.2.2.2.2.2.2.2.2.2.1 i.2.2.2.2.2.2.2.2.2.2.1 i.2.2.2.2.2.2.2.2.2.2.2.1 i.2.2.2.2.2.2.2.2.2.2.2.2.1 i.2.2.2.2.2.2.2.2.2.2.2.2.2) f87.l6.w (fun rec_ ret i => f87.l6.step k (fun a13 a14 a15 a16 s17 s18 a19 a20 a21 a22 b23 b24 xs25 xs26 => rec_ (a13, a14, a15, a16, s17, s18, a19, a20, a21, a22, b23, b24, xs25, xs26)) ret i.1 i.2.1 i.2.2.1 i.2.2.2.1 i.2.2.2.2.1 i.2.2.2.2.2.1 i.2.2.2.2.2.2.1 i.2.2.2.2.2.2.2.1 i.2.2.2.2.2.2.2.2.1 i.2.2.2.2.2.2.2.2.2.1 i.2.2.2.2.2.2.2.2.2.2.1 i.2.2.2.2.2.2.2.2.2.2.2.1 i.2.2.2.2.2.2.2.2.2.2.2.2.1 i.2.2.2.2.2.2.2.2.2.2.2.2.2)
    (fun _ => rfl) (fun _ _ => rfl) (fun rec_ g i => f87.l6.nat k _ g i.1 i.2.1 i.2.2.1 i.2.2.2.1 i.2.2.2.2.1 i.2.2.2.2.2.1 i.2.2.2.2.2.2.1 i.2.2.2.2.2.2.2.1 i.2.2.2.2.2.2.2.2.1 i.2.2.2.2.2.2.2.2.2.1 i.2.2.2.2.2.2.2.2.2.2.1 i.2.2.2.2.2.2.2.2.2.2.2.1 i.2.2.2.2.2.2.2.2.2.2.2.2.1 i.2.2.2.2.2.2.2.2.2.2.2.2.2) (fun {R} i0 i rec_ K => by kernel_rfl) k (a13, a14, a15, a16, s17, s18, a19, a20, a21, a22, b23, b24, xs25, xs26)
theorem f87.l6.all (k : Nat) (S : St env) : GoodL (f87.X k) (nthC 0 (loopsOf (bodyOf Try.f87))) S (f87.l6.hd k S.ts S.m S.n) := by
  obtain ⟨ts_, m_, n_⟩ := S
  show GoodL _ _ _ (f87.l6.hd k ts_ m_ n_)
  unfold f87.l6.hd
  refine gTs_ok (p := GoodL _ _ _) goodL_no fun _ h => ?_
  subst h
  refine gV_ok (p := GoodL _ _ _) goodL_no fun _ _ h => ?_
  subst h
  refine rV_ok (p := GoodL _ _ _) goodL_no fun _ h => ?_
  subst h
  refine vI_ok (p := GoodL _ _ _) goodL_no fun _ h => ?_
  subst h
  refine gV_ok (p := GoodL _ _ _) goodL_no fun _ _ h => ?_
  subst h
  refine rBp_ok (p := GoodL _ _ _) goodL_no fun h => ?_
  subst h
  refine gV_ok (p := GoodL _ _ _) goodL_no fun _ _ h => ?_
  subst h
  refine rV_ok (p := GoodL _ _ _) goodL_no fun _ h => ?_
  subst h
  refine vI_ok (p := GoodL _ _ _) goodL_no fun _ h => ?_
  subst h
  refine gV_ok (p := GoodL _ _ _) goodL_no fun _ _ h => ?_
  subst h
  refine rRow_ok (p := GoodL _ _ _) goodL_no fun h => ?_
  subst h
  refine gV_ok (p := GoodL _ _ _) goodL_no fun _ _ h => ?_
  subst h
  refine rV_ok (p := GoodL _ _ _) goodL_no fun _ h => ?_
  subst h
  refine vI_ok (p := GoodL _ _ _) goodL_no fun _ h => ?_
  subst h
  refine gE_ok (p := GoodL _ _ _) goodL_no fun h => ?_
  subst h
  refine mBox_ok (p := GoodL _ _ _) goodL_no fun _ _ h => ?_
  subst h
  refine gC_ok (p := GoodL _ _ _) goodL_no fun _ _ h => ?_
  subst h
  refine rV_ok (p := GoodL _ _ _) goodL_no fun _ h => ?_
  subst h
  refine vI_ok (p := GoodL _ _ _) goodL_no fun _ h => ?_
  subst h
  refine gC_ok (p := GoodL _ _ _) goodL_no fun _ _ h => ?_
  subst h
  refine rV_ok (p := GoodL _ _ _) goodL_no fun _ h => ?_
  subst h
  refine vS_ok (p := GoodL _ _ _) goodL_no fun _ h => ?_
  subst h
  refine gC_ok (p := GoodL _ _ _) goodL_no fun _ _ h => ?_
  subst h
  refine rV_ok (p := GoodL _ _ _) goodL_no fun _ h => ?_
  subst h
  refine vS_ok (p := GoodL _ _ _) goodL_no fun _ h => ?_
  subst h
  refine gC_ok (p := GoodL _ _ _) goodL_no fun _ _ h => ?_
  subst h
  refine rV_ok (p := GoodL _ _ _) goodL_no fun _ h => ?_
  subst h
  refine vI_ok (p := GoodL _ _ _) goodL_no fun _ h => ?_
  subst h
  refine gC_ok (p := GoodL _ _ _) goodL_no fun _ _ h => ?_
  subst h
  refine rV_ok (p := GoodL _ _ _) goodL_no fun _ h => ?_
  subst h
  refine vI_ok (p := GoodL _ _ _) goodL_no fun _ h => ?_
  subst h
  refine gC_ok (p := GoodL _ _ _) goodL_no fun _ _ h => ?_
  subst h
  refine rV_ok (p := GoodL _ _ _) goodL_no fun _ h => ?_
  subst h
  refine vI_ok (p := GoodL _ _ _) goodL_no fun _ h => ?_
  subst h
  refine gC_ok (p := GoodL _ _ _) goodL_no fun _ _ h => ?_
  subst h
  refine rV_ok (p := GoodL _ _ _) goodL_no fun _ h => ?_
  subst h
  refine vI_ok (p := GoodL _ _ _) goodL_no fun _ h => ?_
  subst h
  refine gC_ok (p := GoodL _ _ _) goodL_no fun _ _ h => ?_
  subst h
  refine rV_ok (p := GoodL _ _ _) goodL_no fun _ h => ?_
  subst h
  refine vB_ok (p := GoodL _ _ _) goodL_no fun _ h => ?_
  subst h
  refine gC_ok (p := GoodL _ _ _) goodL_no fun _ _ h => ?_
  subst h
  refine rV_ok (p := GoodL _ _ _) goodL_no fun _ h => ?_
  subst h
  refine vB_ok (p := GoodL _ _ _) goodL_no fun _ h => ?_
  subst h
  refine gC_ok (p := GoodL _ _ _) goodL_no fun _ _ h => ?_
  subst h
  refine rImm_ok (p := GoodL _ _ _) goodL_no fun _ h => ?_
  subst h
  refine gE_ok (p := GoodL _ _ _) goodL_no fun h => ?_
  subst h
  refine mRow_ok (p := GoodL _ _ _) goodL_no fun _ _ h => ?_
  subst h
  refine gE_ok (p := GoodL _ _ _) goodL_no fun h => ?_
  subst h
  refine gN_ok (p := GoodL _ _ _) goodL_no fun h => ?_
  subst h
  exact f87.l6.good k _ _ _ _ _ _ _ _ _ _ _ _ _ _
theorem f87.nat {R : Type} (k : Nat) (g : ((List S24)) → Option R) (a1 : Int) (s2 : ByteArray) (s3 : ByteArray) (a4 : Int) (a5 : Int) (a6 : Int) (a7 : Int) (b8 : Bool) (b9 : Bool) (xs10 : List Int) (a11 : Int) : f87.step k g a1 s2 s3 a4 a5 a6 a7 b8 b9 xs10 a11 = (f87 k a1 s2 s3 a4 a5 a6 a7 b8 b9 xs10 a11).bind g := by
  simp only [f87, f87.step, bind_ite, bind_sum, Option.bind_assoc, Option.bind_some, Option.bind_none]
theorem f87.ev (k : Nat) (a1 : Int) (s2 : ByteArray) (s3 : ByteArray) (a4 : Int) (a5 : Int) (a6 : Int) (a7 : Int) (b8 : Bool) (b9 : Bool) (xs10 : List Int) (a11 : Int) : evF (f87.X k) (bodyOf Try.f87) Try.f87.ntmps Try.f87.results.toList [.g [.s (.int .i64 a1), .s (.string s2), .s (.string s3), .s (.int .i64 a4), .s (.int .i64 a5), .s (.int .i64 a6), .s (.int .i64 a7), .s (.bool b8), .s (.bool b9), .sl 5 xs10], .v (.c (.s (.int .i64 a11)))] = f87.step k (fun x => f87.w x some) a1 s2 s3 a4 a5 a6 a7 b8 b9 xs10 a11 := by kernel_rfl
theorem f87.hok (k : Nat) : HOK (f87.X k) (bodyOf Try.f87) where
  l := allP_mem (by exact ⟨ls_of (h0 := fun S => f87.l6.hd k S.ts S.m S.n) (by kernel_rfl) (f87.l6.all k), trivial⟩)
  j := allP_mem (by exact trivial)
theorem f87.sound0 (k : Nat) : SoundC env Try.prog 87 (f87.hd k) := by
  intro ps_
  show GoodC _ _ _ ps_ (f87.hd k ps_)
  unfold f87.hd
  refine gC_ok (p := GoodC env Try.prog 87 _) goodC_no fun _ _ h => ?_
  subst h
  refine qG_ok (p := GoodC env Try.prog 87 _) goodC_no fun _ h => ?_
  subst h
  refine gC_ok (p := GoodC env Try.prog 87 _) goodC_no fun _ _ h => ?_
  subst h
  refine qS_ok (p := GoodC env Try.prog 87 _) goodC_no fun _ h => ?_
  subst h
  refine vI_ok (p := GoodC env Try.prog 87 _) goodC_no fun _ h => ?_
  subst h
  refine gC_ok (p := GoodC env Try.prog 87 _) goodC_no fun _ _ h => ?_
  subst h
  refine qS_ok (p := GoodC env Try.prog 87 _) goodC_no fun _ h => ?_
  subst h
  refine vS_ok (p := GoodC env Try.prog 87 _) goodC_no fun _ h => ?_
  subst h
  refine gC_ok (p := GoodC env Try.prog 87 _) goodC_no fun _ _ h => ?_
  subst h
  refine qS_ok (p := GoodC env Try.prog 87 _) goodC_no fun _ h => ?_
  subst h
  refine vS_ok (p := GoodC env Try.prog 87 _) goodC_no fun _ h => ?_
  subst h
  refine gC_ok (p := GoodC env Try.prog 87 _) goodC_no fun _ _ h => ?_
  subst h
  refine qS_ok (p := GoodC env Try.prog 87 _) goodC_no fun _ h => ?_
  subst h
  refine vI_ok (p := GoodC env Try.prog 87 _) goodC_no fun _ h => ?_
  subst h
  refine gC_ok (p := GoodC env Try.prog 87 _) goodC_no fun _ _ h => ?_
  subst h
  refine qS_ok (p := GoodC env Try.prog 87 _) goodC_no fun _ h => ?_
  subst h
  refine vI_ok (p := GoodC env Try.prog 87 _) goodC_no fun _ h => ?_
  subst h
  refine gC_ok (p := GoodC env Try.prog 87 _) goodC_no fun _ _ h => ?_
  subst h
  refine qS_ok (p := GoodC env Try.prog 87 _) goodC_no fun _ h => ?_
  subst h
  refine vI_ok (p := GoodC env Try.prog 87 _) goodC_no fun _ h => ?_
  subst h
  refine gC_ok (p := GoodC env Try.prog 87 _) goodC_no fun _ _ h => ?_
  subst h
  refine qS_ok (p := GoodC env Try.prog 87 _) goodC_no fun _ h => ?_
  subst h
  refine vI_ok (p := GoodC env Try.prog 87 _) goodC_no fun _ h => ?_
  subst h
  refine gC_ok (p := GoodC env Try.prog 87 _) goodC_no fun _ _ h => ?_
  subst h
  refine qS_ok (p := GoodC env Try.prog 87 _) goodC_no fun _ h => ?_
  subst h
  refine vB_ok (p := GoodC env Try.prog 87 _) goodC_no fun _ h => ?_
  subst h
  refine gC_ok (p := GoodC env Try.prog 87 _) goodC_no fun _ _ h => ?_
  subst h
  refine qS_ok (p := GoodC env Try.prog 87 _) goodC_no fun _ h => ?_
  subst h
  refine vB_ok (p := GoodC env Try.prog 87 _) goodC_no fun _ h => ?_
  subst h
  refine gC_ok (p := GoodC env Try.prog 87 _) goodC_no fun _ _ h => ?_
  subst h
  refine qSl_ok (p := GoodC env Try.prog 87 _) goodC_no fun _ h => ?_
  subst h
  refine gE_ok (p := GoodC env Try.prog 87 _) goodC_no fun h => ?_
  subst h
  refine gC_ok (p := GoodC env Try.prog 87 _) goodC_no fun _ _ h => ?_
  subst h
  refine qC_ok (p := GoodC env Try.prog 87 _) goodC_no fun _ h => ?_
  subst h
  refine qS_ok (p := GoodC env Try.prog 87 _) goodC_no fun _ h => ?_
  subst h
  refine vI_ok (p := GoodC env Try.prog 87 _) goodC_no fun _ h => ?_
  subst h
  refine gE_ok (p := GoodC env Try.prog 87 _) goodC_no fun h => ?_
  subst h
  exact fun_good (fun_sound envOK (cs_sound _ (by exact ⟨⟨f146.sound k, f146.fnok⟩, trivial⟩)) (f87.hok k) Try.func87 rfl) ((f87.ev k _ _ _ _ _ _ _ _ _ _ _).trans (f87.nat k _ _ _ _ _ _ _ _ _ _ _ _))
theorem f87.sound (k : Nat) : SoundC env Try.prog 87 (f87.e k).F := soundC_coer (f87.sound0 k) [[none, none, none, none, none, none, none, none, none, some 5], [none]]
theorem f87.says (k : Nat) (a1 : Int) (s2 : ByteArray) (s3 : ByteArray) (a4 : Int) (a5 : Int) (a6 : Int) (a7 : Int) (b8 : Bool) (b9 : Bool) (xs10 : List Int) (a11 : Int) (t30 : (List S24)) (h_ : f87 k a1 s2 s3 a4 a5 a6 a7 b8 b9 xs10 a11 = some t30) : SoundAt env Try.prog 87 [.g [.s (.int .i64 a1), .s (.string s2), .s (.string s3), .s (.int .i64 a4), .s (.int .i64 a5), .s (.int .i64 a6), .s (.int .i64 a7), .s (.bool b8), .s (.bool b9), .sl 5 xs10], .v (.c (.s (.int .i64 a11)))] ⟨.v (.c (.own true 24 t30)), [[], []]⟩ :=
  fun_sound envOK (cs_sound _ (by exact ⟨⟨f146.sound k, f146.fnok⟩, trivial⟩)) (f87.hok k) Try.func87 rfl _ _ (((f87.ev k a1 s2 s3 a4 a5 a6 a7 b8 b9 xs10 a11).trans (f87.nat k _ a1 s2 s3 a4 a5 a6 a7 b8 b9 xs10 a11)).trans (by rw [h_]; rfl))
theorem f87.fnok : FnOK Try.prog 87 := fn_ok Try.func87 (by kernel_rfl) rfl
def f18.step {R : Type} (k : Nat) (ret : ((List S24) × Int) → Option R) (a1 : Int) (s2 : ByteArray) (s3 : ByteArray) (a4 : Int) (a5 : Int) (a6 : Int) (a7 : Int) (b8 : Bool) (b9 : Bool) (xs10 : List Int) (a11 : Int) : Option R :=
  (f85 k a1 s2 s3 a4 a5 a6 a7 b8 b9 xs10).bind fun t12 => if (!t12) = false then
      if (decide (a1 ≠ (4 : Int))) = true then
        ret (([] : List S24), (1 : Int))
      else
        (f86 k a11 (28 : Int) (1520 : Int)).bind fun t13 => if (!t13) = true then
            ret (([] : List S24), (4 : Int))
          else
            if b9 = true then
              if (decide ((IntKind.i64.wrap ((20 : Int) + (((List.length xs10) : Nat) : Int))) > a11)) = true then
                ret (([] : List S24), (11 : Int))
              else
                (f87 k a1 s2 s3 a4 a5 a6 a7 b8 b9 xs10 a11).bind fun t14 => ret (t14, (0 : Int))
            else
              (f87 k a1 s2 s3 a4 a5 a6 a7 b8 b9 xs10 a11).bind fun t15 => ret (t15, (0 : Int))
    else
      ret (([] : List S24), (1 : Int))
def f18 (k : Nat) (a1 : Int) (s2 : ByteArray) (s3 : ByteArray) (a4 : Int) (a5 : Int) (a6 : Int) (a7 : Int) (b8 : Bool) (b9 : Bool) (xs10 : List Int) (a11 : Int) : Option ((List S24) × Int) := f18.step k some a1 s2 s3 a4 a5 a6 a7 b8 b9 xs10 a11
def f18.w {R : Type} : ((List S24) × Int) → (Res env → Option R) → Option R := fun t16 K => K ⟨.tup [.c (.own true 24 t16.1), .c (.s (.int .i64 t16.2))], [[], []]⟩
theorem f18.wn (x : ((List S24) × Int)) : ∃ res, ∀ {R : Type} (K : Res env → Option R), f18.w x K = K res := by
  exact ⟨_, fun _ => rfl⟩
def f18.hd (k : Nat) (ps_ : List (P2 env)) : Cl env :=
  gC Cl.no ps_ fun p_ ps_ => qG Cl.no p_ fun cs_ => gC Cl.no cs_ fun c_ cs_ => qS Cl.no c_ fun v_ => vI Cl.no .i64 v_ fun a1 => gC Cl.no cs_ fun c_ cs_ => qS Cl.no c_ fun v_ => vS Cl.no v_ fun s2 => gC Cl.no cs_ fun c_ cs_ => qS Cl.no c_ fun v_ => vS Cl.no v_ fun s3 => gC Cl.no cs_ fun c_ cs_ => qS Cl.no c_ fun v_ => vI Cl.no .i64 v_ fun a4 => gC Cl.no cs_ fun c_ cs_ => qS Cl.no c_ fun v_ => vI Cl.no .i64 v_ fun a5 => gC Cl.no cs_ fun c_ cs_ => qS Cl.no c_ fun v_ => vI Cl.no .i64 v_ fun a6 => gC Cl.no cs_ fun c_ cs_ => qS Cl.no c_ fun v_ => vI Cl.no .i64 v_ fun a7 => gC Cl.no cs_ fun c_ cs_ => qS Cl.no c_ fun v_ => vB Cl.no v_ fun b8 => gC Cl.no cs_ fun c_ cs_ => qS Cl.no c_ fun v_ => vB Cl.no v_ fun b9 => gC Cl.no cs_ fun c_ cs_ => qSl Cl.no 5 c_ fun xs10 => gE Cl.no cs_ <| gC Cl.no ps_ fun p_ ps_ => qC Cl.no p_ fun c_ => qS Cl.no c_ fun v_ => vI Cl.no .i64 v_ fun a11 => gE Cl.no ps_ <| { α := (List S24) × Int, o := f18 k a1 s2 s3 a4 a5 a6 a7 b8 b9 xs10 a11, w := f18.w, nat := fun x _ => f18.wn x }
def f18.e (k : Nat) : Entry env := ⟨fun ps => f18.hd k (coer [[none, none, none, none, none, none, none, none, none, some 5], [none]] ps)⟩
def f18.X (k : Nat) : Ctx env := { C := lookE [(85, f85.e k), (86, f86.e k), (87, f87.e k)], L := lookE [], J := lookE [], keep := lookD [], keepX := lookD [], span := lookN [], eff := fun n => memN n [], prep := lookP [] }
theorem f18.nat {R : Type} (k : Nat) (g : ((List S24) × Int) → Option R) (a1 : Int) (s2 : ByteArray) (s3 : ByteArray) (a4 : Int) (a5 : Int) (a6 : Int) (a7 : Int) (b8 : Bool) (b9 : Bool) (xs10 : List Int) (a11 : Int) : f18.step k g a1 s2 s3 a4 a5 a6 a7 b8 b9 xs10 a11 = (f18 k a1 s2 s3 a4 a5 a6 a7 b8 b9 xs10 a11).bind g := by
  simp only [f18, f18.step, bind_ite, bind_sum, Option.bind_assoc, Option.bind_some, Option.bind_none]
theorem f18.ev (k : Nat) (a1 : Int) (s2 : ByteArray) (s3 : ByteArray) (a4 : Int) (a5 : Int) (a6 : Int) (a7 : Int) (b8 : Bool) (b9 : Bool) (xs10 : List Int) (a11 : Int) : evF (f18.X k) (bodyOf Try.f18) Try.f18.ntmps Try.f18.results.toList [.g [.s (.int .i64 a1), .s (.string s2), .s (.string s3), .s (.int .i64 a4), .s (.int .i64 a5), .s (.int .i64 a6), .s (.int .i64 a7), .s (.bool b8), .s (.bool b9), .sl 5 xs10], .v (.c (.s (.int .i64 a11)))] = f18.step k (fun x => f18.w x some) a1 s2 s3 a4 a5 a6 a7 b8 b9 xs10 a11 := by kernel_rfl
theorem f18.hok (k : Nat) : HOK (f18.X k) (bodyOf Try.f18) where
  l := allP_mem (by exact trivial)
  j := allP_mem (by exact trivial)
theorem f18.sound0 (k : Nat) : SoundC env Try.prog 18 (f18.hd k) := by
  intro ps_
  show GoodC _ _ _ ps_ (f18.hd k ps_)
  unfold f18.hd
  refine gC_ok (p := GoodC env Try.prog 18 _) goodC_no fun _ _ h => ?_
  subst h
  refine qG_ok (p := GoodC env Try.prog 18 _) goodC_no fun _ h => ?_
  subst h
  refine gC_ok (p := GoodC env Try.prog 18 _) goodC_no fun _ _ h => ?_
  subst h
  refine qS_ok (p := GoodC env Try.prog 18 _) goodC_no fun _ h => ?_
  subst h
  refine vI_ok (p := GoodC env Try.prog 18 _) goodC_no fun _ h => ?_
  subst h
  refine gC_ok (p := GoodC env Try.prog 18 _) goodC_no fun _ _ h => ?_
  subst h
  refine qS_ok (p := GoodC env Try.prog 18 _) goodC_no fun _ h => ?_
  subst h
  refine vS_ok (p := GoodC env Try.prog 18 _) goodC_no fun _ h => ?_
  subst h
  refine gC_ok (p := GoodC env Try.prog 18 _) goodC_no fun _ _ h => ?_
  subst h
  refine qS_ok (p := GoodC env Try.prog 18 _) goodC_no fun _ h => ?_
  subst h
  refine vS_ok (p := GoodC env Try.prog 18 _) goodC_no fun _ h => ?_
  subst h
  refine gC_ok (p := GoodC env Try.prog 18 _) goodC_no fun _ _ h => ?_
  subst h
  refine qS_ok (p := GoodC env Try.prog 18 _) goodC_no fun _ h => ?_
  subst h
  refine vI_ok (p := GoodC env Try.prog 18 _) goodC_no fun _ h => ?_
  subst h
  refine gC_ok (p := GoodC env Try.prog 18 _) goodC_no fun _ _ h => ?_
  subst h
  refine qS_ok (p := GoodC env Try.prog 18 _) goodC_no fun _ h => ?_
  subst h
  refine vI_ok (p := GoodC env Try.prog 18 _) goodC_no fun _ h => ?_
  subst h
  refine gC_ok (p := GoodC env Try.prog 18 _) goodC_no fun _ _ h => ?_
  subst h
  refine qS_ok (p := GoodC env Try.prog 18 _) goodC_no fun _ h => ?_
  subst h
  refine vI_ok (p := GoodC env Try.prog 18 _) goodC_no fun _ h => ?_
  subst h
  refine gC_ok (p := GoodC env Try.prog 18 _) goodC_no fun _ _ h => ?_
  subst h
  refine qS_ok (p := GoodC env Try.prog 18 _) goodC_no fun _ h => ?_
  subst h
  refine vI_ok (p := GoodC env Try.prog 18 _) goodC_no fun _ h => ?_
  subst h
  refine gC_ok (p := GoodC env Try.prog 18 _) goodC_no fun _ _ h => ?_
  subst h
  refine qS_ok (p := GoodC env Try.prog 18 _) goodC_no fun _ h => ?_
  subst h
  refine vB_ok (p := GoodC env Try.prog 18 _) goodC_no fun _ h => ?_
  subst h
  refine gC_ok (p := GoodC env Try.prog 18 _) goodC_no fun _ _ h => ?_
  subst h
  refine qS_ok (p := GoodC env Try.prog 18 _) goodC_no fun _ h => ?_
  subst h
  refine vB_ok (p := GoodC env Try.prog 18 _) goodC_no fun _ h => ?_
  subst h
  refine gC_ok (p := GoodC env Try.prog 18 _) goodC_no fun _ _ h => ?_
  subst h
  refine qSl_ok (p := GoodC env Try.prog 18 _) goodC_no fun _ h => ?_
  subst h
  refine gE_ok (p := GoodC env Try.prog 18 _) goodC_no fun h => ?_
  subst h
  refine gC_ok (p := GoodC env Try.prog 18 _) goodC_no fun _ _ h => ?_
  subst h
  refine qC_ok (p := GoodC env Try.prog 18 _) goodC_no fun _ h => ?_
  subst h
  refine qS_ok (p := GoodC env Try.prog 18 _) goodC_no fun _ h => ?_
  subst h
  refine vI_ok (p := GoodC env Try.prog 18 _) goodC_no fun _ h => ?_
  subst h
  refine gE_ok (p := GoodC env Try.prog 18 _) goodC_no fun h => ?_
  subst h
  exact fun_good (fun_sound envOK (cs_sound _ (by exact ⟨⟨f85.sound k, f85.fnok⟩, ⟨f86.sound k, f86.fnok⟩, ⟨f87.sound k, f87.fnok⟩, trivial⟩)) (f18.hok k) Try.func18 rfl) ((f18.ev k _ _ _ _ _ _ _ _ _ _ _).trans (f18.nat k _ _ _ _ _ _ _ _ _ _ _ _))
theorem f18.sound (k : Nat) : SoundC env Try.prog 18 (f18.e k).F := soundC_coer (f18.sound0 k) [[none, none, none, none, none, none, none, none, none, some 5], [none]]
theorem f18.says (k : Nat) (a1 : Int) (s2 : ByteArray) (s3 : ByteArray) (a4 : Int) (a5 : Int) (a6 : Int) (a7 : Int) (b8 : Bool) (b9 : Bool) (xs10 : List Int) (a11 : Int) (t17 : (List S24) × Int) (h_ : f18 k a1 s2 s3 a4 a5 a6 a7 b8 b9 xs10 a11 = some t17) : SoundAt env Try.prog 18 [.g [.s (.int .i64 a1), .s (.string s2), .s (.string s3), .s (.int .i64 a4), .s (.int .i64 a5), .s (.int .i64 a6), .s (.int .i64 a7), .s (.bool b8), .s (.bool b9), .sl 5 xs10], .v (.c (.s (.int .i64 a11)))] ⟨.tup [.c (.own true 24 t17.1), .c (.s (.int .i64 t17.2))], [[], []]⟩ :=
  fun_sound envOK (cs_sound _ (by exact ⟨⟨f85.sound k, f85.fnok⟩, ⟨f86.sound k, f86.fnok⟩, ⟨f87.sound k, f87.fnok⟩, trivial⟩)) (f18.hok k) Try.func18 rfl _ _ (((f18.ev k a1 s2 s3 a4 a5 a6 a7 b8 b9 xs10 a11).trans (f18.nat k _ a1 s2 s3 a4 a5 a6 a7 b8 b9 xs10 a11)).trans (by rw [h_]; rfl))
theorem f18.fnok : FnOK Try.prog 18 := fn_ok Try.func18 (by kernel_rfl) rfl
def f19.step {R : Type} (k : Nat) (ret : Bool → Option R) (a1 : Int) (s2 : ByteArray) (s3 : ByteArray) (a4 : Int) (a5 : Int) (a6 : Int) (a7 : Int) (b8 : Bool) (b9 : Bool) (xs10 : List Int) (a11 : Int) (s12 : ByteArray) (s13 : ByteArray) (a14 : Int) (a15 : Int) (a16 : Int) (a17 : Int) (b18 : Bool) (b19 : Bool) (xs20 : List Int) : Option R :=
  if (decide (a1 = a11)) = true then
    if (decide (ByteArray.toList s2 = ByteArray.toList s12)) = true then
      if (decide (ByteArray.toList s3 = ByteArray.toList s13)) = true then
        if (decide (a4 = a14)) = true then
          if (decide (a5 = a15)) = true then
            if (decide (a6 = a16)) = true then
              if (decide (a7 = a17)) = true then
                if (b8 == b18) = true then
                  if (b9 == b19) = true then
                    ret (decide (ByteArray.toList (strOf xs10) = ByteArray.toList (strOf xs20)))
                  else
                    ret false
                else
                  ret false
              else
                ret false
            else
              ret false
          else
            ret false
        else
          ret false
      else
        ret false
    else
      ret false
  else
    ret false
def f19 (k : Nat) (a1 : Int) (s2 : ByteArray) (s3 : ByteArray) (a4 : Int) (a5 : Int) (a6 : Int) (a7 : Int) (b8 : Bool) (b9 : Bool) (xs10 : List Int) (a11 : Int) (s12 : ByteArray) (s13 : ByteArray) (a14 : Int) (a15 : Int) (a16 : Int) (a17 : Int) (b18 : Bool) (b19 : Bool) (xs20 : List Int) : Option Bool := f19.step k some a1 s2 s3 a4 a5 a6 a7 b8 b9 xs10 a11 s12 s13 a14 a15 a16 a17 b18 b19 xs20
def f19.w {R : Type} : Bool → (Res env → Option R) → Option R := fun t21 K => K ⟨.v (.c (.s (.bool t21))), [[], []]⟩
theorem f19.wn (x : Bool) : ∃ res, ∀ {R : Type} (K : Res env → Option R), f19.w x K = K res := by
  exact ⟨_, fun _ => rfl⟩
def f19.hd (k : Nat) (ps_ : List (P2 env)) : Cl env :=
  gC Cl.no ps_ fun p_ ps_ => qG Cl.no p_ fun cs_ => gC Cl.no cs_ fun c_ cs_ => qS Cl.no c_ fun v_ => vI Cl.no .i64 v_ fun a1 => gC Cl.no cs_ fun c_ cs_ => qS Cl.no c_ fun v_ => vS Cl.no v_ fun s2 => gC Cl.no cs_ fun c_ cs_ => qS Cl.no c_ fun v_ => vS Cl.no v_ fun s3 => gC Cl.no cs_ fun c_ cs_ => qS Cl.no c_ fun v_ => vI Cl.no .i64 v_ fun a4 => gC Cl.no cs_ fun c_ cs_ => qS Cl.no c_ fun v_ => vI Cl.no .i64 v_ fun a5 => gC Cl.no cs_ fun c_ cs_ => qS Cl.no c_ fun v_ => vI Cl.no .i64 v_ fun a6 => gC Cl.no cs_ fun c_ cs_ => qS Cl.no c_ fun v_ => vI Cl.no .i64 v_ fun a7 => gC Cl.no cs_ fun c_ cs_ => qS Cl.no c_ fun v_ => vB Cl.no v_ fun b8 => gC Cl.no cs_ fun c_ cs_ => qS Cl.no c_ fun v_ => vB Cl.no v_ fun b9 => gC Cl.no cs_ fun c_ cs_ => qSl Cl.no 5 c_ fun xs10 => gE Cl.no cs_ <| gC Cl.no ps_ fun p_ ps_ => qG Cl.no p_ fun cs_ => gC Cl.no cs_ fun c_ cs_ => qS Cl.no c_ fun v_ => vI Cl.no .i64 v_ fun a11 => gC Cl.no cs_ fun c_ cs_ => qS Cl.no c_ fun v_ => vS Cl.no v_ fun s12 => gC Cl.no cs_ fun c_ cs_ => qS Cl.no c_ fun v_ => vS Cl.no v_ fun s13 => gC Cl.no cs_ fun c_ cs_ => qS Cl.no c_ fun v_ => vI Cl.no .i64 v_ fun a14 => gC Cl.no cs_ fun c_ cs_ => qS Cl.no c_ fun v_ => vI Cl.no .i64 v_ fun a15 => gC Cl.no cs_ fun c_ cs_ => qS Cl.no c_ fun v_ => vI Cl.no .i64 v_ fun a16 => gC Cl.no cs_ fun c_ cs_ => qS Cl.no c_ fun v_ => vI Cl.no .i64 v_ fun a17 => gC Cl.no cs_ fun c_ cs_ => qS Cl.no c_ fun v_ => vB Cl.no v_ fun b18 => gC Cl.no cs_ fun c_ cs_ => qS Cl.no c_ fun v_ => vB Cl.no v_ fun b19 => gC Cl.no cs_ fun c_ cs_ => qSl Cl.no 5 c_ fun xs20 => gE Cl.no cs_ <| gE Cl.no ps_ <| { α := Bool, o := f19 k a1 s2 s3 a4 a5 a6 a7 b8 b9 xs10 a11 s12 s13 a14 a15 a16 a17 b18 b19 xs20, w := f19.w, nat := fun x _ => f19.wn x }
def f19.e (k : Nat) : Entry env := ⟨fun ps => f19.hd k (coer [[none, none, none, none, none, none, none, none, none, some 5], [none, none, none, none, none, none, none, none, none, some 5]] ps)⟩
def f19.X (k : Nat) : Ctx env := { C := lookE [], L := lookE [], J := lookE [], keep := lookD [], keepX := lookD [], span := lookN [], eff := fun n => memN n [], prep := lookP [] }
theorem f19.nat {R : Type} (k : Nat) (g : Bool → Option R) (a1 : Int) (s2 : ByteArray) (s3 : ByteArray) (a4 : Int) (a5 : Int) (a6 : Int) (a7 : Int) (b8 : Bool) (b9 : Bool) (xs10 : List Int) (a11 : Int) (s12 : ByteArray) (s13 : ByteArray) (a14 : Int) (a15 : Int) (a16 : Int) (a17 : Int) (b18 : Bool) (b19 : Bool) (xs20 : List Int) : f19.step k g a1 s2 s3 a4 a5 a6 a7 b8 b9 xs10 a11 s12 s13 a14 a15 a16 a17 b18 b19 xs20 = (f19 k a1 s2 s3 a4 a5 a6 a7 b8 b9 xs10 a11 s12 s13 a14 a15 a16 a17 b18 b19 xs20).bind g := by
  simp only [f19, f19.step, bind_ite, bind_sum, Option.bind_assoc, Option.bind_some, Option.bind_none]
theorem f19.ev (k : Nat) (a1 : Int) (s2 : ByteArray) (s3 : ByteArray) (a4 : Int) (a5 : Int) (a6 : Int) (a7 : Int) (b8 : Bool) (b9 : Bool) (xs10 : List Int) (a11 : Int) (s12 : ByteArray) (s13 : ByteArray) (a14 : Int) (a15 : Int) (a16 : Int) (a17 : Int) (b18 : Bool) (b19 : Bool) (xs20 : List Int) : evF (f19.X k) (bodyOf Try.f19) Try.f19.ntmps Try.f19.results.toList [.g [.s (.int .i64 a1), .s (.string s2), .s (.string s3), .s (.int .i64 a4), .s (.int .i64 a5), .s (.int .i64 a6), .s (.int .i64 a7), .s (.bool b8), .s (.bool b9), .sl 5 xs10], .g [.s (.int .i64 a11), .s (.string s12), .s (.string s13), .s (.int .i64 a14), .s (.int .i64 a15), .s (.int .i64 a16), .s (.int .i64 a17), .s (.bool b18), .s (.bool b19), .sl 5 xs20]] = f19.step k (fun x => f19.w x some) a1 s2 s3 a4 a5 a6 a7 b8 b9 xs10 a11 s12 s13 a14 a15 a16 a17 b18 b19 xs20 := by kernel_rfl
theorem f19.hok (k : Nat) : HOK (f19.X k) (bodyOf Try.f19) where
  l := allP_mem (by exact trivial)
  j := allP_mem (by exact trivial)
theorem f19.sound0 (k : Nat) : SoundC env Try.prog 19 (f19.hd k) := by
  intro ps_
  show GoodC _ _ _ ps_ (f19.hd k ps_)
  unfold f19.hd
  refine gC_ok (p := GoodC env Try.prog 19 _) goodC_no fun _ _ h => ?_
  subst h
  refine qG_ok (p := GoodC env Try.prog 19 _) goodC_no fun _ h => ?_
  subst h
  refine gC_ok (p := GoodC env Try.prog 19 _) goodC_no fun _ _ h => ?_
  subst h
  refine qS_ok (p := GoodC env Try.prog 19 _) goodC_no fun _ h => ?_
  subst h
  refine vI_ok (p := GoodC env Try.prog 19 _) goodC_no fun _ h => ?_
  subst h
  refine gC_ok (p := GoodC env Try.prog 19 _) goodC_no fun _ _ h => ?_
  subst h
  refine qS_ok (p := GoodC env Try.prog 19 _) goodC_no fun _ h => ?_
  subst h
  refine vS_ok (p := GoodC env Try.prog 19 _) goodC_no fun _ h => ?_
  subst h
  refine gC_ok (p := GoodC env Try.prog 19 _) goodC_no fun _ _ h => ?_
  subst h
  refine qS_ok (p := GoodC env Try.prog 19 _) goodC_no fun _ h => ?_
  subst h
  refine vS_ok (p := GoodC env Try.prog 19 _) goodC_no fun _ h => ?_
  subst h
  refine gC_ok (p := GoodC env Try.prog 19 _) goodC_no fun _ _ h => ?_
  subst h
  refine qS_ok (p := GoodC env Try.prog 19 _) goodC_no fun _ h => ?_
  subst h
  refine vI_ok (p := GoodC env Try.prog 19 _) goodC_no fun _ h => ?_
  subst h
  refine gC_ok (p := GoodC env Try.prog 19 _) goodC_no fun _ _ h => ?_
  subst h
  refine qS_ok (p := GoodC env Try.prog 19 _) goodC_no fun _ h => ?_
  subst h
  refine vI_ok (p := GoodC env Try.prog 19 _) goodC_no fun _ h => ?_
  subst h
  refine gC_ok (p := GoodC env Try.prog 19 _) goodC_no fun _ _ h => ?_
  subst h
  refine qS_ok (p := GoodC env Try.prog 19 _) goodC_no fun _ h => ?_
  subst h
  refine vI_ok (p := GoodC env Try.prog 19 _) goodC_no fun _ h => ?_
  subst h
  refine gC_ok (p := GoodC env Try.prog 19 _) goodC_no fun _ _ h => ?_
  subst h
  refine qS_ok (p := GoodC env Try.prog 19 _) goodC_no fun _ h => ?_
  subst h
  refine vI_ok (p := GoodC env Try.prog 19 _) goodC_no fun _ h => ?_
  subst h
  refine gC_ok (p := GoodC env Try.prog 19 _) goodC_no fun _ _ h => ?_
  subst h
  refine qS_ok (p := GoodC env Try.prog 19 _) goodC_no fun _ h => ?_
  subst h
  refine vB_ok (p := GoodC env Try.prog 19 _) goodC_no fun _ h => ?_
  subst h
  refine gC_ok (p := GoodC env Try.prog 19 _) goodC_no fun _ _ h => ?_
  subst h
  refine qS_ok (p := GoodC env Try.prog 19 _) goodC_no fun _ h => ?_
  subst h
  refine vB_ok (p := GoodC env Try.prog 19 _) goodC_no fun _ h => ?_
  subst h
  refine gC_ok (p := GoodC env Try.prog 19 _) goodC_no fun _ _ h => ?_
  subst h
  refine qSl_ok (p := GoodC env Try.prog 19 _) goodC_no fun _ h => ?_
  subst h
  refine gE_ok (p := GoodC env Try.prog 19 _) goodC_no fun h => ?_
  subst h
  refine gC_ok (p := GoodC env Try.prog 19 _) goodC_no fun _ _ h => ?_
  subst h
  refine qG_ok (p := GoodC env Try.prog 19 _) goodC_no fun _ h => ?_
  subst h
  refine gC_ok (p := GoodC env Try.prog 19 _) goodC_no fun _ _ h => ?_
  subst h
  refine qS_ok (p := GoodC env Try.prog 19 _) goodC_no fun _ h => ?_
  subst h
  refine vI_ok (p := GoodC env Try.prog 19 _) goodC_no fun _ h => ?_
  subst h
  refine gC_ok (p := GoodC env Try.prog 19 _) goodC_no fun _ _ h => ?_
  subst h
  refine qS_ok (p := GoodC env Try.prog 19 _) goodC_no fun _ h => ?_
  subst h
  refine vS_ok (p := GoodC env Try.prog 19 _) goodC_no fun _ h => ?_
  subst h
  refine gC_ok (p := GoodC env Try.prog 19 _) goodC_no fun _ _ h => ?_
  subst h
  refine qS_ok (p := GoodC env Try.prog 19 _) goodC_no fun _ h => ?_
  subst h
  refine vS_ok (p := GoodC env Try.prog 19 _) goodC_no fun _ h => ?_
  subst h
  refine gC_ok (p := GoodC env Try.prog 19 _) goodC_no fun _ _ h => ?_
  subst h
  refine qS_ok (p := GoodC env Try.prog 19 _) goodC_no fun _ h => ?_
  subst h
  refine vI_ok (p := GoodC env Try.prog 19 _) goodC_no fun _ h => ?_
  subst h
  refine gC_ok (p := GoodC env Try.prog 19 _) goodC_no fun _ _ h => ?_
  subst h
  refine qS_ok (p := GoodC env Try.prog 19 _) goodC_no fun _ h => ?_
  subst h
  refine vI_ok (p := GoodC env Try.prog 19 _) goodC_no fun _ h => ?_
  subst h
  refine gC_ok (p := GoodC env Try.prog 19 _) goodC_no fun _ _ h => ?_
  subst h
  refine qS_ok (p := GoodC env Try.prog 19 _) goodC_no fun _ h => ?_
  subst h
  refine vI_ok (p := GoodC env Try.prog 19 _) goodC_no fun _ h => ?_
  subst h
  refine gC_ok (p := GoodC env Try.prog 19 _) goodC_no fun _ _ h => ?_
  subst h
  refine qS_ok (p := GoodC env Try.prog 19 _) goodC_no fun _ h => ?_
  subst h
  refine vI_ok (p := GoodC env Try.prog 19 _) goodC_no fun _ h => ?_
  subst h
  refine gC_ok (p := GoodC env Try.prog 19 _) goodC_no fun _ _ h => ?_
  subst h
  refine qS_ok (p := GoodC env Try.prog 19 _) goodC_no fun _ h => ?_
  subst h
  refine vB_ok (p := GoodC env Try.prog 19 _) goodC_no fun _ h => ?_
  subst h
  refine gC_ok (p := GoodC env Try.prog 19 _) goodC_no fun _ _ h => ?_
  subst h
  refine qS_ok (p := GoodC env Try.prog 19 _) goodC_no fun _ h => ?_
  subst h
  refine vB_ok (p := GoodC env Try.prog 19 _) goodC_no fun _ h => ?_
  subst h
  refine gC_ok (p := GoodC env Try.prog 19 _) goodC_no fun _ _ h => ?_
  subst h
  refine qSl_ok (p := GoodC env Try.prog 19 _) goodC_no fun _ h => ?_
  subst h
  refine gE_ok (p := GoodC env Try.prog 19 _) goodC_no fun h => ?_
  subst h
  refine gE_ok (p := GoodC env Try.prog 19 _) goodC_no fun h => ?_
  subst h
  exact fun_good (fun_sound envOK (cs_sound _ (by exact trivial)) (f19.hok k) Try.func19 rfl) ((f19.ev k _ _ _ _ _ _ _ _ _ _ _ _ _ _ _ _ _ _ _ _).trans (f19.nat k _ _ _ _ _ _ _ _ _ _ _ _ _ _ _ _ _ _ _ _ _))
theorem f19.sound (k : Nat) : SoundC env Try.prog 19 (f19.e k).F := soundC_coer (f19.sound0 k) [[none, none, none, none, none, none, none, none, none, some 5], [none, none, none, none, none, none, none, none, none, some 5]]
theorem f19.says (k : Nat) (a1 : Int) (s2 : ByteArray) (s3 : ByteArray) (a4 : Int) (a5 : Int) (a6 : Int) (a7 : Int) (b8 : Bool) (b9 : Bool) (xs10 : List Int) (a11 : Int) (s12 : ByteArray) (s13 : ByteArray) (a14 : Int) (a15 : Int) (a16 : Int) (a17 : Int) (b18 : Bool) (b19 : Bool) (xs20 : List Int) (t22 : Bool) (h_ : f19 k a1 s2 s3 a4 a5 a6 a7 b8 b9 xs10 a11 s12 s13 a14 a15 a16 a17 b18 b19 xs20 = some t22) : SoundAt env Try.prog 19 [.g [.s (.int .i64 a1), .s (.string s2), .s (.string s3), .s (.int .i64 a4), .s (.int .i64 a5), .s (.int .i64 a6), .s (.int .i64 a7), .s (.bool b8), .s (.bool b9), .sl 5 xs10], .g [.s (.int .i64 a11), .s (.string s12), .s (.string s13), .s (.int .i64 a14), .s (.int .i64 a15), .s (.int .i64 a16), .s (.int .i64 a17), .s (.bool b18), .s (.bool b19), .sl 5 xs20]] ⟨.v (.c (.s (.bool t22))), [[], []]⟩ :=
  fun_sound envOK (cs_sound _ (by exact trivial)) (f19.hok k) Try.func19 rfl _ _ (((f19.ev k a1 s2 s3 a4 a5 a6 a7 b8 b9 xs10 a11 s12 s13 a14 a15 a16 a17 b18 b19 xs20).trans (f19.nat k _ a1 s2 s3 a4 a5 a6 a7 b8 b9 xs10 a11 s12 s13 a14 a15 a16 a17 b18 b19 xs20)).trans (by rw [h_]; rfl))
theorem f19.fnok : FnOK Try.prog 19 := fn_ok Try.func19 (by kernel_rfl) rfl
def f3.l11.step {R : Type} (k : Nat) (rec_ : Int → Int → (List Int) → Int → ByteArray → ByteArray → Int → Int → Int → Int → Bool → Bool → (List S24) → (List S24) → (List Int) → Option R) (ret : ((Bool × (List Int) × Int × ByteArray × ByteArray × Int × Int × Int × Int × Bool × Bool × (List Int)) ⊕ ((List Int) × Int × ByteArray × ByteArray × Int × Int × Int × Int × Bool × Bool × (List Int))) → Option R) (a9 : Int) (a10 : Int) (xs11 : List Int) (a12 : Int) (s13 : ByteArray) (s14 : ByteArray) (a15 : Int) (a16 : Int) (a17 : Int) (a18 : Int) (b19 : Bool) (b20 : Bool) (xs21 : List S24) (xs22 : List S24) (xs23 : List Int) : Option R :=
  if (decide (a10 < (((List.length xs21) : Nat) : Int))) = true then
    if (0 : Int) ≤ a10 then
      if a10 < ((List.length xs21 : Nat) : Int) then
        if (0 : Int) ≤ a10 then
          if a10 < ((List.length xs22 : Nat) : Int) then
            (f19 k (List.getD xs21 (Int.toNat a10) (⟨(0 : Int), ByteArray.empty, ByteArray.empty, (0 : Int), (0 : Int), (0 : Int), (0 : Int), false, false, []⟩ : S24)).f0 (List.getD xs21 (Int.toNat a10) (⟨(0 : Int), ByteArray.empty, ByteArray.empty, (0 : Int), (0 : Int), (0 : Int), (0 : Int), false, false, []⟩ : S24)).f1 (List.getD xs21 (Int.toNat a10) (⟨(0 : Int), ByteArray.empty, ByteArray.empty, (0 : Int), (0 : Int), (0 : Int), (0 : Int), false, false, []⟩ : S24)).f2 (List.getD xs21 (Int.toNat a10) (⟨(0 : Int), ByteArray.empty, ByteArray.empty, (0 : Int), (0 : Int), (0 : Int), (0 : Int), false, false, []⟩ : S24)).f3 (List.getD xs21 (Int.toNat a10) (⟨(0 : Int), ByteArray.empty, ByteArray.empty, (0 : Int), (0 : Int), (0 : Int), (0 : Int), false, false, []⟩ : S24)).f4 (List.getD xs21 (Int.toNat a10) (⟨(0 : Int), ByteArray.empty, ByteArray.empty, (0 : Int), (0 : Int), (0 : Int), (0 : Int), false, false, []⟩ : S24)).f5 (List.getD xs21 (Int.toNat a10) (⟨(0 : Int), ByteArray.empty, ByteArray.empty, (0 : Int), (0 : Int), (0 : Int), (0 : Int), false, false, []⟩ : S24)).f6 (List.getD xs21 (Int.toNat a10) (⟨(0 : Int), ByteArray.empty, ByteArray.empty, (0 : Int), (0 : Int), (0 : Int), (0 : Int), false, false, []⟩ : S24)).f7 (List.getD xs21 (Int.toNat a10) (⟨(0 : Int), ByteArray.empty, ByteArray.empty, (0 : Int), (0 : Int), (0 : Int), (0 : Int), false, false, []⟩ : S24)).f8 (List.getD xs21 (Int.toNat a10) (⟨(0 : Int), ByteArray.empty, ByteArray.empty, (0 : Int), (0 : Int), (0 : Int), (0 : Int), false, false, []⟩ : S24)).f9 (List.getD xs22 (Int.toNat a10) (⟨(0 : Int), ByteArray.empty, ByteArray.empty, (0 : Int), (0 : Int), (0 : Int), (0 : Int), false, false, []⟩ : S24)).f0 (List.getD xs22 (Int.toNat a10) (⟨(0 : Int), ByteArray.empty, ByteArray.empty, (0 : Int), (0 : Int), (0 : Int), (0 : Int), false, false, []⟩ : S24)).f1 (List.getD xs22 (Int.toNat a10) (⟨(0 : Int), ByteArray.empty, ByteArray.empty, (0 : Int), (0 : Int), (0 : Int), (0 : Int), false, false, []⟩ : S24)).f2 (List.getD xs22 (Int.toNat a10) (⟨(0 : Int), ByteArray.empty, ByteArray.empty, (0 : Int), (0 : Int), (0 : Int), (0 : Int), false, false, []⟩ : S24)).f3 (List.getD xs22 (Int.toNat a10) (⟨(0 : Int), ByteArray.empty, ByteArray.empty, (0 : Int), (0 : Int), (0 : Int), (0 : Int), false, false, []⟩ : S24)).f4 (List.getD xs22 (Int.toNat a10) (⟨(0 : Int), ByteArray.empty, ByteArray.empty, (0 : Int), (0 : Int), (0 : Int), (0 : Int), false, false, []⟩ : S24)).f5 (List.getD xs22 (Int.toNat a10) (⟨(0 : Int), ByteArray.empty, ByteArray.empty, (0 : Int), (0 : Int), (0 : Int), (0 : Int), false, false, []⟩ : S24)).f6 (List.getD xs22 (Int.toNat a10) (⟨(0 : Int), ByteArray.empty, ByteArray.empty, (0 : Int), (0 : Int), (0 : Int), (0 : Int), false, false, []⟩ : S24)).f7 (List.getD xs22 (Int.toNat a10) (⟨(0 : Int), ByteArray.empty, ByteArray.empty, (0 : Int), (0 : Int), (0 : Int), (0 : Int), false, false, []⟩ : S24)).f8 (List.getD xs22 (Int.toNat a10) (⟨(0 : Int), ByteArray.empty, ByteArray.empty, (0 : Int), (0 : Int), (0 : Int), (0 : Int), false, false, []⟩ : S24)).f9).bind fun t24 => if (!t24) = false then
                (f20 k (List.getD xs21 (Int.toNat a10) (⟨(0 : Int), ByteArray.empty, ByteArray.empty, (0 : Int), (0 : Int), (0 : Int), (0 : Int), false, false, []⟩ : S24)).f0 (List.getD xs21 (Int.toNat a10) (⟨(0 : Int), ByteArray.empty, ByteArray.empty, (0 : Int), (0 : Int), (0 : Int), (0 : Int), false, false, []⟩ : S24)).f1 (List.getD xs21 (Int.toNat a10) (⟨(0 : Int), ByteArray.empty, ByteArray.empty, (0 : Int), (0 : Int), (0 : Int), (0 : Int), false, false, []⟩ : S24)).f2 (List.getD xs21 (Int.toNat a10) (⟨(0 : Int), ByteArray.empty, ByteArray.empty, (0 : Int), (0 : Int), (0 : Int), (0 : Int), false, false, []⟩ : S24)).f3 (List.getD xs21 (Int.toNat a10) (⟨(0 : Int), ByteArray.empty, ByteArray.empty, (0 : Int), (0 : Int), (0 : Int), (0 : Int), false, false, []⟩ : S24)).f4 (List.getD xs21 (Int.toNat a10) (⟨(0 : Int), ByteArray.empty, ByteArray.empty, (0 : Int), (0 : Int), (0 : Int), (0 : Int), false, false, []⟩ : S24)).f5 (List.getD xs21 (Int.toNat a10) (⟨(0 : Int), ByteArray.empty, ByteArray.empty, (0 : Int), (0 : Int), (0 : Int), (0 : Int), false, false, []⟩ : S24)).f6 (List.getD xs21 (Int.toNat a10) (⟨(0 : Int), ByteArray.empty, ByteArray.empty, (0 : Int), (0 : Int), (0 : Int), (0 : Int), false, false, []⟩ : S24)).f7 (List.getD xs21 (Int.toNat a10) (⟨(0 : Int), ByteArray.empty, ByteArray.empty, (0 : Int), (0 : Int), (0 : Int), (0 : Int), false, false, []⟩ : S24)).f8 (List.getD xs21 (Int.toNat a10) (⟨(0 : Int), ByteArray.empty, ByteArray.empty, (0 : Int), (0 : Int), (0 : Int), (0 : Int), false, false, []⟩ : S24)).f9).bind fun t25 => if (!t25) = false then
                    if (decide ((IntKind.i64.wrap ((8 : Int) * (List.getD xs21 (Int.toNat a10) (⟨(0 : Int), ByteArray.empty, ByteArray.empty, (0 : Int), (0 : Int), (0 : Int), (0 : Int), false, false, []⟩ : S24)).f6)) ≠ (((List.length xs23) : Nat) : Int))) = false then
                      if (!((List.getD xs21 (Int.toNat a10) (⟨(0 : Int), ByteArray.empty, ByteArray.empty, (0 : Int), (0 : Int), (0 : Int), (0 : Int), false, false, []⟩ : S24)).f7 == (decide (a10 < (IntKind.i64.wrap ((((List.length xs21) : Nat) : Int) - (1 : Int))))))) = false then
                        if (decide ((IntKind.i64.wrap ((20 : Int) + (((List.length (List.getD xs21 (Int.toNat a10) (⟨(0 : Int), ByteArray.empty, ByteArray.empty, (0 : Int), (0 : Int), (0 : Int), (0 : Int), false, false, []⟩ : S24)).f9) : Nat) : Int))) > a9)) = true then
                          ret (.inl (false, xs11, a12, s13, s14, a15, a16, a17, a18, b19, b20, xs23))
                        else
                          if (List.length xs23 + List.length (List.getD xs21 (Int.toNat a10) (⟨(0 : Int), ByteArray.empty, ByteArray.empty, (0 : Int), (0 : Int), (0 : Int), (0 : Int), false, false, []⟩ : S24)).f9) * 1 ≤ maxN then
                            rec_ a9 (IntKind.i64.wrap (a10 + (1 : Int))) xs11 a12 s13 s14 a15 a16 a17 a18 b19 b20 xs21 xs22 (xs23 ++ (List.getD xs21 (Int.toNat a10) (⟨(0 : Int), ByteArray.empty, ByteArray.empty, (0 : Int), (0 : Int), (0 : Int), (0 : Int), false, false, []⟩ : S24)).f9)
                          else none
                      else
                        ret (.inl (false, xs11, a12, s13, s14, a15, a16, a17, a18, b19, b20, xs23))
                    else
                      ret (.inl (false, xs11, a12, s13, s14, a15, a16, a17, a18, b19, b20, xs23))
                  else
                    ret (.inl (false, xs11, a12, s13, s14, a15, a16, a17, a18, b19, b20, xs23))
              else
                ret (.inl (false, xs11, a12, s13, s14, a15, a16, a17, a18, b19, b20, xs23))
          else none
        else none
      else none
    else none
  else
    ret (.inr (xs11, a12, s13, s14, a15, a16, a17, a18, b19, b20, xs23))
def f3.l11 (k : Nat) : Nat → Int → Int → (List Int) → Int → ByteArray → ByteArray → Int → Int → Int → Int → Bool → Bool → (List S24) → (List S24) → (List Int) → Option ((Bool × (List Int) × Int × ByteArray × ByteArray × Int × Int × Int × Int × Bool × Bool × (List Int)) ⊕ ((List Int) × Int × ByteArray × ByteArray × Int × Int × Int × Int × Bool × Bool × (List Int)))
  | 0, _, _, _, _, _, _, _, _, _, _, _, _, _, _, _ => none
  | j + 1, a9, a10, xs11, a12, s13, s14, a15, a16, a17, a18, b19, b20, xs21, xs22, xs23 => f3.l11.step k (fun a9 a10 xs11 a12 s13 s14 a15 a16 a17 a18 b19 b20 xs21 xs22 xs23 => f3.l11 k j a9 a10 xs11 a12 s13 s14 a15 a16 a17 a18 b19 b20 xs21 xs22 xs23) some a9 a10 xs11 a12 s13 s14 a15 a16 a17 a18 b19 b20 xs21 xs22 xs23
def f3.l11.w {R : Type} : ((Bool × (List Int) × Int × ByteArray × ByteArray × Int × Int × Int × Int × Bool × Bool × (List Int)) ⊕ ((List Int) × Int × ByteArray × ByteArray × Int × Int × Int × Int × Bool × Bool × (List Int))) → (Exit → St env → Option R) → Option R := fun x K => Sum.elim (fun t52 => K .ret ⟨fullT [4, 5, 11] 0 112 [.v (.c (.s (.bool t52.1))), .v (.c (.bp 178 0)), .v (.c (.row 754))], [(162, .row true 5 t52.2.1), (178, .box [.s (.int .i64 t52.2.2.1), .s (.string t52.2.2.2.1), .s (.string t52.2.2.2.2.1), .s (.int .i64 t52.2.2.2.2.2.1), .s (.int .i64 t52.2.2.2.2.2.2.1), .s (.int .i64 t52.2.2.2.2.2.2.2.1), .s (.int .i64 t52.2.2.2.2.2.2.2.2.1), .s (.bool t52.2.2.2.2.2.2.2.2.2.1), .s (.bool t52.2.2.2.2.2.2.2.2.2.2.1), .row 162]), (754, .row true 5 t52.2.2.2.2.2.2.2.2.2.2.2)], 1714⟩) (fun t53 => K (.exit 0) ⟨fullT [5, 11] 0 112 [.v (.c (.bp 178 0)), .v (.c (.row 754))], [(162, .row true 5 t53.1), (178, .box [.s (.int .i64 t53.2.1), .s (.string t53.2.2.1), .s (.string t53.2.2.2.1), .s (.int .i64 t53.2.2.2.2.1), .s (.int .i64 t53.2.2.2.2.2.1), .s (.int .i64 t53.2.2.2.2.2.2.1), .s (.int .i64 t53.2.2.2.2.2.2.2.1), .s (.bool t53.2.2.2.2.2.2.2.2.1), .s (.bool t53.2.2.2.2.2.2.2.2.2.1), .row 162]), (754, .row true 5 t53.2.2.2.2.2.2.2.2.2.2)], 1714⟩) x
def f3.l11.st (a9 : Int) (a10 : Int) (xs11 : List Int) (a12 : Int) (s13 : ByteArray) (s14 : ByteArray) (a15 : Int) (a16 : Int) (a17 : Int) (a18 : Int) (b19 : Bool) (b20 : Bool) (xs21 : List S24) (xs22 : List S24) (xs23 : List Int) : St env := ⟨fullT [5, 6, 7, 9, 11, 12] 0 112 [.v (.c (.bp 178 0)), .v (.c (.s (.int .i64 a9))), .v (.c (.row 306)), .v (.c (.row 434)), .v (.c (.row 754)), .v (.c (.s (.int .i64 a10)))], [(162, .row true 5 xs11), (178, .box [.s (.int .i64 a12), .s (.string s13), .s (.string s14), .s (.int .i64 a15), .s (.int .i64 a16), .s (.int .i64 a17), .s (.int .i64 a18), .s (.bool b19), .s (.bool b20), .row 162]), (306, .row false 24 xs21), (434, .row false 24 xs22), (754, .row true 5 xs23)], 802⟩
def f3.l11_1.step {R : Type} (k : Nat) (rec_ : Int → Int → Int → ByteArray → ByteArray → Int → Int → Int → Int → Bool → Bool → (List S24) → (List S24) → (List Int) → Option R) (ret : ((Bool × Int × ByteArray × ByteArray × Int × Int × Int × Int × Bool × Bool × (List Int)) ⊕ (Int × ByteArray × ByteArray × Int × Int × Int × Int × Bool × Bool × (List Int))) → Option R) (a34 : Int) (a35 : Int) (a36 : Int) (s37 : ByteArray) (s38 : ByteArray) (a39 : Int) (a40 : Int) (a41 : Int) (a42 : Int) (b43 : Bool) (b44 : Bool) (xs45 : List S24) (xs46 : List S24) (xs47 : List Int) : Option R :=
  if (decide (a35 < (((List.length xs45) : Nat) : Int))) = true then
    if (0 : Int) ≤ a35 then
      if a35 < ((List.length xs45 : Nat) : Int) then
        if (0 : Int) ≤ a35 then
          if a35 < ((List.length xs46 : Nat) : Int) then
            (f19 k (List.getD xs45 (Int.toNat a35) (⟨(0 : Int), ByteArray.empty, ByteArray.empty, (0 : Int), (0 : Int), (0 : Int), (0 : Int), false, false, []⟩ : S24)).f0 (List.getD xs45 (Int.toNat a35) (⟨(0 : Int), ByteArray.empty, ByteArray.empty, (0 : Int), (0 : Int), (0 : Int), (0 : Int), false, false, []⟩ : S24)).f1 (List.getD xs45 (Int.toNat a35) (⟨(0 : Int), ByteArray.empty, ByteArray.empty, (0 : Int), (0 : Int), (0 : Int), (0 : Int), false, false, []⟩ : S24)).f2 (List.getD xs45 (Int.toNat a35) (⟨(0 : Int), ByteArray.empty, ByteArray.empty, (0 : Int), (0 : Int), (0 : Int), (0 : Int), false, false, []⟩ : S24)).f3 (List.getD xs45 (Int.toNat a35) (⟨(0 : Int), ByteArray.empty, ByteArray.empty, (0 : Int), (0 : Int), (0 : Int), (0 : Int), false, false, []⟩ : S24)).f4 (List.getD xs45 (Int.toNat a35) (⟨(0 : Int), ByteArray.empty, ByteArray.empty, (0 : Int), (0 : Int), (0 : Int), (0 : Int), false, false, []⟩ : S24)).f5 (List.getD xs45 (Int.toNat a35) (⟨(0 : Int), ByteArray.empty, ByteArray.empty, (0 : Int), (0 : Int), (0 : Int), (0 : Int), false, false, []⟩ : S24)).f6 (List.getD xs45 (Int.toNat a35) (⟨(0 : Int), ByteArray.empty, ByteArray.empty, (0 : Int), (0 : Int), (0 : Int), (0 : Int), false, false, []⟩ : S24)).f7 (List.getD xs45 (Int.toNat a35) (⟨(0 : Int), ByteArray.empty, ByteArray.empty, (0 : Int), (0 : Int), (0 : Int), (0 : Int), false, false, []⟩ : S24)).f8 (List.getD xs45 (Int.toNat a35) (⟨(0 : Int), ByteArray.empty, ByteArray.empty, (0 : Int), (0 : Int), (0 : Int), (0 : Int), false, false, []⟩ : S24)).f9 (List.getD xs46 (Int.toNat a35) (⟨(0 : Int), ByteArray.empty, ByteArray.empty, (0 : Int), (0 : Int), (0 : Int), (0 : Int), false, false, []⟩ : S24)).f0 (List.getD xs46 (Int.toNat a35) (⟨(0 : Int), ByteArray.empty, ByteArray.empty, (0 : Int), (0 : Int), (0 : Int), (0 : Int), false, false, []⟩ : S24)).f1 (List.getD xs46 (Int.toNat a35) (⟨(0 : Int), ByteArray.empty, ByteArray.empty, (0 : Int), (0 : Int), (0 : Int), (0 : Int), false, false, []⟩ : S24)).f2 (List.getD xs46 (Int.toNat a35) (⟨(0 : Int), ByteArray.empty, ByteArray.empty, (0 : Int), (0 : Int), (0 : Int), (0 : Int), false, false, []⟩ : S24)).f3 (List.getD xs46 (Int.toNat a35) (⟨(0 : Int), ByteArray.empty, ByteArray.empty, (0 : Int), (0 : Int), (0 : Int), (0 : Int), false, false, []⟩ : S24)).f4 (List.getD xs46 (Int.toNat a35) (⟨(0 : Int), ByteArray.empty, ByteArray.empty, (0 : Int), (0 : Int), (0 : Int), (0 : Int), false, false, []⟩ : S24)).f5 (List.getD xs46 (Int.toNat a35) (⟨(0 : Int), ByteArray.empty, ByteArray.empty, (0 : Int), (0 : Int), (0 : Int), (0 : Int), false, false, []⟩ : S24)).f6 (List.getD xs46 (Int.toNat a35) (⟨(0 : Int), ByteArray.empty, ByteArray.empty, (0 : Int), (0 : Int), (0 : Int), (0 : Int), false, false, []⟩ : S24)).f7 (List.getD xs46 (Int.toNat a35) (⟨(0 : Int), ByteArray.empty, ByteArray.empty, (0 : Int), (0 : Int), (0 : Int), (0 : Int), false, false, []⟩ : S24)).f8 (List.getD xs46 (Int.toNat a35) (⟨(0 : Int), ByteArray.empty, ByteArray.empty, (0 : Int), (0 : Int), (0 : Int), (0 : Int), false, false, []⟩ : S24)).f9).bind fun t48 => if (!t48) = false then
                (f20 k (List.getD xs45 (Int.toNat a35) (⟨(0 : Int), ByteArray.empty, ByteArray.empty, (0 : Int), (0 : Int), (0 : Int), (0 : Int), false, false, []⟩ : S24)).f0 (List.getD xs45 (Int.toNat a35) (⟨(0 : Int), ByteArray.empty, ByteArray.empty, (0 : Int), (0 : Int), (0 : Int), (0 : Int), false, false, []⟩ : S24)).f1 (List.getD xs45 (Int.toNat a35) (⟨(0 : Int), ByteArray.empty, ByteArray.empty, (0 : Int), (0 : Int), (0 : Int), (0 : Int), false, false, []⟩ : S24)).f2 (List.getD xs45 (Int.toNat a35) (⟨(0 : Int), ByteArray.empty, ByteArray.empty, (0 : Int), (0 : Int), (0 : Int), (0 : Int), false, false, []⟩ : S24)).f3 (List.getD xs45 (Int.toNat a35) (⟨(0 : Int), ByteArray.empty, ByteArray.empty, (0 : Int), (0 : Int), (0 : Int), (0 : Int), false, false, []⟩ : S24)).f4 (List.getD xs45 (Int.toNat a35) (⟨(0 : Int), ByteArray.empty, ByteArray.empty, (0 : Int), (0 : Int), (0 : Int), (0 : Int), false, false, []⟩ : S24)).f5 (List.getD xs45 (Int.toNat a35) (⟨(0 : Int), ByteArray.empty, ByteArray.empty, (0 : Int), (0 : Int), (0 : Int), (0 : Int), false, false, []⟩ : S24)).f6 (List.getD xs45 (Int.toNat a35) (⟨(0 : Int), ByteArray.empty, ByteArray.empty, (0 : Int), (0 : Int), (0 : Int), (0 : Int), false, false, []⟩ : S24)).f7 (List.getD xs45 (Int.toNat a35) (⟨(0 : Int), ByteArray.empty, ByteArray.empty, (0 : Int), (0 : Int), (0 : Int), (0 : Int), false, false, []⟩ : S24)).f8 (List.getD xs45 (Int.toNat a35) (⟨(0 : Int), ByteArray.empty, ByteArray.empty, (0 : Int), (0 : Int), (0 : Int), (0 : Int), false, false, []⟩ : S24)).f9).bind fun t49 => if (!t49) = false then
                    if (decide ((IntKind.i64.wrap ((8 : Int) * (List.getD xs45 (Int.toNat a35) (⟨(0 : Int), ByteArray.empty, ByteArray.empty, (0 : Int), (0 : Int), (0 : Int), (0 : Int), false, false, []⟩ : S24)).f6)) ≠ (((List.length xs47) : Nat) : Int))) = false then
                      if (!((List.getD xs45 (Int.toNat a35) (⟨(0 : Int), ByteArray.empty, ByteArray.empty, (0 : Int), (0 : Int), (0 : Int), (0 : Int), false, false, []⟩ : S24)).f7 == (decide (a35 < (IntKind.i64.wrap ((((List.length xs45) : Nat) : Int) - (1 : Int))))))) = false then
                        if (decide ((IntKind.i64.wrap ((20 : Int) + (((List.length (List.getD xs45 (Int.toNat a35) (⟨(0 : Int), ByteArray.empty, ByteArray.empty, (0 : Int), (0 : Int), (0 : Int), (0 : Int), false, false, []⟩ : S24)).f9) : Nat) : Int))) > a34)) = true then
                          ret (.inl (false, a36, s37, s38, a39, a40, a41, a42, b43, b44, xs47))
                        else
                          if (List.length xs47 + List.length (List.getD xs45 (Int.toNat a35) (⟨(0 : Int), ByteArray.empty, ByteArray.empty, (0 : Int), (0 : Int), (0 : Int), (0 : Int), false, false, []⟩ : S24)).f9) * 1 ≤ maxN then
                            rec_ a34 (IntKind.i64.wrap (a35 + (1 : Int))) a36 s37 s38 a39 a40 a41 a42 b43 b44 xs45 xs46 (xs47 ++ (List.getD xs45 (Int.toNat a35) (⟨(0 : Int), ByteArray.empty, ByteArray.empty, (0 : Int), (0 : Int), (0 : Int), (0 : Int), false, false, []⟩ : S24)).f9)
                          else none
                      else
                        ret (.inl (false, a36, s37, s38, a39, a40, a41, a42, b43, b44, xs47))
                    else
                      ret (.inl (false, a36, s37, s38, a39, a40, a41, a42, b43, b44, xs47))
                  else
                    ret (.inl (false, a36, s37, s38, a39, a40, a41, a42, b43, b44, xs47))
              else
                ret (.inl (false, a36, s37, s38, a39, a40, a41, a42, b43, b44, xs47))
          else none
        else none
      else none
    else none
  else
    ret (.inr (a36, s37, s38, a39, a40, a41, a42, b43, b44, xs47))
def f3.l11_1 (k : Nat) : Nat → Int → Int → Int → ByteArray → ByteArray → Int → Int → Int → Int → Bool → Bool → (List S24) → (List S24) → (List Int) → Option ((Bool × Int × ByteArray × ByteArray × Int × Int × Int × Int × Bool × Bool × (List Int)) ⊕ (Int × ByteArray × ByteArray × Int × Int × Int × Int × Bool × Bool × (List Int)))
  | 0, _, _, _, _, _, _, _, _, _, _, _, _, _, _ => none
  | j + 1, a34, a35, a36, s37, s38, a39, a40, a41, a42, b43, b44, xs45, xs46, xs47 => f3.l11_1.step k (fun a34 a35 a36 s37 s38 a39 a40 a41 a42 b43 b44 xs45 xs46 xs47 => f3.l11_1 k j a34 a35 a36 s37 s38 a39 a40 a41 a42 b43 b44 xs45 xs46 xs47) some a34 a35 a36 s37 s38 a39 a40 a41 a42 b43 b44 xs45 xs46 xs47
def f3.l11_1.w {R : Type} : ((Bool × Int × ByteArray × ByteArray × Int × Int × Int × Int × Bool × Bool × (List Int)) ⊕ (Int × ByteArray × ByteArray × Int × Int × Int × Int × Bool × Bool × (List Int))) → (Exit → St env → Option R) → Option R := fun x K => Sum.elim (fun t54 => K .ret ⟨fullT [4, 5, 11] 0 112 [.v (.c (.s (.bool t54.1))), .v (.c (.bp 178 0)), .v (.c (.row 754))], [(178, .box [.s (.int .i64 t54.2.1), .s (.string t54.2.2.1), .s (.string t54.2.2.2.1), .s (.int .i64 t54.2.2.2.2.1), .s (.int .i64 t54.2.2.2.2.2.1), .s (.int .i64 t54.2.2.2.2.2.2.1), .s (.int .i64 t54.2.2.2.2.2.2.2.1), .s (.bool t54.2.2.2.2.2.2.2.2.1), .s (.bool t54.2.2.2.2.2.2.2.2.2.1), .s (.slice none 0 0)]), (754, .row true 5 t54.2.2.2.2.2.2.2.2.2.2)], 1714⟩) (fun t55 => K (.exit 0) ⟨fullT [5, 11] 0 112 [.v (.c (.bp 178 0)), .v (.c (.row 754))], [(178, .box [.s (.int .i64 t55.1), .s (.string t55.2.1), .s (.string t55.2.2.1), .s (.int .i64 t55.2.2.2.1), .s (.int .i64 t55.2.2.2.2.1), .s (.int .i64 t55.2.2.2.2.2.1), .s (.int .i64 t55.2.2.2.2.2.2.1), .s (.bool t55.2.2.2.2.2.2.2.1), .s (.bool t55.2.2.2.2.2.2.2.2.1), .s (.slice none 0 0)]), (754, .row true 5 t55.2.2.2.2.2.2.2.2.2)], 1714⟩) x
def f3.l11_1.st (a34 : Int) (a35 : Int) (a36 : Int) (s37 : ByteArray) (s38 : ByteArray) (a39 : Int) (a40 : Int) (a41 : Int) (a42 : Int) (b43 : Bool) (b44 : Bool) (xs45 : List S24) (xs46 : List S24) (xs47 : List Int) : St env := ⟨fullT [5, 6, 7, 9, 11, 12] 0 112 [.v (.c (.bp 178 0)), .v (.c (.s (.int .i64 a34))), .v (.c (.row 306)), .v (.c (.row 434)), .v (.c (.row 754)), .v (.c (.s (.int .i64 a35)))], [(178, .box [.s (.int .i64 a36), .s (.string s37), .s (.string s38), .s (.int .i64 a39), .s (.int .i64 a40), .s (.int .i64 a41), .s (.int .i64 a42), .s (.bool b43), .s (.bool b44), .s (.slice none 0 0)]), (306, .row false 24 xs45), (434, .row false 24 xs46), (754, .row true 5 xs47)], 802⟩
def f3.l11_1.hd (k : Nat) (ts_ : List (AV env)) (mm_ : Mem env) (n_ : Nat) : LCl env :=
  gTs LCl.no [5, 6, 7, 9, 11, 12] 112 ts_ fun l_ => gV LCl.no l_ fun a_ l_ => rBp LCl.no 178 0 a_ <| gV LCl.no l_ fun a_ l_ => rV LCl.no a_ fun v_ => vI LCl.no .i64 v_ fun a34 => gV LCl.no l_ fun a_ l_ => rRow LCl.no 306 a_ <| gV LCl.no l_ fun a_ l_ => rRow LCl.no 434 a_ <| gV LCl.no l_ fun a_ l_ => rRow LCl.no 754 a_ <| gV LCl.no l_ fun a_ l_ => rV LCl.no a_ fun v_ => vI LCl.no .i64 v_ fun a35 => gE LCl.no l_ <| mBox LCl.no 178 mm_ fun c_ m_ => gC LCl.no c_ fun a_ c_ => rV LCl.no a_ fun v_ => vI LCl.no .i64 v_ fun a36 => gC LCl.no c_ fun a_ c_ => rV LCl.no a_ fun v_ => vS LCl.no v_ fun s37 => gC LCl.no c_ fun a_ c_ => rV LCl.no a_ fun v_ => vS LCl.no v_ fun s38 => gC LCl.no c_ fun a_ c_ => rV LCl.no a_ fun v_ => vI LCl.no .i64 v_ fun a39 => gC LCl.no c_ fun a_ c_ => rV LCl.no a_ fun v_ => vI LCl.no .i64 v_ fun a40 => gC LCl.no c_ fun a_ c_ => rV LCl.no a_ fun v_ => vI LCl.no .i64 v_ fun a41 => gC LCl.no c_ fun a_ c_ => rV LCl.no a_ fun v_ => vI LCl.no .i64 v_ fun a42 => gC LCl.no c_ fun a_ c_ => rV LCl.no a_ fun v_ => vB LCl.no v_ fun b43 => gC LCl.no c_ fun a_ c_ => rV LCl.no a_ fun v_ => vB LCl.no v_ fun b44 => gC LCl.no c_ fun a_ c_ => rV LCl.no a_ fun v_ => vNil LCl.no v_ <| gE LCl.no c_ <| mRow LCl.no 306 false 24 m_ fun xs45 m_ => mRow LCl.no 434 false 24 m_ fun xs46 m_ => mRow LCl.no 754 true 5 m_ fun xs47 m_ => gE LCl.no m_ <| gN LCl.no 802 n_ { α := (Bool × Int × ByteArray × ByteArray × Int × Int × Int × Int × Bool × Bool × (List Int)) ⊕ (Int × ByteArray × ByteArray × Int × Int × Int × Int × Bool × Bool × (List Int)), o := f3.l11_1 k k a34 a35 a36 s37 s38 a39 a40 a41 a42 b43 b44 xs45 xs46 xs47, w := f3.l11_1.w }
def f3.l11.hd (k : Nat) (ts_ : List (AV env)) (mm_ : Mem env) (n_ : Nat) : LCl env :=
  gTs (f3.l11_1.hd k ts_ mm_ n_) [5, 6, 7, 9, 11, 12] 112 ts_ fun l_ => gV (f3.l11_1.hd k ts_ mm_ n_) l_ fun a_ l_ => rBp (f3.l11_1.hd k ts_ mm_ n_) 178 0 a_ <| gV (f3.l11_1.hd k ts_ mm_ n_) l_ fun a_ l_ => rV (f3.l11_1.hd k ts_ mm_ n_) a_ fun v_ => vI (f3.l11_1.hd k ts_ mm_ n_) .i64 v_ fun a9 => gV (f3.l11_1.hd k ts_ mm_ n_) l_ fun a_ l_ => rRow (f3.l11_1.hd k ts_ mm_ n_) 306 a_ <| gV (f3.l11_1.hd k ts_ mm_ n_) l_ fun a_ l_ => rRow (f3.l11_1.hd k ts_ mm_ n_) 434 a_ <| gV (f3.l11_1.hd k ts_ mm_ n_) l_ fun a_ l_ => rRow (f3.l11_1.hd k ts_ mm_ n_) 754 a_ <| gV (f3.l11_1.hd k ts_ mm_ n_) l_ fun a_ l_ => rV (f3.l11_1.hd k ts_ mm_ n_) a_ fun v_ => vI (f3.l11_1.hd k ts_ mm_ n_) .i64 v_ fun a10 => gE (f3.l11_1.hd k ts_ mm_ n_) l_ <| mRow (f3.l11_1.hd k ts_ mm_ n_) 162 true 5 mm_ fun xs11 m_ => mBox (f3.l11_1.hd k ts_ mm_ n_) 178 m_ fun c_ m_ => gC (f3.l11_1.hd k ts_ mm_ n_) c_ fun a_ c_ => rV (f3.l11_1.hd k ts_ mm_ n_) a_ fun v_ => vI (f3.l11_1.hd k ts_ mm_ n_) .i64 v_ fun a12 => gC (f3.l11_1.hd k ts_ mm_ n_) c_ fun a_ c_ => rV (f3.l11_1.hd k ts_ mm_ n_) a_ fun v_ => vS (f3.l11_1.hd k ts_ mm_ n_) v_ fun s13 => gC (f3.l11_1.hd k ts_ mm_ n_) c_ fun a_ c_ => rV (f3.l11_1.hd k ts_ mm_ n_) a_ fun v_ => vS (f3.l11_1.hd k ts_ mm_ n_) v_ fun s14 => gC (f3.l11_1.hd k ts_ mm_ n_) c_ fun a_ c_ => rV (f3.l11_1.hd k ts_ mm_ n_) a_ fun v_ => vI (f3.l11_1.hd k ts_ mm_ n_) .i64 v_ fun a15 => gC (f3.l11_1.hd k ts_ mm_ n_) c_ fun a_ c_ => rV (f3.l11_1.hd k ts_ mm_ n_) a_ fun v_ => vI (f3.l11_1.hd k ts_ mm_ n_) .i64 v_ fun a16 => gC (f3.l11_1.hd k ts_ mm_ n_) c_ fun a_ c_ => rV (f3.l11_1.hd k ts_ mm_ n_) a_ fun v_ => vI (f3.l11_1.hd k ts_ mm_ n_) .i64 v_ fun a17 => gC (f3.l11_1.hd k ts_ mm_ n_) c_ fun a_ c_ => rV (f3.l11_1.hd k ts_ mm_ n_) a_ fun v_ => vI (f3.l11_1.hd k ts_ mm_ n_) .i64 v_ fun a18 => gC (f3.l11_1.hd k ts_ mm_ n_) c_ fun a_ c_ => rV (f3.l11_1.hd k ts_ mm_ n_) a_ fun v_ => vB (f3.l11_1.hd k ts_ mm_ n_) v_ fun b19 => gC (f3.l11_1.hd k ts_ mm_ n_) c_ fun a_ c_ => rV (f3.l11_1.hd k ts_ mm_ n_) a_ fun v_ => vB (f3.l11_1.hd k ts_ mm_ n_) v_ fun b20 => gC (f3.l11_1.hd k ts_ mm_ n_) c_ fun a_ c_ => rRow (f3.l11_1.hd k ts_ mm_ n_) 162 a_ <| gE (f3.l11_1.hd k ts_ mm_ n_) c_ <| mRow (f3.l11_1.hd k ts_ mm_ n_) 306 false 24 m_ fun xs21 m_ => mRow (f3.l11_1.hd k ts_ mm_ n_) 434 false 24 m_ fun xs22 m_ => mRow (f3.l11_1.hd k ts_ mm_ n_) 754 true 5 m_ fun xs23 m_ => gE (f3.l11_1.hd k ts_ mm_ n_) m_ <| gN (f3.l11_1.hd k ts_ mm_ n_) 802 n_ { α := (Bool × (List Int) × Int × ByteArray × ByteArray × Int × Int × Int × Int × Bool × Bool × (List Int)) ⊕ ((List Int) × Int × ByteArray × ByteArray × Int × Int × Int × Int × Bool × Bool × (List Int)), o := f3.l11 k k a9 a10 xs11 a12 s13 s14 a15 a16 a17 a18 b19 b20 xs21 xs22 xs23, w := f3.l11.w }
def f3.step {R : Type} (k : Nat) (ret : Bool → Option R) (xs1 : List Int) (xs2 : List Int) : Option R :=
  if (decide ((((List.length xs1) : Nat) : Int) > (1048576 : Int))) = false then
    if (decide ((((List.length xs2) : Nat) : Int) > (1048576 : Int))) = true then
      ret true
    else
      (f15 k xs1).bind (Sum.elim (fun t3 => (f16 k xs2 (0 : Int) (1400 : Int)).bind fun t4 => (f17 k t3.1 t3.2.1 t3.2.2.1 t3.2.2.2.1 t3.2.2.2.2.1 t3.2.2.2.2.2.1 t3.2.2.2.2.2.2.1 t3.2.2.2.2.2.2.2.1 t3.2.2.2.2.2.2.2.2.1 t3.2.2.2.2.2.2.2.2.2 (IntKind.i64.wrap ((28 : Int) + t4))).bind (Sum.elim (fun t5 => (f18 k t3.1 t3.2.1 t3.2.2.1 t3.2.2.2.1 t3.2.2.2.2.1 t3.2.2.2.2.2.1 t3.2.2.2.2.2.2.1 t3.2.2.2.2.2.2.2.1 t3.2.2.2.2.2.2.2.2.1 t3.2.2.2.2.2.2.2.2.2 (IntKind.i64.wrap ((28 : Int) + t4))).bind fun t6 => if (decide (t5 ≠ (0 : Int))) = false then
                if (decide ((0 : Int) ≠ (((List.length t6.1) : Nat) : Int))) = false then
                  ret false
                else
                  ret false
              else
                ret false) (fun t7 => (f18 k t3.1 t3.2.1 t3.2.2.1 t3.2.2.2.1 t3.2.2.2.2.1 t3.2.2.2.2.2.1 t3.2.2.2.2.2.2.1 t3.2.2.2.2.2.2.2.1 t3.2.2.2.2.2.2.2.2.1 t3.2.2.2.2.2.2.2.2.2 (IntKind.i64.wrap ((28 : Int) + t4))).bind fun t8 => if (decide (t7.2 ≠ (0 : Int))) = false then
                if (decide ((((List.length t7.1) : Nat) : Int) ≠ (((List.length t8.1) : Nat) : Int))) = false then
                  if (decide ((((List.length t7.1) : Nat) : Int) = (0 : Int))) = true then
                    ret false
                  else
                    (f3.l11 k k (IntKind.i64.wrap ((28 : Int) + t4)) (0 : Int) t3.2.2.2.2.2.2.2.2.2 t3.1 t3.2.1 t3.2.2.1 t3.2.2.2.1 t3.2.2.2.2.1 t3.2.2.2.2.2.1 t3.2.2.2.2.2.2.1 t3.2.2.2.2.2.2.2.1 t3.2.2.2.2.2.2.2.2.1 t7.1 t8.1 ([] : List Int)).bind (Sum.elim (fun t26 => ret t26.1) (fun t27 => ret (decide (ByteArray.toList (strOf t27.2.2.2.2.2.2.2.2.2.2) = ByteArray.toList (strOf t27.1)))))
                else
                  ret false
              else
                ret false))) (fun t28 => (f16 k xs2 (0 : Int) (1400 : Int)).bind fun t29 => (f17 k t28.1 t28.2.1 t28.2.2.1 t28.2.2.2.1 t28.2.2.2.2.1 t28.2.2.2.2.2.1 t28.2.2.2.2.2.2.1 t28.2.2.2.2.2.2.2.1 t28.2.2.2.2.2.2.2.2 ([] : List Int) (IntKind.i64.wrap ((28 : Int) + t29))).bind (Sum.elim (fun t30 => (f18 k t28.1 t28.2.1 t28.2.2.1 t28.2.2.2.1 t28.2.2.2.2.1 t28.2.2.2.2.2.1 t28.2.2.2.2.2.2.1 t28.2.2.2.2.2.2.2.1 t28.2.2.2.2.2.2.2.2 ([] : List Int) (IntKind.i64.wrap ((28 : Int) + t29))).bind fun t31 => if (decide (t30 ≠ (0 : Int))) = false then
                if (decide ((0 : Int) ≠ (((List.length t31.1) : Nat) : Int))) = false then
                  ret false
                else
                  ret false
              else
                ret false) (fun t32 => (f18 k t28.1 t28.2.1 t28.2.2.1 t28.2.2.2.1 t28.2.2.2.2.1 t28.2.2.2.2.2.1 t28.2.2.2.2.2.2.1 t28.2.2.2.2.2.2.2.1 t28.2.2.2.2.2.2.2.2 ([] : List Int) (IntKind.i64.wrap ((28 : Int) + t29))).bind fun t33 => if (decide (t32.2 ≠ (0 : Int))) = false then
                if (decide ((((List.length t32.1) : Nat) : Int) ≠ (((List.length t33.1) : Nat) : Int))) = false then
                  if (decide ((((List.length t32.1) : Nat) : Int) = (0 : Int))) = true then
                    ret false
                  else
                    (f3.l11_1 k k (IntKind.i64.wrap ((28 : Int) + t29)) (0 : Int) t28.1 t28.2.1 t28.2.2.1 t28.2.2.2.1 t28.2.2.2.2.1 t28.2.2.2.2.2.1 t28.2.2.2.2.2.2.1 t28.2.2.2.2.2.2.2.1 t28.2.2.2.2.2.2.2.2 t32.1 t33.1 ([] : List Int)).bind (Sum.elim (fun t50 => ret t50.1) (fun t51 => ret (decide (ByteArray.toList (strOf t51.2.2.2.2.2.2.2.2.2) = ByteArray.toList ByteArray.empty))))
                else
                  ret false
              else
                ret false))))
  else
    ret true
def f3 (k : Nat) (xs1 : List Int) (xs2 : List Int) : Option Bool := f3.step k some xs1 xs2
def f3.w {R : Type} : Bool → (Res env → Option R) → Option R := fun t56 K => K ⟨.v (.c (.s (.bool t56))), [[], []]⟩
theorem f3.wn (x : Bool) : ∃ res, ∀ {R : Type} (K : Res env → Option R), f3.w x K = K res := by
  exact ⟨_, fun _ => rfl⟩
def f3.hd (k : Nat) (ps_ : List (P2 env)) : Cl env :=
  gC Cl.no ps_ fun p_ ps_ => qC Cl.no p_ fun c_ => qSl Cl.no 5 c_ fun xs1 => gC Cl.no ps_ fun p_ ps_ => qC Cl.no p_ fun c_ => qSl Cl.no 5 c_ fun xs2 => gE Cl.no ps_ <| { α := Bool, o := f3 k xs1 xs2, w := f3.w, nat := fun x _ => f3.wn x }
def f3.e (k : Nat) : Entry env := ⟨fun ps => f3.hd k (coer [[some 5], [some 5]] ps)⟩
def f3.X (k : Nat) : Ctx env := { C := lookE [(15, f15.e k), (16, f16.e k), (17, f17.e k), (18, f18.e k), (19, f19.e k), (20, f20.e k)], L := lookE [(11, fun S => f3.l11.hd k S.ts S.m S.n)], J := lookE [], keep := lookD [(11, [5, 6, 7, 9, 11, 12])], keepX := lookD [(11, [4, 5, 11])], span := lookN [(11, 912)], eff := fun n => memN n [14], prep := lookP [(11, [.weak 306, .weak 434])] }
theorem f3.l11_1.nat {R : Type} (k : Nat) (rec_ : Int → Int → Int → ByteArray → ByteArray → Int → Int → Int → Int → Bool → Bool → (List S24) → (List S24) → (List Int) → Option ((Bool × Int × ByteArray × ByteArray × Int × Int × Int × Int × Bool × Bool × (List Int)) ⊕ (Int × ByteArray × ByteArray × Int × Int × Int × Int × Bool × Bool × (List Int)))) (g : ((Bool × Int × ByteArray × ByteArray × Int × Int × Int × Int × Bool × Bool × (List Int)) ⊕ (Int × ByteArray × ByteArray × Int × Int × Int × Int × Bool × Bool × (List Int))) → Option R) (a34 : Int) (a35 : Int) (a36 : Int) (s37 : ByteArray) (s38 : ByteArray) (a39 : Int) (a40 : Int) (a41 : Int) (a42 : Int) (b43 : Bool) (b44 : Bool) (xs45 : List S24) (xs46 : List S24) (xs47 : List Int) : (f3.l11_1.step k rec_ some a34 a35 a36 s37 s38 a39 a40 a41 a42 b43 b44 xs45 xs46 xs47).bind g = f3.l11_1.step k (fun a34 a35 a36 s37 s38 a39 a40 a41 a42 b43 b44 xs45 xs46 xs47 => (rec_ a34 a35 a36 s37 s38 a39 a40 a41 a42 b43 b44 xs45 xs46 xs47).bind g) g a34 a35 a36 s37 s38 a39 a40 a41 a42 b43 b44 xs45 xs46 xs47 := by
  simp only [f3.l11_1.step, bind_ite, bind_sum, Option.bind_assoc, Option.bind_some, Option.bind_none]
theorem f3.l11_1.good (k : Nat) (a34 : Int) (a35 : Int) (a36 : Int) (s37 : ByteArray) (s38 : ByteArray) (a39 : Int) (a40 : Int) (a41 : Int) (a42 : Int) (b43 : Bool) (b44 : Bool) (xs45 : List S24) (xs46 : List S24) (xs47 : List Int) : GoodL (f3.X k) (nthC 0 (loopsOf (bodyOf Try.f3))) (f3.l11_1.st a34 a35 a36 s37 s38 a39 a40 a41 a42 b43 b44 xs45 xs46 xs47) { α := ((Bool × Int × ByteArray × ByteArray × Int × Int × Int × Int × Bool × Bool × (List Int)) ⊕ (Int × ByteArray × ByteArray × Int × Int × Int × Int × Bool × Bool × (List Int))), o := f3.l11_1 k k a34 a35 a36 s37 s38 a39 a40 a41 a42 b43 b44 xs45 xs46 xs47, w := f3.l11_1.w } :=
  loop_good (ι := Int × Int × Int × ByteArray × ByteArray × Int × Int × Int × Int × Bool × Bool × (List S24) × (List S24) × (List Int)) (α := ((Bool × Int × ByteArray × ByteArray × Int × Int × Int × Int × Bool × Bool × (List Int)) ⊕ (Int × ByteArray × ByteArray × Int × Int × Int × Int × Bool × Bool × (List Int)))) (fun i => f3.l11_1.st i.1 i.2.1 i.2.2.1 i.2.2.2.1 i.2.2.2.2.1 i.2.2.2.2.2.1 i.2.2.2.2.2.2.1 i.2.2.2.2.2.2.2.1 i.2.2.2.2.2.2.2.2.1 i.2.2.2.2.2.2.2.2.2.1 i.2.2.2.2.2.2.2.2.2.2.1 i.2.2.2.2.2.2.2.2.2.2.2.1 i.2.2.2.2.2.2.2.2.2.2.2.2.1 i.2.2.2.2.2.2.2.2.2.2.2.2.2) (fun j i => f3.l11_1 k j i.1 i.2.1 i.2.2.1 i.2.2.2.1 i.2.2.2.2.1 i.2.2.2.2.2.1 i.2.2.2.2.2.2.1 i.2.2.2.2.2.2.2.1 i.2.2.2.2.2.2.2.2.1 i.2.2.2.2.2.2.2.2.2.1 i.2.2.2.2.2.2.2.2.2.2.1 i.2.2.2.2.2.2.2.2.2.2.2.1 i.2.2.2.2.2.2.2.2.2.2.2.2.1 i.2.2.2.2.2.2.2.2.2.2.2.2.2) f3.l11_1.w (fun rec_ ret i => f3.l11_1.step k (fun a34 a35 a36 s37 s38 a39 a40 a41 a42 b43 b44 xs45 xs46 xs47 => rec_ (a34, a35, a36, s37, s38, a39, a40, a41, a42, b43, b44, xs45, xs46, xs47)) ret i.1 i.2.1 i.2.2.1 i.2.2.2.1 i.2.2.2.2.1 i.2.2.2.2.2.1 i.2.2.2.2.2.2.1 i.2.2.2.2.2.2.2.1 i.2.2.2.2.2.2.2.2.1 i.2.2.2.2.2.2.2.2.2.1 i.2.2.2.2.2.2.2.2.2.2.1 i.2.2.2.2.2.2.2.2.2.2.2.1 i.2.2.2.2.2.2.2.2.2.2.2.2.1 i.2.2.2.2.2.2.2.2.2.2.2.2.2)
    (fun _ => rfl) (fun _ _ => rfl) (fun rec_ g i => f3.l11_1.nat k _ g i.1 i.2.1 i.2.2.1 i.2.2.2.1 i.2.2.2.2.1 i.2.2.2.2.2.1 i.2.2.2.2.2.2.1 i.2.2.2.2.2.2.2.1 i.2.2.2.2.2.2.2.2.1 i.2.2.2.2.2.2.2.2.2.1 i.2.2.2.2.2.2.2.2.2.2.1 i.2.2.2.2.2.2.2.2.2.2.2.1 i.2.2.2.2.2.2.2.2.2.2.2.2.1 i.2.2.2.2.2.2.2.2.2.2.2.2.2) (fun {R} i0 i rec_ K => by kernel_rfl) k (a34, a35, a36, s37, s38, a39, a40, a41, a42, b43, b44, xs45, xs46, xs47)
theorem f3.l11_1.all (k : Nat) (S : St env) : GoodL (f3.X k) (nthC 0 (loopsOf (bodyOf Try.f3))) S (f3.l11_1.hd k S.ts S.m S.n) := by
  obtain ⟨ts_, m_, n_⟩ := S
  show GoodL _ _ _ (f3.l11_1.hd k ts_ m_ n_)
  unfold f3.l11_1.hd
  refine gTs_ok (p := GoodL _ _ _) goodL_no fun _ h => ?_
  subst h
  refine gV_ok (p := GoodL _ _ _) goodL_no fun _ _ h => ?_
  subst h
  refine rBp_ok (p := GoodL _ _ _) goodL_no fun h => ?_
  subst h
  refine gV_ok (p := GoodL _ _ _) goodL_no fun _ _ h => ?_
  subst h
  refine rV_ok (p := GoodL _ _ _) goodL_no fun _ h => ?_
  subst h
  refine vI_ok (p := GoodL _ _ _) goodL_no fun _ h => ?_
  subst h
  refine gV_ok (p := GoodL _ _ _) goodL_no fun _ _ h => ?_
  subst h
  refine rRow_ok (p := GoodL _ _ _) goodL_no fun h => ?_
  subst h
  refine gV_ok (p := GoodL _ _ _) goodL_no fun _ _ h => ?_
  subst h
  refine rRow_ok (p := GoodL _ _ _) goodL_no fun h => ?_
  subst h
  refine gV_ok (p := GoodL _ _ _) goodL_no fun _ _ h => ?_
  subst h
  refine rRow_ok (p := GoodL _ _ _) goodL_no fun h => ?_
  subst h
  refine gV_ok (p := GoodL _ _ _) goodL_no fun _ _ h => ?_
  subst h
  refine rV_ok (p := GoodL _ _ _) goodL_no fun _ h => ?_
  subst h
  refine vI_ok (p := GoodL _ _ _) goodL_no fun _ h => ?_
  subst h
  refine gE_ok (p := GoodL _ _ _) goodL_no fun h => ?_
  subst h
  refine mBox_ok (p := GoodL _ _ _) goodL_no fun _ _ h => ?_
  subst h
  refine gC_ok (p := GoodL _ _ _) goodL_no fun _ _ h => ?_
  subst h
  refine rV_ok (p := GoodL _ _ _) goodL_no fun _ h => ?_
  subst h
  refine vI_ok (p := GoodL _ _ _) goodL_no fun _ h => ?_
  subst h
  refine gC_ok (p := GoodL _ _ _) goodL_no fun _ _ h => ?_
  subst h
  refine rV_ok (p := GoodL _ _ _) goodL_no fun _ h => ?_
  subst h
  refine vS_ok (p := GoodL _ _ _) goodL_no fun _ h => ?_
  subst h
  refine gC_ok (p := GoodL _ _ _) goodL_no fun _ _ h => ?_
  subst h
  refine rV_ok (p := GoodL _ _ _) goodL_no fun _ h => ?_
  subst h
  refine vS_ok (p := GoodL _ _ _) goodL_no fun _ h => ?_
  subst h
  refine gC_ok (p := GoodL _ _ _) goodL_no fun _ _ h => ?_
  subst h
  refine rV_ok (p := GoodL _ _ _) goodL_no fun _ h => ?_
  subst h
  refine vI_ok (p := GoodL _ _ _) goodL_no fun _ h => ?_
  subst h
  refine gC_ok (p := GoodL _ _ _) goodL_no fun _ _ h => ?_
  subst h
  refine rV_ok (p := GoodL _ _ _) goodL_no fun _ h => ?_
  subst h
  refine vI_ok (p := GoodL _ _ _) goodL_no fun _ h => ?_
  subst h
  refine gC_ok (p := GoodL _ _ _) goodL_no fun _ _ h => ?_
  subst h
  refine rV_ok (p := GoodL _ _ _) goodL_no fun _ h => ?_
  subst h
  refine vI_ok (p := GoodL _ _ _) goodL_no fun _ h => ?_
  subst h
  refine gC_ok (p := GoodL _ _ _) goodL_no fun _ _ h => ?_
  subst h
  refine rV_ok (p := GoodL _ _ _) goodL_no fun _ h => ?_
  subst h
  refine vI_ok (p := GoodL _ _ _) goodL_no fun _ h => ?_
  subst h
  refine gC_ok (p := GoodL _ _ _) goodL_no fun _ _ h => ?_
  subst h
  refine rV_ok (p := GoodL _ _ _) goodL_no fun _ h => ?_
  subst h
  refine vB_ok (p := GoodL _ _ _) goodL_no fun _ h => ?_
  subst h
  refine gC_ok (p := GoodL _ _ _) goodL_no fun _ _ h => ?_
  subst h
  refine rV_ok (p := GoodL _ _ _) goodL_no fun _ h => ?_
  subst h
  refine vB_ok (p := GoodL _ _ _) goodL_no fun _ h => ?_
  subst h
  refine gC_ok (p := GoodL _ _ _) goodL_no fun _ _ h => ?_
  subst h
  refine rV_ok (p := GoodL _ _ _) goodL_no fun _ h => ?_
  subst h
  refine vNil_ok (p := GoodL _ _ _) goodL_no fun h => ?_
  subst h
  refine gE_ok (p := GoodL _ _ _) goodL_no fun h => ?_
  subst h
  refine mRow_ok (p := GoodL _ _ _) goodL_no fun _ _ h => ?_
  subst h
  refine mRow_ok (p := GoodL _ _ _) goodL_no fun _ _ h => ?_
  subst h
  refine mRow_ok (p := GoodL _ _ _) goodL_no fun _ _ h => ?_
  subst h
  refine gE_ok (p := GoodL _ _ _) goodL_no fun h => ?_
  subst h
  refine gN_ok (p := GoodL _ _ _) goodL_no fun h => ?_
  subst h
  exact f3.l11_1.good k _ _ _ _ _ _ _ _ _ _ _ _ _ _
theorem f3.l11.nat {R : Type} (k : Nat) (rec_ : Int → Int → (List Int) → Int → ByteArray → ByteArray → Int → Int → Int → Int → Bool → Bool → (List S24) → (List S24) → (List Int) → Option ((Bool × (List Int) × Int × ByteArray × ByteArray × Int × Int × Int × Int × Bool × Bool × (List Int)) ⊕ ((List Int) × Int × ByteArray × ByteArray × Int × Int × Int × Int × Bool × Bool × (List Int)))) (g : ((Bool × (List Int) × Int × ByteArray × ByteArray × Int × Int × Int × Int × Bool × Bool × (List Int)) ⊕ ((List Int) × Int × ByteArray × ByteArray × Int × Int × Int × Int × Bool × Bool × (List Int))) → Option R) (a9 : Int) (a10 : Int) (xs11 : List Int) (a12 : Int) (s13 : ByteArray) (s14 : ByteArray) (a15 : Int) (a16 : Int) (a17 : Int) (a18 : Int) (b19 : Bool) (b20 : Bool) (xs21 : List S24) (xs22 : List S24) (xs23 : List Int) : (f3.l11.step k rec_ some a9 a10 xs11 a12 s13 s14 a15 a16 a17 a18 b19 b20 xs21 xs22 xs23).bind g = f3.l11.step k (fun a9 a10 xs11 a12 s13 s14 a15 a16 a17 a18 b19 b20 xs21 xs22 xs23 => (rec_ a9 a10 xs11 a12 s13 s14 a15 a16 a17 a18 b19 b20 xs21 xs22 xs23).bind g) g a9 a10 xs11 a12 s13 s14 a15 a16 a17 a18 b19 b20 xs21 xs22 xs23 := by
  simp only [f3.l11.step, bind_ite, bind_sum, Option.bind_assoc, Option.bind_some, Option.bind_none]
theorem f3.l11.good (k : Nat) (a9 : Int) (a10 : Int) (xs11 : List Int) (a12 : Int) (s13 : ByteArray) (s14 : ByteArray) (a15 : Int) (a16 : Int) (a17 : Int) (a18 : Int) (b19 : Bool) (b20 : Bool) (xs21 : List S24) (xs22 : List S24) (xs23 : List Int) : GoodL (f3.X k) (nthC 0 (loopsOf (bodyOf Try.f3))) (f3.l11.st a9 a10 xs11 a12 s13 s14 a15 a16 a17 a18 b19 b20 xs21 xs22 xs23) { α := ((Bool × (List Int) × Int × ByteArray × ByteArray × Int × Int × Int × Int × Bool × Bool × (List Int)) ⊕ ((List Int) × Int × ByteArray × ByteArray × Int × Int × Int × Int × Bool × Bool × (List Int))), o := f3.l11 k k a9 a10 xs11 a12 s13 s14 a15 a16 a17 a18 b19 b20 xs21 xs22 xs23, w := f3.l11.w } :=
  loop_good (ι := Int × Int × (List Int) × Int × ByteArray × ByteArray × Int × Int × Int × Int × Bool × Bool × (List S24) × (List S24) × (List Int)) (α := ((Bool × (List Int) × Int × ByteArray × ByteArray × Int × Int × Int × Int × Bool × Bool × (List Int)) ⊕ ((List Int) × Int × ByteArray × ByteArray × Int × Int × Int × Int × Bool × Bool × (List Int)))) (fun i => f3.l11.st i.1 i.2.1 i.2.2.1 i.2.2.2.1 i.2.2.2.2.1 i.2.2.2.2.2.1 i.2.2.2.2.2.2.1 i.2.2.2.2.2.2.2.1 i.2.2.2.2.2.2.2.2.1 i.2.2.2.2.2.2.2.2.2.1 i.2.2.2.2.2.2.2.2.2.2.1 i.2.2.2.2.2.2.2.2.2.2.2.1 i.2.2.2.2.2.2.2.2.2.2.2.2.1 i.2.2.2.2.2.2.2.2.2.2.2.2.2.1 i.2.2.2.2.2.2.2.2.2.2.2.2.2.2) (fun j i => f3.l11 k j i.1 i.2.1 i.2.2.1 i.2.2.2.1 i.2.2.2.2.1 i.2.2.2.2.2.1 i.2.2.2.2.2.2.1 i.2.2.2.2.2.2.2.1 i.2.2.2.2.2.2.2.2.1 i.2.2.2.2.2.2.2.2.2.1 i.2.2.2.2.2.2.2.2.2.2.1 i.2.2.2.2.2.2.2.2.2.2.2.1 i.2.2.2.2.2.2.2.2.2.2.2.2.1 i.2.2.2.2.2.2.2.2.2.2.2.2.2.1 i.2.2.2.2.2.2.2.2.2.2.2.2.2.2) f3.l11.w (fun rec_ ret i => f3.l11.step k (fun a9 a10 xs11 a12 s13 s14 a15 a16 a17 a18 b19 b20 xs21 xs22 xs23 => rec_ (a9, a10, xs11, a12, s13, s14, a15, a16, a17, a18, b19, b20, xs21, xs22, xs23)) ret i.1 i.2.1 i.2.2.1 i.2.2.2.1 i.2.2.2.2.1 i.2.2.2.2.2.1 i.2.2.2.2.2.2.1 i.2.2.2.2.2.2.2.1 i.2.2.2.2.2.2.2.2.1 i.2.2.2.2.2.2.2.2.2.1 i.2.2.2.2.2.2.2.2.2.2.1 i.2.2.2.2.2.2.2.2.2.2.2.1 i.2.2.2.2.2.2.2.2.2.2.2.2.1 i.2.2.2.2.2.2.2.2.2.2.2.2.2.1 i.2.2.2.2.2.2.2.2.2.2.2.2.2.2)
    (fun _ => rfl) (fun _ _ => rfl) (fun rec_ g i => f3.l11.nat k _ g i.1 i.2.1 i.2.2.1 i.2.2.2.1 i.2.2.2.2.1 i.2.2.2.2.2.1 i.2.2.2.2.2.2.1 i.2.2.2.2.2.2.2.1 i.2.2.2.2.2.2.2.2.1 i.2.2.2.2.2.2.2.2.2.1 i.2.2.2.2.2.2.2.2.2.2.1 i.2.2.2.2.2.2.2.2.2.2.2.1 i.2.2.2.2.2.2.2.2.2.2.2.2.1 i.2.2.2.2.2.2.2.2.2.2.2.2.2.1 i.2.2.2.2.2.2.2.2.2.2.2.2.2.2) (fun {R} i0 i rec_ K => by kernel_rfl) k (a9, a10, xs11, a12, s13, s14, a15, a16, a17, a18, b19, b20, xs21, xs22, xs23)
theorem f3.l11.all (k : Nat) (S : St env) : GoodL (f3.X k) (nthC 0 (loopsOf (bodyOf Try.f3))) S (f3.l11.hd k S.ts S.m S.n) := by
  obtain ⟨ts_, m_, n_⟩ := S
  have hN_ := f3.l11_1.all k ⟨ts_, m_, n_⟩
  show GoodL _ _ _ (f3.l11.hd k ts_ m_ n_)
  unfold f3.l11.hd
  refine gTs_ok (p := GoodL _ _ _) hN_ fun _ h => ?_
  subst h
  refine gV_ok (p := GoodL _ _ _) hN_ fun _ _ h => ?_
  subst h
  refine rBp_ok (p := GoodL _ _ _) hN_ fun h => ?_
  subst h
  refine gV_ok (p := GoodL _ _ _) hN_ fun _ _ h => ?_
  subst h
  refine rV_ok (p := GoodL _ _ _) hN_ fun _ h => ?_
  subst h
  refine vI_ok (p := GoodL _ _ _) hN_ fun _ h => ?_
  subst h
  refine gV_ok (p := GoodL _ _ _) hN_ fun _ _ h => ?_
  subst h
  refine rRow_ok (p := GoodL _ _ _) hN_ fun h => ?_
  subst h
  refine gV_ok (p := GoodL _ _ _) hN_ fun _ _ h => ?_
  subst h
  refine rRow_ok (p := GoodL _ _ _) hN_ fun h => ?_
  subst h
  refine gV_ok (p := GoodL _ _ _) hN_ fun _ _ h => ?_
  subst h
  refine rRow_ok (p := GoodL _ _ _) hN_ fun h => ?_
  subst h
  refine gV_ok (p := GoodL _ _ _) hN_ fun _ _ h => ?_
  subst h
  refine rV_ok (p := GoodL _ _ _) hN_ fun _ h => ?_
  subst h
  refine vI_ok (p := GoodL _ _ _) hN_ fun _ h => ?_
  subst h
  refine gE_ok (p := GoodL _ _ _) hN_ fun h => ?_
  subst h
  refine mRow_ok (p := GoodL _ _ _) hN_ fun _ _ h => ?_
  subst h
  refine mBox_ok (p := GoodL _ _ _) hN_ fun _ _ h => ?_
  subst h
  refine gC_ok (p := GoodL _ _ _) hN_ fun _ _ h => ?_
  subst h
  refine rV_ok (p := GoodL _ _ _) hN_ fun _ h => ?_
  subst h
  refine vI_ok (p := GoodL _ _ _) hN_ fun _ h => ?_
  subst h
  refine gC_ok (p := GoodL _ _ _) hN_ fun _ _ h => ?_
  subst h
  refine rV_ok (p := GoodL _ _ _) hN_ fun _ h => ?_
  subst h
  refine vS_ok (p := GoodL _ _ _) hN_ fun _ h => ?_
  subst h
  refine gC_ok (p := GoodL _ _ _) hN_ fun _ _ h => ?_
  subst h
  refine rV_ok (p := GoodL _ _ _) hN_ fun _ h => ?_
  subst h
  refine vS_ok (p := GoodL _ _ _) hN_ fun _ h => ?_
  subst h
  refine gC_ok (p := GoodL _ _ _) hN_ fun _ _ h => ?_
  subst h
  refine rV_ok (p := GoodL _ _ _) hN_ fun _ h => ?_
  subst h
  refine vI_ok (p := GoodL _ _ _) hN_ fun _ h => ?_
  subst h
  refine gC_ok (p := GoodL _ _ _) hN_ fun _ _ h => ?_
  subst h
  refine rV_ok (p := GoodL _ _ _) hN_ fun _ h => ?_
  subst h
  refine vI_ok (p := GoodL _ _ _) hN_ fun _ h => ?_
  subst h
  refine gC_ok (p := GoodL _ _ _) hN_ fun _ _ h => ?_
  subst h
  refine rV_ok (p := GoodL _ _ _) hN_ fun _ h => ?_
  subst h
  refine vI_ok (p := GoodL _ _ _) hN_ fun _ h => ?_
  subst h
  refine gC_ok (p := GoodL _ _ _) hN_ fun _ _ h => ?_
  subst h
  refine rV_ok (p := GoodL _ _ _) hN_ fun _ h => ?_
  subst h
  refine vI_ok (p := GoodL _ _ _) hN_ fun _ h => ?_
  subst h
  refine gC_ok (p := GoodL _ _ _) hN_ fun _ _ h => ?_
  subst h
  refine rV_ok (p := GoodL _ _ _) hN_ fun _ h => ?_
  subst h
  refine vB_ok (p := GoodL _ _ _) hN_ fun _ h => ?_
  subst h
  refine gC_ok (p := GoodL _ _ _) hN_ fun _ _ h => ?_
  subst h
  refine rV_ok (p := GoodL _ _ _) hN_ fun _ h => ?_
  subst h
  refine vB_ok (p := GoodL _ _ _) hN_ fun _ h => ?_
  subst h
  refine gC_ok (p := GoodL _ _ _) hN_ fun _ _ h => ?_
  subst h
  refine rRow_ok (p := GoodL _ _ _) hN_ fun h => ?_
  subst h
  refine gE_ok (p := GoodL _ _ _) hN_ fun h => ?_
  subst h
  refine mRow_ok (p := GoodL _ _ _) hN_ fun _ _ h => ?_
  subst h
  refine mRow_ok (p := GoodL _ _ _) hN_ fun _ _ h => ?_
  subst h
  refine mRow_ok (p := GoodL _ _ _) hN_ fun _ _ h => ?_
  subst h
  refine gE_ok (p := GoodL _ _ _) hN_ fun h => ?_
  subst h
  refine gN_ok (p := GoodL _ _ _) hN_ fun h => ?_
  subst h
  exact f3.l11.good k _ _ _ _ _ _ _ _ _ _ _ _ _ _ _
theorem f3.nat {R : Type} (k : Nat) (g : Bool → Option R) (xs1 : List Int) (xs2 : List Int) : f3.step k g xs1 xs2 = (f3 k xs1 xs2).bind g := by
  simp only [f3, f3.step, bind_ite, bind_sum, Option.bind_assoc, Option.bind_some, Option.bind_none]
theorem f3.ev (k : Nat) (xs1 : List Int) (xs2 : List Int) : evF (f3.X k) (bodyOf Try.f3) Try.f3.ntmps Try.f3.results.toList [.v (.c (.sl 5 xs1)), .v (.c (.sl 5 xs2))] = f3.step k (fun x => f3.w x some) xs1 xs2 := by kernel_rfl
theorem f3.hok (k : Nat) : HOK (f3.X k) (bodyOf Try.f3) where
  l := allP_mem (by exact ⟨ls_of (h0 := fun S => f3.l11.hd k S.ts S.m S.n) (by kernel_rfl) (f3.l11.all k), trivial⟩)
  j := allP_mem (by exact trivial)
theorem f3.sound0 (k : Nat) : SoundC env Try.prog 3 (f3.hd k) := by
  intro ps_
  show GoodC _ _ _ ps_ (f3.hd k ps_)
  unfold f3.hd
  refine gC_ok (p := GoodC env Try.prog 3 _) goodC_no fun _ _ h => ?_
  subst h
  refine qC_ok (p := GoodC env Try.prog 3 _) goodC_no fun _ h => ?_
  subst h
  refine qSl_ok (p := GoodC env Try.prog 3 _) goodC_no fun _ h => ?_
  subst h
  refine gC_ok (p := GoodC env Try.prog 3 _) goodC_no fun _ _ h => ?_
  subst h
  refine qC_ok (p := GoodC env Try.prog 3 _) goodC_no fun _ h => ?_
  subst h
  refine qSl_ok (p := GoodC env Try.prog 3 _) goodC_no fun _ h => ?_
  subst h
  refine gE_ok (p := GoodC env Try.prog 3 _) goodC_no fun h => ?_
  subst h
  exact fun_good (fun_sound envOK (cs_sound _ (by exact ⟨⟨f15.sound k, f15.fnok⟩, ⟨f16.sound k, f16.fnok⟩, ⟨f17.sound k, f17.fnok⟩, ⟨f18.sound k, f18.fnok⟩, ⟨f19.sound k, f19.fnok⟩, ⟨f20.sound k, f20.fnok⟩, trivial⟩)) (f3.hok k) Try.func3 rfl) ((f3.ev k _ _).trans (f3.nat k _ _ _))
theorem f3.sound (k : Nat) : SoundC env Try.prog 3 (f3.e k).F := soundC_coer (f3.sound0 k) [[some 5], [some 5]]
theorem f3.says (k : Nat) (xs1 : List Int) (xs2 : List Int) (t57 : Bool) (h_ : f3 k xs1 xs2 = some t57) : SoundAt env Try.prog 3 [.v (.c (.sl 5 xs1)), .v (.c (.sl 5 xs2))] ⟨.v (.c (.s (.bool t57))), [[], []]⟩ :=
  fun_sound envOK (cs_sound _ (by exact ⟨⟨f15.sound k, f15.fnok⟩, ⟨f16.sound k, f16.fnok⟩, ⟨f17.sound k, f17.fnok⟩, ⟨f18.sound k, f18.fnok⟩, ⟨f19.sound k, f19.fnok⟩, ⟨f20.sound k, f20.fnok⟩, trivial⟩)) (f3.hok k) Try.func3 rfl _ _ (((f3.ev k xs1 xs2).trans (f3.nat k _ xs1 xs2)).trans (by rw [h_]; rfl))
theorem f3.fnok : FnOK Try.prog 3 := fn_ok Try.func3 (by kernel_rfl) rfl
end Go.Proofs.Ytildepkogbcdpaa.B

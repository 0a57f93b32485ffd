/- Written by a program of this session. -/
import Derived.Test.YtildepkogbcdpaaBEnv
import Derived.Test.YtildepkogbcdpaaBHd
namespace Go.Proofs.Ytildepkogbcdpaa.B
open Go Go.B
set_option linter.unusedVariables false
set_option linter.unusedSimpArgs false
def f184.step {R : Type} (k : Nat) (ret : Int → Option R) (xs1 : List S242) (a2 : Int) : Option R :=
  if (decide ((IntKind.i64.wrap (a2 - (((List.length xs1) : Nat) : Int))) < (0 : Int))) = true then
    ret (-1 : Int)
  else
    ret (IntKind.i64.wrap (a2 - (((List.length xs1) : Nat) : Int)))
def f184 (k : Nat) (xs1 : List S242) (a2 : Int) : Option Int := f184.step k some xs1 a2
def f184.w {R : Type} : Int → (Res env → Option R) → Option R := fun t3 K => K ⟨.v (.c (.s (.int .i64 t3))), [[], []]⟩
theorem f184.wn (x : Int) : ∃ res, ∀ {R : Type} (K : Res env → Option R), f184.w x K = K res := by
  exact ⟨_, fun _ => rfl⟩
def f184.hd (k : Nat) (ps_ : List (P2 env)) : Cl env :=
  gC Cl.no ps_ fun p_ ps_ => qC Cl.no p_ fun c_ => qSl Cl.no 242 c_ fun xs1 => gC Cl.no ps_ fun p_ ps_ => qC Cl.no p_ fun c_ => qS Cl.no c_ fun v_ => vI Cl.no .i64 v_ fun a2 => gE Cl.no ps_ <| { α := Int, o := f184 k xs1 a2, w := f184.w, nat := fun x _ => f184.wn x }
def f184.e (k : Nat) : Entry env := ⟨f184.hd k⟩
def f184.X (k : Nat) : Ctx env := { C := lookE [], L := lookE [], J := lookE [], keep := lookD [], keepX := lookD [], span := lookN [], eff := fun n => memN n [] }
theorem f184.nat {R : Type} (k : Nat) (g : Int → Option R) (xs1 : List S242) (a2 : Int) : f184.step k g xs1 a2 = (f184 k xs1 a2).bind g := by
  simp only [f184, f184.step, bind_ite, bind_sum, Option.bind_assoc, Option.bind_some, Option.bind_none]
theorem f184.ev (k : Nat) (xs1 : List S242) (a2 : Int) : evF (f184.X k) (bodyOf Try.f184) Try.f184.ntmps Try.f184.results.toList [.v (.c (.sl 242 xs1)), .v (.c (.s (.int .i64 a2)))] = f184.step k (fun x => f184.w x some) xs1 a2 := by kernel_rfl
theorem f184.hok (k : Nat) : HOK (f184.X k) (bodyOf Try.f184) where
  l := allP_mem (by exact trivial)
  j := allP_mem (by exact trivial)
theorem f184.sound (k : Nat) : SoundC env Try.prog 184 (f184.e k).F := by
  intro ps_
  show GoodC _ _ _ ps_ (f184.hd k ps_)
  unfold f184.hd
  refine gC_ok (p := GoodC env Try.prog 184 _) goodC_no fun _ _ h => ?_
  subst h
  refine qC_ok (p := GoodC env Try.prog 184 _) goodC_no fun _ h => ?_
  subst h
  refine qSl_ok (p := GoodC env Try.prog 184 _) goodC_no fun _ h => ?_
  subst h
  refine gC_ok (p := GoodC env Try.prog 184 _) goodC_no fun _ _ h => ?_
  subst h
  refine qC_ok (p := GoodC env Try.prog 184 _) goodC_no fun _ h => ?_
  subst h
  refine qS_ok (p := GoodC env Try.prog 184 _) goodC_no fun _ h => ?_
  subst h
  refine vI_ok (p := GoodC env Try.prog 184 _) goodC_no fun _ h => ?_
  subst h
  refine gE_ok (p := GoodC env Try.prog 184 _) goodC_no fun h => ?_
  subst h
  exact fun_good (fun_sound envOK (cs_sound _ (by exact trivial)) (f184.hok k) Try.func184 rfl) ((f184.ev k _ _).trans (f184.nat k _ _ _))
theorem f184.says (k : Nat) (xs1 : List S242) (a2 : Int) (t4 : Int) (h_ : f184 k xs1 a2 = some t4) : SoundAt env Try.prog 184 [.v (.c (.sl 242 xs1)), .v (.c (.s (.int .i64 a2)))] ⟨.v (.c (.s (.int .i64 t4))), [[], []]⟩ :=
  fun_sound envOK (cs_sound _ (by exact trivial)) (f184.hok k) Try.func184 rfl _ _ (((f184.ev k xs1 a2).trans (f184.nat k _ xs1 a2)).trans (by rw [h_]; rfl))
theorem f184.fnok : FnOK Try.prog 184 := fn_ok Try.func184 (by kernel_rfl) rfl
def f153.step {R : Type} (k : Nat) (ret : Int → Option R) (a1 : Int) (a2 : Int) (xs3 : List S242) (a4 : Int) (a5 : Int) (a6 : Int) (a7 : Int) : Option R :=
  (f184 k xs3 a7).bind fun t8 => if (decide (t8 < (0 : Int))) = true then
      ret (-1 : Int)
    else
      ret t8
def f153 (k : Nat) (a1 : Int) (a2 : Int) (xs3 : List S242) (a4 : Int) (a5 : Int) (a6 : Int) (a7 : Int) : Option Int := f153.step k some a1 a2 xs3 a4 a5 a6 a7
def f153.w {R : Type} : Int → (Res env → Option R) → Option R := fun t9 K => K ⟨.v (.c (.s (.int .i64 t9))), [[], []]⟩
theorem f153.wn (x : Int) : ∃ res, ∀ {R : Type} (K : Res env → Option R), f153.w x K = K res := by
  exact ⟨_, fun _ => rfl⟩
def f153.hd (k : Nat) (ps_ : List (P2 env)) : Cl env :=
  gC Cl.no ps_ fun p_ ps_ => qG Cl.no p_ fun cs_ => gC Cl.no cs_ fun c_ cs_ => qS Cl.no c_ fun v_ => vI Cl.no .i64 v_ fun a1 => gC Cl.no cs_ fun c_ cs_ => qS Cl.no c_ fun v_ => vI Cl.no .i64 v_ fun a2 => gC Cl.no cs_ fun c_ cs_ => qSl Cl.no 242 c_ fun xs3 => gC Cl.no cs_ fun c_ cs_ => qS Cl.no c_ fun v_ => vI Cl.no .i64 v_ fun a4 => gC Cl.no cs_ fun c_ cs_ => qS Cl.no c_ fun v_ => vI Cl.no .i64 v_ fun a5 => gC Cl.no cs_ fun c_ cs_ => qS Cl.no c_ fun v_ => vI Cl.no .i64 v_ fun a6 => gE Cl.no cs_ <| gC Cl.no ps_ fun p_ ps_ => qC Cl.no p_ fun c_ => qS Cl.no c_ fun v_ => vI Cl.no .i64 v_ fun a7 => gE Cl.no ps_ <| { α := Int, o := f153 k a1 a2 xs3 a4 a5 a6 a7, w := f153.w, nat := fun x _ => f153.wn x }
def f153.e (k : Nat) : Entry env := ⟨f153.hd k⟩
def f153.X (k : Nat) : Ctx env := { C := lookE [(184, f184.e k)], L := lookE [], J := lookE [], keep := lookD [], keepX := lookD [], span := lookN [], eff := fun n => memN n [] }
theorem f153.nat {R : Type} (k : Nat) (g : Int → Option R) (a1 : Int) (a2 : Int) (xs3 : List S242) (a4 : Int) (a5 : Int) (a6 : Int) (a7 : Int) : f153.step k g a1 a2 xs3 a4 a5 a6 a7 = (f153 k a1 a2 xs3 a4 a5 a6 a7).bind g := by
  simp only [f153, f153.step, bind_ite, bind_sum, Option.bind_assoc, Option.bind_some, Option.bind_none]
theorem f153.ev (k : Nat) (a1 : Int) (a2 : Int) (xs3 : List S242) (a4 : Int) (a5 : Int) (a6 : Int) (a7 : Int) : evF (f153.X k) (bodyOf Try.f153) Try.f153.ntmps Try.f153.results.toList [.g [.s (.int .i64 a1), .s (.int .i64 a2), .sl 242 xs3, .s (.int .i64 a4), .s (.int .i64 a5), .s (.int .i64 a6)], .v (.c (.s (.int .i64 a7)))] = f153.step k (fun x => f153.w x some) a1 a2 xs3 a4 a5 a6 a7 := by kernel_rfl
theorem f153.hok (k : Nat) : HOK (f153.X k) (bodyOf Try.f153) where
  l := allP_mem (by exact trivial)
  j := allP_mem (by exact trivial)
theorem f153.sound (k : Nat) : SoundC env Try.prog 153 (f153.e k).F := by
  intro ps_
  show GoodC _ _ _ ps_ (f153.hd k ps_)
  unfold f153.hd
  refine gC_ok (p := GoodC env Try.prog 153 _) goodC_no fun _ _ h => ?_
  subst h
  refine qG_ok (p := GoodC env Try.prog 153 _) goodC_no fun _ h => ?_
  subst h
  refine gC_ok (p := GoodC env Try.prog 153 _) goodC_no fun _ _ h => ?_
  subst h
  refine qS_ok (p := GoodC env Try.prog 153 _) goodC_no fun _ h => ?_
  subst h
  refine vI_ok (p := GoodC env Try.prog 153 _) goodC_no fun _ h => ?_
  subst h
  refine gC_ok (p := GoodC env Try.prog 153 _) goodC_no fun _ _ h => ?_
  subst h
  refine qS_ok (p := GoodC env Try.prog 153 _) goodC_no fun _ h => ?_
  subst h
  refine vI_ok (p := GoodC env Try.prog 153 _) goodC_no fun _ h => ?_
  subst h
  refine gC_ok (p := GoodC env Try.prog 153 _) goodC_no fun _ _ h => ?_
  subst h
  refine qSl_ok (p := GoodC env Try.prog 153 _) goodC_no fun _ h => ?_
  subst h
  refine gC_ok (p := GoodC env Try.prog 153 _) goodC_no fun _ _ h => ?_
  subst h
  refine qS_ok (p := GoodC env Try.prog 153 _) goodC_no fun _ h => ?_
  subst h
  refine vI_ok (p := GoodC env Try.prog 153 _) goodC_no fun _ h => ?_
  subst h
  refine gC_ok (p := GoodC env Try.prog 153 _) goodC_no fun _ _ h => ?_
  subst h
  refine qS_ok (p := GoodC env Try.prog 153 _) goodC_no fun _ h => ?_
  subst h
  refine vI_ok (p := GoodC env Try.prog 153 _) goodC_no fun _ h => ?_
  subst h
  refine gC_ok (p := GoodC env Try.prog 153 _) goodC_no fun _ _ h => ?_
  subst h
  refine qS_ok (p := GoodC env Try.prog 153 _) goodC_no fun _ h => ?_
  subst h
  refine vI_ok (p := GoodC env Try.prog 153 _) goodC_no fun _ h => ?_
  subst h
  refine gE_ok (p := GoodC env Try.prog 153 _) goodC_no fun h => ?_
  subst h
  refine gC_ok (p := GoodC env Try.prog 153 _) goodC_no fun _ _ h => ?_
  subst h
  refine qC_ok (p := GoodC env Try.prog 153 _) goodC_no fun _ h => ?_
  subst h
  refine qS_ok (p := GoodC env Try.prog 153 _) goodC_no fun _ h => ?_
  subst h
  refine vI_ok (p := GoodC env Try.prog 153 _) goodC_no fun _ h => ?_
  subst h
  refine gE_ok (p := GoodC env Try.prog 153 _) goodC_no fun h => ?_
  subst h
  exact fun_good (fun_sound envOK (cs_sound _ (by exact ⟨⟨f184.sound k, f184.fnok⟩, trivial⟩)) (f153.hok k) Try.func153 rfl) ((f153.ev k _ _ _ _ _ _ _).trans (f153.nat k _ _ _ _ _ _ _ _))
theorem f153.says (k : Nat) (a1 : Int) (a2 : Int) (xs3 : List S242) (a4 : Int) (a5 : Int) (a6 : Int) (a7 : Int) (t10 : Int) (h_ : f153 k a1 a2 xs3 a4 a5 a6 a7 = some t10) : SoundAt env Try.prog 153 [.g [.s (.int .i64 a1), .s (.int .i64 a2), .sl 242 xs3, .s (.int .i64 a4), .s (.int .i64 a5), .s (.int .i64 a6)], .v (.c (.s (.int .i64 a7)))] ⟨.v (.c (.s (.int .i64 t10))), [[], []]⟩ :=
  fun_sound envOK (cs_sound _ (by exact ⟨⟨f184.sound k, f184.fnok⟩, trivial⟩)) (f153.hok k) Try.func153 rfl _ _ (((f153.ev k a1 a2 xs3 a4 a5 a6 a7).trans (f153.nat k _ a1 a2 xs3 a4 a5 a6 a7)).trans (by rw [h_]; rfl))
theorem f153.fnok : FnOK Try.prog 153 := fn_ok Try.func153 (by kernel_rfl) rfl
def f96.l5.step {R : Type} (k : Nat) (rec_ : (List S189) → Int → Int → Option R) (ret : ((Int × Int) ⊕ (Int)) → Option R) (xs3 : List S189) (a4 : Int) (a5 : Int) : Option R :=
  if (decide (a5 < (((List.length xs3) : Nat) : Int))) = true then
    if (0 : Int) ≤ a5 then
      if a5 < ((List.length xs3 : Nat) : Int) then
        (f153 k (List.getD xs3 (Int.toNat a5) (⟨(0 : Int), (0 : Int), [], (0 : Int), (0 : Int), (0 : Int)⟩ : S189)).f0 (List.getD xs3 (Int.toNat a5) (⟨(0 : Int), (0 : Int), [], (0 : Int), (0 : Int), (0 : Int)⟩ : S189)).f1 (List.getD xs3 (Int.toNat a5) (⟨(0 : Int), (0 : Int), [], (0 : Int), (0 : Int), (0 : Int)⟩ : S189)).f2 (List.getD xs3 (Int.toNat a5) (⟨(0 : Int), (0 : Int), [], (0 : Int), (0 : Int), (0 : Int)⟩ : S189)).f3 (List.getD xs3 (Int.toNat a5) (⟨(0 : Int), (0 : Int), [], (0 : Int), (0 : Int), (0 : Int)⟩ : S189)).f4 (List.getD xs3 (Int.toNat a5) (⟨(0 : Int), (0 : Int), [], (0 : Int), (0 : Int), (0 : Int)⟩ : S189)).f5 a4).bind fun t6 => if (decide (t6 < (0 : Int))) = true then
            ret (.inl (t6, (-1 : Int)))
          else
            rec_ xs3 t6 (IntKind.i64.wrap (a5 + (1 : Int)))
      else none
    else none
  else
    ret (.inr a4)
def f96.l5 (k : Nat) : Nat → (List S189) → Int → Int → Option ((Int × Int) ⊕ (Int))
  | 0, _, _, _ => none
  | j + 1, xs3, a4, a5 => f96.l5.step k (fun xs3 a4 a5 => f96.l5 k j xs3 a4 a5) some xs3 a4 a5
def f96.l5.w {R : Type} : ((Int × Int) ⊕ (Int)) → (Exit → St env → Option R) → Option R := fun x K => Sum.elim (fun t9 => K .ret ⟨fullT [1, 4] 0 27 [.v (.c (.s (.int .i64 t9.1))), .v (.c (.s (.int .i64 t9.2)))], [], 418⟩) (fun t10 => K (.exit 0) ⟨fullT [1] 0 27 [.v (.c (.s (.int .i64 t10)))], [], 418⟩) x
def f96.l5.st (xs3 : List S189) (a4 : Int) (a5 : Int) : St env := ⟨fullT [0, 1, 5] 0 27 [.v (.c (.imm 189 xs3)), .v (.c (.s (.int .i64 a4))), .v (.c (.s (.int .i64 a5)))], [], 146⟩
def f96.l5.hd (k : Nat) (ts_ : List (AV env)) (mm_ : Mem env) (n_ : Nat) : LCl env :=
  gTs LCl.no [0, 1, 5] 27 ts_ fun l_ => gV LCl.no l_ fun a_ l_ => rImm LCl.no 189 a_ fun xs3 => gV LCl.no l_ fun a_ l_ => rV LCl.no a_ fun v_ => vI LCl.no .i64 v_ fun a4 => gV LCl.no l_ fun a_ l_ => rV LCl.no a_ fun v_ => vI LCl.no .i64 v_ fun a5 => gE LCl.no l_ <| gE LCl.no mm_ <| gN LCl.no 146 n_ { α := (Int × Int) ⊕ (Int), o := f96.l5 k k xs3 a4 a5, w := f96.l5.w }
def f96.step {R : Type} (k : Nat) (ret : Int → Option R) (xs1 : List S189) (a2 : Int) : Option R :=
  if (decide ((IntKind.i64.wrap (a2 - (((List.length xs1) : Nat) : Int))) < (0 : Int))) = true then
    ret (-1 : Int)
  else
    (f96.l5 k k xs1 (IntKind.i64.wrap (a2 - (((List.length xs1) : Nat) : Int))) (0 : Int)).bind (Sum.elim (fun t7 => ret t7.2) (fun t8 => ret t8))
def f96 (k : Nat) (xs1 : List S189) (a2 : Int) : Option Int := f96.step k some xs1 a2
def f96.w {R : Type} : Int → (Res env → Option R) → Option R := fun t11 K => K ⟨.v (.c (.s (.int .i64 t11))), [[], []]⟩
theorem f96.wn (x : Int) : ∃ res, ∀ {R : Type} (K : Res env → Option R), f96.w x K = K res := by
  exact ⟨_, fun _ => rfl⟩
def f96.hd (k : Nat) (ps_ : List (P2 env)) : Cl env :=
  gC Cl.no ps_ fun p_ ps_ => qC Cl.no p_ fun c_ => qSl Cl.no 189 c_ fun xs1 => gC Cl.no ps_ fun p_ ps_ => qC Cl.no p_ fun c_ => qS Cl.no c_ fun v_ => vI Cl.no .i64 v_ fun a2 => gE Cl.no ps_ <| { α := Int, o := f96 k xs1 a2, w := f96.w, nat := fun x _ => f96.wn x }
def f96.e (k : Nat) : Entry env := ⟨f96.hd k⟩
def f96.X (k : Nat) : Ctx env := { C := lookE [(153, f153.e k)], L := lookE [(5, fun S => f96.l5.hd k S.ts S.m S.n)], J := lookE [], keep := lookD [(5, [0, 1, 5])], keepX := lookD [(5, [1, 4])], span := lookN [(5, 272)], eff := fun n => memN n [] }
theorem f96.l5.nat {R : Type} (k : Nat) (rec_ : (List S189) → Int → Int → Option ((Int × Int) ⊕ (Int))) (g : ((Int × Int) ⊕ (Int)) → Option R) (xs3 : List S189) (a4 : Int) (a5 : Int) : (f96.l5.step k rec_ some xs3 a4 a5).bind g = f96.l5.step k (fun xs3 a4 a5 => (rec_ xs3 a4 a5).bind g) g xs3 a4 a5 := by
  simp only [f96.l5.step, bind_ite, bind_sum, Option.bind_assoc, Option.bind_some, Option.bind_none]
theorem f96.l5.good (k : Nat) (xs3 : List S189) (a4 : Int) (a5 : Int) : GoodL (f96.X k) (nthC 0 (loopsOf (bodyOf Try.f96))) (f96.l5.st xs3 a4 a5) { α := ((Int × Int) ⊕ (Int)), o := f96.l5 k k xs3 a4 a5, w := f96.l5.w } :=
  loop_good (ι := (List S189) × Int × Int) (α := ((Int × Int) ⊕ (Int))) (fun i => f96.l5.st i.1 i.2.1 i.2.2) (fun j i => f96.l5 k j i.1 i.2.1 i.2.2) f96.l5.w (fun rec_ ret i => f96.l5.step k (fun xs3 a4 a5 => rec_ (xs3, a4, a5)) ret i.1 i.2.1 i.2.2)
    (fun _ => rfl) (fun _ _ => rfl) (fun rec_ g i => f96.l5.nat k _ g i.1 i.2.1 i.2.2) (fun {R} i0 i rec_ K => by kernel_rfl) k (xs3, a4, a5)
theorem f96.l5.all (k : Nat) (S : St env) : GoodL (f96.X k) (nthC 0 (loopsOf (bodyOf Try.f96))) S (f96.l5.hd k S.ts S.m S.n) := by
  obtain ⟨ts_, m_, n_⟩ := S
  show GoodL _ _ _ (f96.l5.hd k ts_ m_ n_)
  unfold f96.l5.hd
  refine gTs_ok (p := GoodL _ _ _) goodL_no fun _ h => ?_
  subst h
  refine gV_ok (p := GoodL _ _ _) goodL_no fun _ _ h => ?_
  subst h
  refine rImm_ok (p := GoodL _ _ _) goodL_no fun _ h => ?_
  subst h
  refine gV_ok (p := GoodL _ _ _) goodL_no fun _ _ h => ?_
  subst h
  refine rV_ok (p := GoodL _ _ _) goodL_no fun _ h => ?_
  subst h
  refine vI_ok (p := GoodL _ _ _) goodL_no fun _ h => ?_
  subst h
  refine gV_ok (p := GoodL _ _ _) goodL_no fun _ _ h => ?_
  subst h
  refine rV_ok (p := GoodL _ _ _) goodL_no fun _ h => ?_
  subst h
  refine vI_ok (p := GoodL _ _ _) goodL_no fun _ h => ?_
  subst h
  refine gE_ok (p := GoodL _ _ _) goodL_no fun h => ?_
  subst h
  refine gE_ok (p := GoodL _ _ _) goodL_no fun h => ?_
  subst h
  refine gN_ok (p := GoodL _ _ _) goodL_no fun h => ?_
  subst h
  exact f96.l5.good k _ _ _
theorem f96.nat {R : Type} (k : Nat) (g : Int → Option R) (xs1 : List S189) (a2 : Int) : f96.step k g xs1 a2 = (f96 k xs1 a2).bind g := by
  simp only [f96, f96.step, bind_ite, bind_sum, Option.bind_assoc, Option.bind_some, Option.bind_none]
theorem f96.ev (k : Nat) (xs1 : List S189) (a2 : Int) : evF (f96.X k) (bodyOf Try.f96) Try.f96.ntmps Try.f96.results.toList [.v (.c (.sl 189 xs1)), .v (.c (.s (.int .i64 a2)))] = f96.step k (fun x => f96.w x some) xs1 a2 := by kernel_rfl
theorem f96.hok (k : Nat) : HOK (f96.X k) (bodyOf Try.f96) where
  l := allP_mem (by exact ⟨ls_of (h0 := fun S => f96.l5.hd k S.ts S.m S.n) (by kernel_rfl) (f96.l5.all k), trivial⟩)
  j := allP_mem (by exact trivial)
theorem f96.sound (k : Nat) : SoundC env Try.prog 96 (f96.e k).F := by
  intro ps_
  show GoodC _ _ _ ps_ (f96.hd k ps_)
  unfold f96.hd
  refine gC_ok (p := GoodC env Try.prog 96 _) goodC_no fun _ _ h => ?_
  subst h
  refine qC_ok (p := GoodC env Try.prog 96 _) goodC_no fun _ h => ?_
  subst h
  refine qSl_ok (p := GoodC env Try.prog 96 _) goodC_no fun _ h => ?_
  subst h
  refine gC_ok (p := GoodC env Try.prog 96 _) goodC_no fun _ _ h => ?_
  subst h
  refine qC_ok (p := GoodC env Try.prog 96 _) goodC_no fun _ h => ?_
  subst h
  refine qS_ok (p := GoodC env Try.prog 96 _) goodC_no fun _ h => ?_
  subst h
  refine vI_ok (p := GoodC env Try.prog 96 _) goodC_no fun _ h => ?_
  subst h
  refine gE_ok (p := GoodC env Try.prog 96 _) goodC_no fun h => ?_
  subst h
  exact fun_good (fun_sound envOK (cs_sound _ (by exact ⟨⟨f153.sound k, f153.fnok⟩, trivial⟩)) (f96.hok k) Try.func96 rfl) ((f96.ev k _ _).trans (f96.nat k _ _ _))
theorem f96.says (k : Nat) (xs1 : List S189) (a2 : Int) (t12 : Int) (h_ : f96 k xs1 a2 = some t12) : SoundAt env Try.prog 96 [.v (.c (.sl 189 xs1)), .v (.c (.s (.int .i64 a2)))] ⟨.v (.c (.s (.int .i64 t12))), [[], []]⟩ :=
  fun_sound envOK (cs_sound _ (by exact ⟨⟨f153.sound k, f153.fnok⟩, trivial⟩)) (f96.hok k) Try.func96 rfl _ _ (((f96.ev k xs1 a2).trans (f96.nat k _ xs1 a2)).trans (by rw [h_]; rfl))
theorem f96.fnok : FnOK Try.prog 96 := fn_ok Try.func96 (by kernel_rfl) rfl
def f97.step {R : Type} (k : Nat) (ret : Int → Option R) (xs1 : List Int) (a2 : Int) : Option R :=
  if (decide ((IntKind.i64.wrap (a2 - (((List.length xs1) : Nat) : Int))) < (0 : Int))) = true then
    ret (-1 : Int)
  else
    ret (IntKind.i64.wrap (a2 - (((List.length xs1) : Nat) : Int)))
def f97 (k : Nat) (xs1 : List Int) (a2 : Int) : Option Int := f97.step k some xs1 a2
def f97.w {R : Type} : Int → (Res env → Option R) → Option R := fun t3 K => K ⟨.v (.c (.s (.int .i64 t3))), [[], []]⟩
theorem f97.wn (x : Int) : ∃ res, ∀ {R : Type} (K : Res env → Option R), f97.w x K = K res := by
  exact ⟨_, fun _ => rfl⟩
def f97.hd (k : Nat) (ps_ : List (P2 env)) : Cl env :=
  gC Cl.no ps_ fun p_ ps_ => qC Cl.no p_ fun c_ => qSl Cl.no 3 c_ fun xs1 => gC Cl.no ps_ fun p_ ps_ => qC Cl.no p_ fun c_ => qS Cl.no c_ fun v_ => vI Cl.no .i64 v_ fun a2 => gE Cl.no ps_ <| { α := Int, o := f97 k xs1 a2, w := f97.w, nat := fun x _ => f97.wn x }
def f97.e (k : Nat) : Entry env := ⟨f97.hd k⟩
def f97.X (k : Nat) : Ctx env := { C := lookE [], L := lookE [], J := lookE [], keep := lookD [], keepX := lookD [], span := lookN [], eff := fun n => memN n [] }
theorem f97.nat {R : Type} (k : Nat) (g : Int → Option R) (xs1 : List Int) (a2 : Int) : f97.step k g xs1 a2 = (f97 k xs1 a2).bind g := by
  simp only [f97, f97.step, bind_ite, bind_sum, Option.bind_assoc, Option.bind_some, Option.bind_none]
theorem f97.ev (k : Nat) (xs1 : List Int) (a2 : Int) : evF (f97.X k) (bodyOf Try.f97) Try.f97.ntmps Try.f97.results.toList [.v (.c (.sl 3 xs1)), .v (.c (.s (.int .i64 a2)))] = f97.step k (fun x => f97.w x some) xs1 a2 := by kernel_rfl
theorem f97.hok (k : Nat) : HOK (f97.X k) (bodyOf Try.f97) where
  l := allP_mem (by exact trivial)
  j := allP_mem (by exact trivial)
theorem f97.sound (k : Nat) : SoundC env Try.prog 97 (f97.e k).F := by
  intro ps_
  show GoodC _ _ _ ps_ (f97.hd k ps_)
  unfold f97.hd
  refine gC_ok (p := GoodC env Try.prog 97 _) goodC_no fun _ _ h => ?_
  subst h
  refine qC_ok (p := GoodC env Try.prog 97 _) goodC_no fun _ h => ?_
  subst h
  refine qSl_ok (p := GoodC env Try.prog 97 _) goodC_no fun _ h => ?_
  subst h
  refine gC_ok (p := GoodC env Try.prog 97 _) goodC_no fun _ _ h => ?_
  subst h
  refine qC_ok (p := GoodC env Try.prog 97 _) goodC_no fun _ h => ?_
  subst h
  refine qS_ok (p := GoodC env Try.prog 97 _) goodC_no fun _ h => ?_
  subst h
  refine vI_ok (p := GoodC env Try.prog 97 _) goodC_no fun _ h => ?_
  subst h
  refine gE_ok (p := GoodC env Try.prog 97 _) goodC_no fun h => ?_
  subst h
  exact fun_good (fun_sound envOK (cs_sound _ (by exact trivial)) (f97.hok k) Try.func97 rfl) ((f97.ev k _ _).trans (f97.nat k _ _ _))
theorem f97.says (k : Nat) (xs1 : List Int) (a2 : Int) (t4 : Int) (h_ : f97 k xs1 a2 = some t4) : SoundAt env Try.prog 97 [.v (.c (.sl 3 xs1)), .v (.c (.s (.int .i64 a2)))] ⟨.v (.c (.s (.int .i64 t4))), [[], []]⟩ :=
  fun_sound envOK (cs_sound _ (by exact trivial)) (f97.hok k) Try.func97 rfl _ _ (((f97.ev k xs1 a2).trans (f97.nat k _ xs1 a2)).trans (by rw [h_]; rfl))
theorem f97.fnok : FnOK Try.prog 97 := fn_ok Try.func97 (by kernel_rfl) rfl
def f37.step {R : Type} (k : Nat) (ret : Int → Option R) (xs1 : List S189) (xs2 : List Int) (b3 : Bool) (a4 : Int) : Option R :=
  (f96 k xs1 a4).bind fun t5 => if (decide (t5 < (0 : Int))) = true then
      ret (-1 : Int)
    else
      (f97 k xs2 t5).bind fun t6 => if (decide (t6 < (0 : Int))) = true then
          ret (-1 : Int)
        else
          ret t6
def f37 (k : Nat) (xs1 : List S189) (xs2 : List Int) (b3 : Bool) (a4 : Int) : Option Int := f37.step k some xs1 xs2 b3 a4
def f37.w {R : Type} : Int → (Res env → Option R) → Option R := fun t7 K => K ⟨.v (.c (.s (.int .i64 t7))), [[], []]⟩
theorem f37.wn (x : Int) : ∃ res, ∀ {R : Type} (K : Res env → Option R), f37.w x K = K res := by
  exact ⟨_, fun _ => rfl⟩
def f37.hd (k : Nat) (ps_ : List (P2 env)) : Cl env :=
  gC Cl.no ps_ fun p_ ps_ => qG Cl.no p_ fun cs_ => gC Cl.no cs_ fun c_ cs_ => qSl Cl.no 189 c_ fun xs1 => gC Cl.no cs_ fun c_ cs_ => qSl Cl.no 3 c_ fun xs2 => gC Cl.no cs_ fun c_ cs_ => qS Cl.no c_ fun v_ => vB Cl.no v_ fun b3 => gE Cl.no cs_ <| gC Cl.no ps_ fun p_ ps_ => qC Cl.no p_ fun c_ => qS Cl.no c_ fun v_ => vI Cl.no .i64 v_ fun a4 => gE Cl.no ps_ <| { α := Int, o := f37 k xs1 xs2 b3 a4, w := f37.w, nat := fun x _ => f37.wn x }
def f37.e (k : Nat) : Entry env := ⟨f37.hd k⟩
def f37.X (k : Nat) : Ctx env := { C := lookE [(96, f96.e k), (97, f97.e k)], L := lookE [], J := lookE [], keep := lookD [], keepX := lookD [], span := lookN [], eff := fun n => memN n [] }
theorem f37.nat {R : Type} (k : Nat) (g : Int → Option R) (xs1 : List S189) (xs2 : List Int) (b3 : Bool) (a4 : Int) : f37.step k g xs1 xs2 b3 a4 = (f37 k xs1 xs2 b3 a4).bind g := by
  simp only [f37, f37.step, bind_ite, bind_sum, Option.bind_assoc, Option.bind_some, Option.bind_none]
theorem f37.ev (k : Nat) (xs1 : List S189) (xs2 : List Int) (b3 : Bool) (a4 : Int) : evF (f37.X k) (bodyOf Try.f37) Try.f37.ntmps Try.f37.results.toList [.g [.sl 189 xs1, .sl 3 xs2, .s (.bool b3)], .v (.c (.s (.int .i64 a4)))] = f37.step k (fun x => f37.w x some) xs1 xs2 b3 a4 := by kernel_rfl
theorem f37.hok (k : Nat) : HOK (f37.X k) (bodyOf Try.f37) where
  l := allP_mem (by exact trivial)
  j := allP_mem (by exact trivial)
theorem f37.sound (k : Nat) : SoundC env Try.prog 37 (f37.e k).F := by
  intro ps_
  show GoodC _ _ _ ps_ (f37.hd k ps_)
  unfold f37.hd
  refine gC_ok (p := GoodC env Try.prog 37 _) goodC_no fun _ _ h => ?_
  subst h
  refine qG_ok (p := GoodC env Try.prog 37 _) goodC_no fun _ h => ?_
  subst h
  refine gC_ok (p := GoodC env Try.prog 37 _) goodC_no fun _ _ h => ?_
  subst h
  refine qSl_ok (p := GoodC env Try.prog 37 _) goodC_no fun _ h => ?_
  subst h
  refine gC_ok (p := GoodC env Try.prog 37 _) goodC_no fun _ _ h => ?_
  subst h
  refine qSl_ok (p := GoodC env Try.prog 37 _) goodC_no fun _ h => ?_
  subst h
  refine gC_ok (p := GoodC env Try.prog 37 _) goodC_no fun _ _ h => ?_
  subst h
  refine qS_ok (p := GoodC env Try.prog 37 _) goodC_no fun _ h => ?_
  subst h
  refine vB_ok (p := GoodC env Try.prog 37 _) goodC_no fun _ h => ?_
  subst h
  refine gE_ok (p := GoodC env Try.prog 37 _) goodC_no fun h => ?_
  subst h
  refine gC_ok (p := GoodC env Try.prog 37 _) goodC_no fun _ _ h => ?_
  subst h
  refine qC_ok (p := GoodC env Try.prog 37 _) goodC_no fun _ h => ?_
  subst h
  refine qS_ok (p := GoodC env Try.prog 37 _) goodC_no fun _ h => ?_
  subst h
  refine vI_ok (p := GoodC env Try.prog 37 _) goodC_no fun _ h => ?_
  subst h
  refine gE_ok (p := GoodC env Try.prog 37 _) goodC_no fun h => ?_
  subst h
  exact fun_good (fun_sound envOK (cs_sound _ (by exact ⟨⟨f96.sound k, f96.fnok⟩, ⟨f97.sound k, f97.fnok⟩, trivial⟩)) (f37.hok k) Try.func37 rfl) ((f37.ev k _ _ _ _).trans (f37.nat k _ _ _ _ _))
theorem f37.says (k : Nat) (xs1 : List S189) (xs2 : List Int) (b3 : Bool) (a4 : Int) (t8 : Int) (h_ : f37 k xs1 xs2 b3 a4 = some t8) : SoundAt env Try.prog 37 [.g [.sl 189 xs1, .sl 3 xs2, .s (.bool b3)], .v (.c (.s (.int .i64 a4)))] ⟨.v (.c (.s (.int .i64 t8))), [[], []]⟩ :=
  fun_sound envOK (cs_sound _ (by exact ⟨⟨f96.sound k, f96.fnok⟩, ⟨f97.sound k, f97.fnok⟩, trivial⟩)) (f37.hok k) Try.func37 rfl _ _ (((f37.ev k xs1 xs2 b3 a4).trans (f37.nat k _ xs1 xs2 b3 a4)).trans (by rw [h_]; rfl))
theorem f37.fnok : FnOK Try.prog 37 := fn_ok Try.func37 (by kernel_rfl) rfl
def f203.step {R : Type} (k : Nat) (ret : (Int × Int) → Option R) (a1 : Int) (a2 : Int) : Option R :=
  ret (a1, a2)
def f203 (k : Nat) (a1 : Int) (a2 : Int) : Option (Int × Int) := f203.step k some a1 a2
def f203.w {R : Type} : (Int × Int) → (Res env → Option R) → Option R := fun t3 K => K ⟨.v (.g [.s (.int .i64 t3.1), .s (.int .i64 t3.2)]), [[]]⟩
theorem f203.wn (x : (Int × Int)) : ∃ res, ∀ {R : Type} (K : Res env → Option R), f203.w x K = K res := by
  exact ⟨_, fun _ => rfl⟩
def f203.hd (k : Nat) (ps_ : List (P2 env)) : Cl env :=
  gC Cl.no ps_ fun p_ ps_ => qG Cl.no p_ fun cs_ => gC Cl.no cs_ fun c_ cs_ => qS Cl.no c_ fun v_ => vI Cl.no .i64 v_ fun a1 => gC Cl.no cs_ fun c_ cs_ => qS Cl.no c_ fun v_ => vI Cl.no .i64 v_ fun a2 => gE Cl.no cs_ <| gE Cl.no ps_ <| { α := Int × Int, o := f203 k a1 a2, w := f203.w, nat := fun x _ => f203.wn x }
def f203.e (k : Nat) : Entry env := ⟨f203.hd k⟩
def f203.X (k : Nat) : Ctx env := { C := lookE [], L := lookE [], J := lookE [], keep := lookD [], keepX := lookD [], span := lookN [], eff := fun n => memN n [] }
theorem f203.nat {R : Type} (k : Nat) (g : (Int × Int) → Option R) (a1 : Int) (a2 : Int) : f203.step k g a1 a2 = (f203 k a1 a2).bind g := by
  simp only [f203, f203.step, bind_ite, bind_sum, Option.bind_assoc, Option.bind_some, Option.bind_none]
theorem f203.ev (k : Nat) (a1 : Int) (a2 : Int) : evF (f203.X k) (bodyOf Try.f203) Try.f203.ntmps Try.f203.results.toList [.g [.s (.int .i64 a1), .s (.int .i64 a2)]] = f203.step k (fun x => f203.w x some) a1 a2 := by kernel_rfl
theorem f203.hok (k : Nat) : HOK (f203.X k) (bodyOf Try.f203) where
  l := allP_mem (by exact trivial)
  j := allP_mem (by exact trivial)
theorem f203.sound (k : Nat) : SoundC env Try.prog 203 (f203.e k).F := by
  intro ps_
  show GoodC _ _ _ ps_ (f203.hd k ps_)
  unfold f203.hd
  refine gC_ok (p := GoodC env Try.prog 203 _) goodC_no fun _ _ h => ?_
  subst h
  refine qG_ok (p := GoodC env Try.prog 203 _) goodC_no fun _ h => ?_
  subst h
  refine gC_ok (p := GoodC env Try.prog 203 _) goodC_no fun _ _ h => ?_
  subst h
  refine qS_ok (p := GoodC env Try.prog 203 _) goodC_no fun _ h => ?_
  subst h
  refine vI_ok (p := GoodC env Try.prog 203 _) goodC_no fun _ h => ?_
  subst h
  refine gC_ok (p := GoodC env Try.prog 203 _) goodC_no fun _ _ h => ?_
  subst h
  refine qS_ok (p := GoodC env Try.prog 203 _) goodC_no fun _ h => ?_
  subst h
  refine vI_ok (p := GoodC env Try.prog 203 _) goodC_no fun _ h => ?_
  subst h
  refine gE_ok (p := GoodC env Try.prog 203 _) goodC_no fun h => ?_
  subst h
  refine gE_ok (p := GoodC env Try.prog 203 _) goodC_no fun h => ?_
  subst h
  exact fun_good (fun_sound envOK (cs_sound _ (by exact trivial)) (f203.hok k) Try.func203 rfl) ((f203.ev k _ _).trans (f203.nat k _ _ _))
theorem f203.says (k : Nat) (a1 : Int) (a2 : Int) (t4 : Int × Int) (h_ : f203 k a1 a2 = some t4) : SoundAt env Try.prog 203 [.g [.s (.int .i64 a1), .s (.int .i64 a2)]] ⟨.v (.g [.s (.int .i64 t4.1), .s (.int .i64 t4.2)]), [[]]⟩ :=
  fun_sound envOK (cs_sound _ (by exact trivial)) (f203.hok k) Try.func203 rfl _ _ (((f203.ev k a1 a2).trans (f203.nat k _ a1 a2)).trans (by rw [h_]; rfl))
theorem f203.fnok : FnOK Try.prog 203 := fn_ok Try.func203 (by kernel_rfl) rfl
def f185.l3.step {R : Type} (k : Nat) (rec_ : (List S242) → Int → (List S131) → Option R) (ret : ((List S131)) → Option R) (xs2 : List S242) (a3 : Int) (xs4 : List S131) : Option R :=
  if (decide (a3 < (((List.length xs2) : Nat) : Int))) = true then
    if (0 : Int) ≤ a3 then
      if a3 < ((List.length xs2 : Nat) : Int) then
        (f203 k (List.getD xs2 (Int.toNat a3) (⟨(0 : Int), (0 : Int)⟩ : S242)).f0 (List.getD xs2 (Int.toNat a3) (⟨(0 : Int), (0 : Int)⟩ : S242)).f1).bind fun t5 => if (0 : Int) ≤ a3 then
            if a3 < ((List.length xs4 : Nat) : Int) then
              rec_ xs2 (IntKind.i64.wrap (a3 + (1 : Int))) (List.set xs4 (Int.toNat a3) (⟨t5.1, t5.2⟩ : S131))
            else none
          else none
      else none
    else none
  else
    ret xs4
def f185.l3 (k : Nat) : Nat → (List S242) → Int → (List S131) → Option ((List S131))
  | 0, _, _, _ => none
  | j + 1, xs2, a3, xs4 => f185.l3.step k (fun xs2 a3 xs4 => f185.l3 k j xs2 a3 xs4) some xs2 a3 xs4
def f185.l3.w {R : Type} : ((List S131)) → (Exit → St env → Option R) → Option R := fun t7 K => K (.exit 0) ⟨fullT [3] 0 23 [.v (.c (.row 49))], [(49, .row true 131 t7)], 353⟩
def f185.l3.st (xs2 : List S242) (a3 : Int) (xs4 : List S131) : St env := ⟨fullT [0, 3, 4] 0 23 [.v (.c (.imm 242 xs2)), .v (.c (.row 49)), .v (.c (.s (.int .i64 a3)))], [(49, .row true 131 xs4)], 97⟩
def f185.l3.hd (k : Nat) (ts_ : List (AV env)) (mm_ : Mem env) (n_ : Nat) : LCl env :=
  gTs LCl.no [0, 3, 4] 23 ts_ fun l_ => gV LCl.no l_ fun a_ l_ => rImm LCl.no 242 a_ fun xs2 => gV LCl.no l_ fun a_ l_ => rRow LCl.no 49 a_ <| gV LCl.no l_ fun a_ l_ => rV LCl.no a_ fun v_ => vI LCl.no .i64 v_ fun a3 => gE LCl.no l_ <| mRow LCl.no 49 true 131 mm_ fun xs4 m_ => gE LCl.no m_ <| gN LCl.no 97 n_ { α := (List S131), o := f185.l3 k k xs2 a3 xs4, w := f185.l3.w }
def f185.step {R : Type} (k : Nat) (ret : ((List S131)) → Option R) (xs1 : List S242) : Option R :=
  if (0 : Int) ≤ (((List.length xs1) : Nat) : Int) then
    if (Int.toNat (((List.length xs1) : Nat) : Int)) * 16 ≤ maxN then
      (f185.l3 k k xs1 (0 : Int) (List.replicate (Int.toNat (((List.length xs1) : Nat) : Int)) (⟨(0 : Int), (0 : Int)⟩ : S131))).bind fun t6 => ret t6
    else none
  else none
def f185 (k : Nat) (xs1 : List S242) : Option ((List S131)) := f185.step k some xs1
def f185.w {R : Type} : ((List S131)) → (Res env → Option R) → Option R := fun t8 K => K ⟨.v (.c (.own true 131 t8)), [[]]⟩
theorem f185.wn (x : ((List S131))) : ∃ res, ∀ {R : Type} (K : Res env → Option R), f185.w x K = K res := by
  exact ⟨_, fun _ => rfl⟩
def f185.hd (k : Nat) (ps_ : List (P2 env)) : Cl env :=
  gC Cl.no ps_ fun p_ ps_ => qC Cl.no p_ fun c_ => qSl Cl.no 242 c_ fun xs1 => gE Cl.no ps_ <| { α := (List S131), o := f185 k xs1, w := f185.w, nat := fun x _ => f185.wn x }
def f185.e (k : Nat) : Entry env := ⟨f185.hd k⟩
def f185.X (k : Nat) : Ctx env := { C := lookE [(203, f203.e k)], L := lookE [(3, fun S => f185.l3.hd k S.ts S.m S.n)], J := lookE [], keep := lookD [(3, [0, 3, 4])], keepX := lookD [(3, [3])], span := lookN [(3, 256)], eff := fun n => memN n [] }
theorem f185.l3.nat {R : Type} (k : Nat) (rec_ : (List S242) → Int → (List S131) → Option ((List S131))) (g : ((List S131)) → Option R) (xs2 : List S242) (a3 : Int) (xs4 : List S131) : (f185.l3.step k rec_ some xs2 a3 xs4).bind g = f185.l3.step k (fun xs2 a3 xs4 => (rec_ xs2 a3 xs4).bind g) g xs2 a3 xs4 := by
  simp only [f185.l3.step, bind_ite, bind_sum, Option.bind_assoc, Option.bind_some, Option.bind_none]
theorem f185.l3.good (k : Nat) (xs2 : List S242) (a3 : Int) (xs4 : List S131) : GoodL (f185.X k) (nthC 0 (loopsOf (bodyOf Try.f185))) (f185.l3.st xs2 a3 xs4) { α := ((List S131)), o := f185.l3 k k xs2 a3 xs4, w := f185.l3.w } :=
  loop_good (ι := (List S242) × Int × (List S131)) (α := ((List S131))) (fun i => f185.l3.st i.1 i.2.1 i.2.2) (fun j i => f185.l3 k j i.1 i.2.1 i.2.2) f185.l3.w (fun rec_ ret i => f185.l3.step k (fun xs2 a3 xs4 => rec_ (xs2, a3, xs4)) ret i.1 i.2.1 i.2.2)
    (fun _ => rfl) (fun _ _ => rfl) (fun rec_ g i => f185.l3.nat k _ g i.1 i.2.1 i.2.2) (fun {R} i0 i rec_ K => by kernel_rfl) k (xs2, a3, xs4)
theorem f185.l3.all (k : Nat) (S : St env) : GoodL (f185.X k) (nthC 0 (loopsOf (bodyOf Try.f185))) S (f185.l3.hd k S.ts S.m S.n) := by
  obtain ⟨ts_, m_, n_⟩ := S
  show GoodL _ _ _ (f185.l3.hd k ts_ m_ n_)
  unfold f185.l3.hd
  refine gTs_ok (p := GoodL _ _ _) goodL_no fun _ h => ?_
  subst h
  refine gV_ok (p := GoodL _ _ _) goodL_no fun _ _ h => ?_
  subst h
  refine rImm_ok (p := GoodL _ _ _) goodL_no fun _ h => ?_
  subst h
  refine gV_ok (p := GoodL _ _ _) goodL_no fun _ _ h => ?_
  subst h
  refine rRow_ok (p := GoodL _ _ _) goodL_no fun h => ?_
  subst h
  refine gV_ok (p := GoodL _ _ _) goodL_no fun _ _ h => ?_
  subst h
  refine rV_ok (p := GoodL _ _ _) goodL_no fun _ h => ?_
  subst h
  refine vI_ok (p := GoodL _ _ _) goodL_no fun _ h => ?_
  subst h
  refine gE_ok (p := GoodL _ _ _) goodL_no fun h => ?_
  subst h
  refine mRow_ok (p := GoodL _ _ _) goodL_no fun _ _ h => ?_
  subst h
  refine gE_ok (p := GoodL _ _ _) goodL_no fun h => ?_
  subst h
  refine gN_ok (p := GoodL _ _ _) goodL_no fun h => ?_
  subst h
  exact f185.l3.good k _ _ _
theorem f185.nat {R : Type} (k : Nat) (g : ((List S131)) → Option R) (xs1 : List S242) : f185.step k g xs1 = (f185 k xs1).bind g := by
  simp only [f185, f185.step, bind_ite, bind_sum, Option.bind_assoc, Option.bind_some, Option.bind_none]
theorem f185.ev (k : Nat) (xs1 : List S242) : evF (f185.X k) (bodyOf Try.f185) Try.f185.ntmps Try.f185.results.toList [.v (.c (.sl 242 xs1))] = f185.step k (fun x => f185.w x some) xs1 := by kernel_rfl
theorem f185.hok (k : Nat) : HOK (f185.X k) (bodyOf Try.f185) where
  l := allP_mem (by exact ⟨ls_of (h0 := fun S => f185.l3.hd k S.ts S.m S.n) (by kernel_rfl) (f185.l3.all k), trivial⟩)
  j := allP_mem (by exact trivial)
theorem f185.sound (k : Nat) : SoundC env Try.prog 185 (f185.e k).F := by
  intro ps_
  show GoodC _ _ _ ps_ (f185.hd k ps_)
  unfold f185.hd
  refine gC_ok (p := GoodC env Try.prog 185 _) goodC_no fun _ _ h => ?_
  subst h
  refine qC_ok (p := GoodC env Try.prog 185 _) goodC_no fun _ h => ?_
  subst h
  refine qSl_ok (p := GoodC env Try.prog 185 _) goodC_no fun _ h => ?_
  subst h
  refine gE_ok (p := GoodC env Try.prog 185 _) goodC_no fun h => ?_
  subst h
  exact fun_good (fun_sound envOK (cs_sound _ (by exact ⟨⟨f203.sound k, f203.fnok⟩, trivial⟩)) (f185.hok k) Try.func185 rfl) ((f185.ev k _).trans (f185.nat k _ _))
theorem f185.says (k : Nat) (xs1 : List S242) (t9 : (List S131)) (h_ : f185 k xs1 = some t9) : SoundAt env Try.prog 185 [.v (.c (.sl 242 xs1))] ⟨.v (.c (.own true 131 t9)), [[]]⟩ :=
  fun_sound envOK (cs_sound _ (by exact ⟨⟨f203.sound k, f203.fnok⟩, trivial⟩)) (f185.hok k) Try.func185 rfl _ _ (((f185.ev k xs1).trans (f185.nat k _ xs1)).trans (by rw [h_]; rfl))
theorem f185.fnok : FnOK Try.prog 185 := fn_ok Try.func185 (by kernel_rfl) rfl
def f154.step {R : Type} (k : Nat) (ret : (Int × Int × (List S131) × Int × Int × Int) → Option R) (a1 : Int) (a2 : Int) (xs3 : List S242) (a4 : Int) (a5 : Int) (a6 : Int) : Option R :=
  (f185 k xs3).bind fun t7 => ret (a1, a2, t7, a4, a5, a6)
def f154 (k : Nat) (a1 : Int) (a2 : Int) (xs3 : List S242) (a4 : Int) (a5 : Int) (a6 : Int) : Option (Int × Int × (List S131) × Int × Int × Int) := f154.step k some a1 a2 xs3 a4 a5 a6
def f154.w {R : Type} : (Int × Int × (List S131) × Int × Int × Int) → (Res env → Option R) → Option R := fun t8 K => K ⟨.v (.g [.s (.int .i64 t8.1), .s (.int .i64 t8.2.1), .own true 131 t8.2.2.1, .s (.int .i64 t8.2.2.2.1), .s (.int .i64 t8.2.2.2.2.1), .s (.int .i64 t8.2.2.2.2.2)]), [[]]⟩
theorem f154.wn (x : (Int × Int × (List S131) × Int × Int × Int)) : ∃ res, ∀ {R : Type} (K : Res env → Option R), f154.w x K = K res := by
  exact ⟨_, fun _ => rfl⟩
def f154.hd (k : Nat) (ps_ : List (P2 env)) : Cl env :=
  gC Cl.no ps_ fun p_ ps_ => qG Cl.no p_ fun cs_ => gC Cl.no cs_ fun c_ cs_ => qS Cl.no c_ fun v_ => vI Cl.no .i64 v_ fun a1 => gC Cl.no cs_ fun c_ cs_ => qS Cl.no c_ fun v_ => vI Cl.no .i64 v_ fun a2 => gC Cl.no cs_ fun c_ cs_ => qSl Cl.no 242 c_ fun xs3 => gC Cl.no cs_ fun c_ cs_ => qS Cl.no c_ fun v_ => vI Cl.no .i64 v_ fun a4 => gC Cl.no cs_ fun c_ cs_ => qS Cl.no c_ fun v_ => vI Cl.no .i64 v_ fun a5 => gC Cl.no cs_ fun c_ cs_ => qS Cl.no c_ fun v_ => vI Cl.no .i64 v_ fun a6 => gE Cl.no cs_ <| gE Cl.no ps_ <| { α := Int × Int × (List S131) × Int × Int × Int, o := f154 k a1 a2 xs3 a4 a5 a6, w := f154.w, nat := fun x _ => f154.wn x }
def f154.e (k : Nat) : Entry env := ⟨f154.hd k⟩
def f154.X (k : Nat) : Ctx env := { C := lookE [(185, f185.e k)], L := lookE [], J := lookE [], keep := lookD [], keepX := lookD [], span := lookN [], eff := fun n => memN n [] }
theorem f154.nat {R : Type} (k : Nat) (g : (Int × Int × (List S131) × Int × Int × Int) → Option R) (a1 : Int) (a2 : Int) (xs3 : List S242) (a4 : Int) (a5 : Int) (a6 : Int) : f154.step k g a1 a2 xs3 a4 a5 a6 = (f154 k a1 a2 xs3 a4 a5 a6).bind g := by
  simp only [f154, f154.step, bind_ite, bind_sum, Option.bind_assoc, Option.bind_some, Option.bind_none]
theorem f154.ev (k : Nat) (a1 : Int) (a2 : Int) (xs3 : List S242) (a4 : Int) (a5 : Int) (a6 : Int) : evF (f154.X k) (bodyOf Try.f154) Try.f154.ntmps Try.f154.results.toList [.g [.s (.int .i64 a1), .s (.int .i64 a2), .sl 242 xs3, .s (.int .i64 a4), .s (.int .i64 a5), .s (.int .i64 a6)]] = f154.step k (fun x => f154.w x some) a1 a2 xs3 a4 a5 a6 := by kernel_rfl
theorem f154.hok (k : Nat) : HOK (f154.X k) (bodyOf Try.f154) where
  l := allP_mem (by exact trivial)
  j := allP_mem (by exact trivial)
theorem f154.sound (k : Nat) : SoundC env Try.prog 154 (f154.e k).F := by
  intro ps_
  show GoodC _ _ _ ps_ (f154.hd k ps_)
  unfold f154.hd
  refine gC_ok (p := GoodC env Try.prog 154 _) goodC_no fun _ _ h => ?_
  subst h
  refine qG_ok (p := GoodC env Try.prog 154 _) goodC_no fun _ h => ?_
  subst h
  refine gC_ok (p := GoodC env Try.prog 154 _) goodC_no fun _ _ h => ?_
  subst h
  refine qS_ok (p := GoodC env Try.prog 154 _) goodC_no fun _ h => ?_
  subst h
  refine vI_ok (p := GoodC env Try.prog 154 _) goodC_no fun _ h => ?_
  subst h
  refine gC_ok (p := GoodC env Try.prog 154 _) goodC_no fun _ _ h => ?_
  subst h
  refine qS_ok (p := GoodC env Try.prog 154 _) goodC_no fun _ h => ?_
  subst h
  refine vI_ok (p := GoodC env Try.prog 154 _) goodC_no fun _ h => ?_
  subst h
  refine gC_ok (p := GoodC env Try.prog 154 _) goodC_no fun _ _ h => ?_
  subst h
  refine qSl_ok (p := GoodC env Try.prog 154 _) goodC_no fun _ h => ?_
  subst h
  refine gC_ok (p := GoodC env Try.prog 154 _) goodC_no fun _ _ h => ?_
  subst h
  refine qS_ok (p := GoodC env Try.prog 154 _) goodC_no fun _ h => ?_
  subst h
  refine vI_ok (p := GoodC env Try.prog 154 _) goodC_no fun _ h => ?_
  subst h
  refine gC_ok (p := GoodC env Try.prog 154 _) goodC_no fun _ _ h => ?_
  subst h
  refine qS_ok (p := GoodC env Try.prog 154 _) goodC_no fun _ h => ?_
  subst h
  refine vI_ok (p := GoodC env Try.prog 154 _) goodC_no fun _ h => ?_
  subst h
  refine gC_ok (p := GoodC env Try.prog 154 _) goodC_no fun _ _ h => ?_
  subst h
  refine qS_ok (p := GoodC env Try.prog 154 _) goodC_no fun _ h => ?_
  subst h
  refine vI_ok (p := GoodC env Try.prog 154 _) goodC_no fun _ h => ?_
  subst h
  refine gE_ok (p := GoodC env Try.prog 154 _) goodC_no fun h => ?_
  subst h
  refine gE_ok (p := GoodC env Try.prog 154 _) goodC_no fun h => ?_
  subst h
  exact fun_good (fun_sound envOK (cs_sound _ (by exact ⟨⟨f185.sound k, f185.fnok⟩, trivial⟩)) (f154.hok k) Try.func154 rfl) ((f154.ev k _ _ _ _ _ _).trans (f154.nat k _ _ _ _ _ _ _))
theorem f154.says (k : Nat) (a1 : Int) (a2 : Int) (xs3 : List S242) (a4 : Int) (a5 : Int) (a6 : Int) (t9 : Int × Int × (List S131) × Int × Int × Int) (h_ : f154 k a1 a2 xs3 a4 a5 a6 = some t9) : SoundAt env Try.prog 154 [.g [.s (.int .i64 a1), .s (.int .i64 a2), .sl 242 xs3, .s (.int .i64 a4), .s (.int .i64 a5), .s (.int .i64 a6)]] ⟨.v (.g [.s (.int .i64 t9.1), .s (.int .i64 t9.2.1), .own true 131 t9.2.2.1, .s (.int .i64 t9.2.2.2.1), .s (.int .i64 t9.2.2.2.2.1), .s (.int .i64 t9.2.2.2.2.2)]), [[]]⟩ :=
  fun_sound envOK (cs_sound _ (by exact ⟨⟨f185.sound k, f185.fnok⟩, trivial⟩)) (f154.hok k) Try.func154 rfl _ _ (((f154.ev k a1 a2 xs3 a4 a5 a6).trans (f154.nat k _ a1 a2 xs3 a4 a5 a6)).trans (by rw [h_]; rfl))
theorem f154.fnok : FnOK Try.prog 154 := fn_ok Try.func154 (by kernel_rfl) rfl
def f100.l3.step {R : Type} (k : Nat) (rec_ : (List S189) → Int → (List S123) → Option R) (ret : ((List S123)) → Option R) (xs2 : List S189) (a3 : Int) (xs4 : List S123) : Option R :=
  if (decide (a3 < (((List.length xs2) : Nat) : Int))) = true then
    if (0 : Int) ≤ a3 then
      if a3 < ((List.length xs2 : Nat) : Int) then
        (f154 k (List.getD xs2 (Int.toNat a3) (⟨(0 : Int), (0 : Int), [], (0 : Int), (0 : Int), (0 : Int)⟩ : S189)).f0 (List.getD xs2 (Int.toNat a3) (⟨(0 : Int), (0 : Int), [], (0 : Int), (0 : Int), (0 : Int)⟩ : S189)).f1 (List.getD xs2 (Int.toNat a3) (⟨(0 : Int), (0 : Int), [], (0 : Int), (0 : Int), (0 : Int)⟩ : S189)).f2 (List.getD xs2 (Int.toNat a3) (⟨(0 : Int), (0 : Int), [], (0 : Int), (0 : Int), (0 : Int)⟩ : S189)).f3 (List.getD xs2 (Int.toNat a3) (⟨(0 : Int), (0 : Int), [], (0 : Int), (0 : Int), (0 : Int)⟩ : S189)).f4 (List.getD xs2 (Int.toNat a3) (⟨(0 : Int), (0 : Int), [], (0 : Int), (0 : Int), (0 : Int)⟩ : S189)).f5).bind fun t5 => if (0 : Int) ≤ a3 then
            if a3 < ((List.length xs4 : Nat) : Int) then
              rec_ xs2 (IntKind.i64.wrap (a3 + (1 : Int))) (List.set xs4 (Int.toNat a3) (⟨t5.1, t5.2.1, t5.2.2.1, t5.2.2.2.1, t5.2.2.2.2.1, t5.2.2.2.2.2⟩ : S123))
            else none
          else none
      else none
    else none
  else
    ret xs4
def f100.l3 (k : Nat) : Nat → (List S189) → Int → (List S123) → Option ((List S123))
  | 0, _, _, _ => none
  | j + 1, xs2, a3, xs4 => f100.l3.step k (fun xs2 a3 xs4 => f100.l3 k j xs2 a3 xs4) some xs2 a3 xs4
def f100.l3.w {R : Type} : ((List S123)) → (Exit → St env → Option R) → Option R := fun t7 K => K (.exit 0) ⟨fullT [3] 0 23 [.v (.c (.row 49))], [(49, .row true 123 t7)], 353⟩
def f100.l3.st (xs2 : List S189) (a3 : Int) (xs4 : List S123) : St env := ⟨fullT [0, 3, 4] 0 23 [.v (.c (.imm 189 xs2)), .v (.c (.row 49)), .v (.c (.s (.int .i64 a3)))], [(49, .row true 123 xs4)], 97⟩
def f100.l3.hd (k : Nat) (ts_ : List (AV env)) (mm_ : Mem env) (n_ : Nat) : LCl env :=
  gTs LCl.no [0, 3, 4] 23 ts_ fun l_ => gV LCl.no l_ fun a_ l_ => rImm LCl.no 189 a_ fun xs2 => gV LCl.no l_ fun a_ l_ => rRow LCl.no 49 a_ <| gV LCl.no l_ fun a_ l_ => rV LCl.no a_ fun v_ => vI LCl.no .i64 v_ fun a3 => gE LCl.no l_ <| mRow LCl.no 49 true 123 mm_ fun xs4 m_ => gE LCl.no m_ <| gN LCl.no 97 n_ { α := (List S123), o := f100.l3 k k xs2 a3 xs4, w := f100.l3.w }
def f100.step {R : Type} (k : Nat) (ret : ((List S123)) → Option R) (xs1 : List S189) : Option R :=
  if (0 : Int) ≤ (((List.length xs1) : Nat) : Int) then
    if (Int.toNat (((List.length xs1) : Nat) : Int)) * 64 ≤ maxN then
      (f100.l3 k k xs1 (0 : Int) (List.replicate (Int.toNat (((List.length xs1) : Nat) : Int)) (⟨(0 : Int), (0 : Int), [], (0 : Int), (0 : Int), (0 : Int)⟩ : S123))).bind fun t6 => ret t6
    else none
  else none
def f100 (k : Nat) (xs1 : List S189) : Option ((List S123)) := f100.step k some xs1
def f100.w {R : Type} : ((List S123)) → (Res env → Option R) → Option R := fun t8 K => K ⟨.v (.c (.own true 123 t8)), [[]]⟩
theorem f100.wn (x : ((List S123))) : ∃ res, ∀ {R : Type} (K : Res env → Option R), f100.w x K = K res := by
  exact ⟨_, fun _ => rfl⟩
def f100.hd (k : Nat) (ps_ : List (P2 env)) : Cl env :=
  gC Cl.no ps_ fun p_ ps_ => qC Cl.no p_ fun c_ => qSl Cl.no 189 c_ fun xs1 => gE Cl.no ps_ <| { α := (List S123), o := f100 k xs1, w := f100.w, nat := fun x _ => f100.wn x }
def f100.e (k : Nat) : Entry env := ⟨f100.hd k⟩
def f100.X (k : Nat) : Ctx env := { C := lookE [(154, f154.e k)], L := lookE [(3, fun S => f100.l3.hd k S.ts S.m S.n)], J := lookE [], keep := lookD [(3, [0, 3, 4])], keepX := lookD [(3, [3])], span := lookN [(3, 256)], eff := fun n => memN n [] }
theorem f100.l3.nat {R : Type} (k : Nat) (rec_ : (List S189) → Int → (List S123) → Option ((List S123))) (g : ((List S123)) → Option R) (xs2 : List S189) (a3 : Int) (xs4 : List S123) : (f100.l3.step k rec_ some xs2 a3 xs4).bind g = f100.l3.step k (fun xs2 a3 xs4 => (rec_ xs2 a3 xs4).bind g) g xs2 a3 xs4 := by
  simp only [f100.l3.step, bind_ite, bind_sum, Option.bind_assoc, Option.bind_some, Option.bind_none]
theorem f100.l3.good (k : Nat) (xs2 : List S189) (a3 : Int) (xs4 : List S123) : GoodL (f100.X k) (nthC 0 (loopsOf (bodyOf Try.f100))) (f100.l3.st xs2 a3 xs4) { α := ((List S123)), o := f100.l3 k k xs2 a3 xs4, w := f100.l3.w } :=
  loop_good (ι := (List S189) × Int × (List S123)) (α := ((List S123))) (fun i => f100.l3.st i.1 i.2.1 i.2.2) (fun j i => f100.l3 k j i.1 i.2.1 i.2.2) f100.l3.w (fun rec_ ret i => f100.l3.step k (fun xs2 a3 xs4 => rec_ (xs2, a3, xs4)) ret i.1 i.2.1 i.2.2)
    (fun _ => rfl) (fun _ _ => rfl) (fun rec_ g i => f100.l3.nat k _ g i.1 i.2.1 i.2.2) (fun {R} i0 i rec_ K => by kernel_rfl) k (xs2, a3, xs4)
theorem f100.l3.all (k : Nat) (S : St env) : GoodL (f100.X k) (nthC 0 (loopsOf (bodyOf Try.f100))) S (f100.l3.hd k S.ts S.m S.n) := by
  obtain ⟨ts_, m_, n_⟩ := S
  show GoodL _ _ _ (f100.l3.hd k ts_ m_ n_)
  unfold f100.l3.hd
  refine gTs_ok (p := GoodL _ _ _) goodL_no fun _ h => ?_
  subst h
  refine gV_ok (p := GoodL _ _ _) goodL_no fun _ _ h => ?_
  subst h
  refine rImm_ok (p := GoodL _ _ _) goodL_no fun _ h => ?_
  subst h
  refine gV_ok (p := GoodL _ _ _) goodL_no fun _ _ h => ?_
  subst h
  refine rRow_ok (p := GoodL _ _ _) goodL_no fun h => ?_
  subst h
  refine gV_ok (p := GoodL _ _ _) goodL_no fun _ _ h => ?_
  subst h
  refine rV_ok (p := GoodL _ _ _) goodL_no fun _ h => ?_
  subst h
  refine vI_ok (p := GoodL _ _ _) goodL_no fun _ h => ?_
  subst h
  refine gE_ok (p := GoodL _ _ _) goodL_no fun h => ?_
  subst h
  refine mRow_ok (p := GoodL _ _ _) goodL_no fun _ _ h => ?_
  subst h
  refine gE_ok (p := GoodL _ _ _) goodL_no fun h => ?_
  subst h
  refine gN_ok (p := GoodL _ _ _) goodL_no fun h => ?_
  subst h
  exact f100.l3.good k _ _ _
theorem f100.nat {R : Type} (k : Nat) (g : ((List S123)) → Option R) (xs1 : List S189) : f100.step k g xs1 = (f100 k xs1).bind g := by
  simp only [f100, f100.step, bind_ite, bind_sum, Option.bind_assoc, Option.bind_some, Option.bind_none]
theorem f100.ev (k : Nat) (xs1 : List S189) : evF (f100.X k) (bodyOf Try.f100) Try.f100.ntmps Try.f100.results.toList [.v (.c (.sl 189 xs1))] = f100.step k (fun x => f100.w x some) xs1 := by kernel_rfl
theorem f100.hok (k : Nat) : HOK (f100.X k) (bodyOf Try.f100) where
  l := allP_mem (by exact ⟨ls_of (h0 := fun S => f100.l3.hd k S.ts S.m S.n) (by kernel_rfl) (f100.l3.all k), trivial⟩)
  j := allP_mem (by exact trivial)
theorem f100.sound (k : Nat) : SoundC env Try.prog 100 (f100.e k).F := by
  intro ps_
  show GoodC _ _ _ ps_ (f100.hd k ps_)
  unfold f100.hd
  refine gC_ok (p := GoodC env Try.prog 100 _) goodC_no fun _ _ h => ?_
  subst h
  refine qC_ok (p := GoodC env Try.prog 100 _) goodC_no fun _ h => ?_
  subst h
  refine qSl_ok (p := GoodC env Try.prog 100 _) goodC_no fun _ h => ?_
  subst h
  refine gE_ok (p := GoodC env Try.prog 100 _) goodC_no fun h => ?_
  subst h
  exact fun_good (fun_sound envOK (cs_sound _ (by exact ⟨⟨f154.sound k, f154.fnok⟩, trivial⟩)) (f100.hok k) Try.func100 rfl) ((f100.ev k _).trans (f100.nat k _ _))
theorem f100.says (k : Nat) (xs1 : List S189) (t9 : (List S123)) (h_ : f100 k xs1 = some t9) : SoundAt env Try.prog 100 [.v (.c (.sl 189 xs1))] ⟨.v (.c (.own true 123 t9)), [[]]⟩ :=
  fun_sound envOK (cs_sound _ (by exact ⟨⟨f154.sound k, f154.fnok⟩, trivial⟩)) (f100.hok k) Try.func100 rfl _ _ (((f100.ev k xs1).trans (f100.nat k _ xs1)).trans (by rw [h_]; rfl))
theorem f100.fnok : FnOK Try.prog 100 := fn_ok Try.func100 (by kernel_rfl) rfl
def f22.l3.step {R : Type} (k : Nat) (rec_ : (List Int) → Int → (List Int) → Option R) (ret : ((List Int)) → Option R) (xs2 : List Int) (a3 : Int) (xs4 : List Int) : Option R :=
  if (decide (a3 < (((List.length xs2) : Nat) : Int))) = true then
    if (0 : Int) ≤ a3 then
      if a3 < ((List.length xs2 : Nat) : Int) then
        if (0 : Int) ≤ a3 then
          if a3 < ((List.length xs4 : Nat) : Int) then
            rec_ xs2 (IntKind.i64.wrap (a3 + (1 : Int))) (List.set xs4 (Int.toNat a3) (List.getD xs2 (Int.toNat a3) (0 : Int)))
          else none
        else none
      else none
    else none
  else
    ret xs4
def f22.l3 (k : Nat) : Nat → (List Int) → Int → (List Int) → Option ((List Int))
  | 0, _, _, _ => none
  | j + 1, xs2, a3, xs4 => f22.l3.step k (fun xs2 a3 xs4 => f22.l3 k j xs2 a3 xs4) some xs2 a3 xs4
def f22.l3.w {R : Type} : ((List Int)) → (Exit → St env → Option R) → Option R := fun t6 K => K (.exit 0) ⟨fullT [3] 0 22 [.v (.c (.row 49))], [(49, .row true 3 t6)], 337⟩
def f22.l3.st (xs2 : List Int) (a3 : Int) (xs4 : List Int) : St env := ⟨fullT [0, 3, 4] 0 22 [.v (.c (.imm 3 xs2)), .v (.c (.row 49)), .v (.c (.s (.int .i64 a3)))], [(49, .row true 3 xs4)], 97⟩
def f22.l3.hd (k : Nat) (ts_ : List (AV env)) (mm_ : Mem env) (n_ : Nat) : LCl env :=
  gTs LCl.no [0, 3, 4] 22 ts_ fun l_ => gV LCl.no l_ fun a_ l_ => rImm LCl.no 3 a_ fun xs2 => gV LCl.no l_ fun a_ l_ => rRow LCl.no 49 a_ <| gV LCl.no l_ fun a_ l_ => rV LCl.no a_ fun v_ => vI LCl.no .i64 v_ fun a3 => gE LCl.no l_ <| mRow LCl.no 49 true 3 mm_ fun xs4 m_ => gE LCl.no m_ <| gN LCl.no 97 n_ { α := (List Int), o := f22.l3 k k xs2 a3 xs4, w := f22.l3.w }
def f22.step {R : Type} (k : Nat) (ret : ((List Int)) → Option R) (xs1 : List Int) : Option R :=
  if (0 : Int) ≤ (((List.length xs1) : Nat) : Int) then
    if (Int.toNat (((List.length xs1) : Nat) : Int)) * 8 ≤ maxN then
      (f22.l3 k k xs1 (0 : Int) (List.replicate (Int.toNat (((List.length xs1) : Nat) : Int)) (0 : Int))).bind fun t5 => ret t5
    else none
  else none
def f22 (k : Nat) (xs1 : List Int) : Option ((List Int)) := f22.step k some xs1
def f22.w {R : Type} : ((List Int)) → (Res env → Option R) → Option R := fun t7 K => K ⟨.v (.c (.own true 3 t7)), [[]]⟩
theorem f22.wn (x : ((List Int))) : ∃ res, ∀ {R : Type} (K : Res env → Option R), f22.w x K = K res := by
  exact ⟨_, fun _ => rfl⟩
def f22.hd (k : Nat) (ps_ : List (P2 env)) : Cl env :=
  gC Cl.no ps_ fun p_ ps_ => qC Cl.no p_ fun c_ => qSl Cl.no 3 c_ fun xs1 => gE Cl.no ps_ <| { α := (List Int), o := f22 k xs1, w := f22.w, nat := fun x _ => f22.wn x }
def f22.e (k : Nat) : Entry env := ⟨f22.hd k⟩
def f22.X (k : Nat) : Ctx env := { C := lookE [], L := lookE [(3, fun S => f22.l3.hd k S.ts S.m S.n)], J := lookE [], keep := lookD [(3, [0, 3, 4])], keepX := lookD [(3, [3])], span := lookN [(3, 240)], eff := fun n => memN n [] }
theorem f22.l3.nat {R : Type} (k : Nat) (rec_ : (List Int) → Int → (List Int) → Option ((List Int))) (g : ((List Int)) → Option R) (xs2 : List Int) (a3 : Int) (xs4 : List Int) : (f22.l3.step k rec_ some xs2 a3 xs4).bind g = f22.l3.step k (fun xs2 a3 xs4 => (rec_ xs2 a3 xs4).bind g) g xs2 a3 xs4 := by
  simp only [f22.l3.step, bind_ite, bind_sum, Option.bind_assoc, Option.bind_some, Option.bind_none]
theorem f22.l3.good (k : Nat) (xs2 : List Int) (a3 : Int) (xs4 : List Int) : GoodL (f22.X k) (nthC 0 (loopsOf (bodyOf Try.f22))) (f22.l3.st xs2 a3 xs4) { α := ((List Int)), o := f22.l3 k k xs2 a3 xs4, w := f22.l3.w } :=
  loop_good (ι := (List Int) × Int × (List Int)) (α := ((List Int))) (fun i => f22.l3.st i.1 i.2.1 i.2.2) (fun j i => f22.l3 k j i.1 i.2.1 i.2.2) f22.l3.w (fun rec_ ret i => f22.l3.step k (fun xs2 a3 xs4 => rec_ (xs2, a3, xs4)) ret i.1 i.2.1 i.2.2)
    (fun _ => rfl) (fun _ _ => rfl) (fun rec_ g i => f22.l3.nat k _ g i.1 i.2.1 i.2.2) (fun {R} i0 i rec_ K => by kernel_rfl) k (xs2, a3, xs4)
theorem f22.l3.all (k : Nat) (S : St env) : GoodL (f22.X k) (nthC 0 (loopsOf (bodyOf Try.f22))) S (f22.l3.hd k S.ts S.m S.n) := by
  obtain ⟨ts_, m_, n_⟩ := S
  show GoodL _ _ _ (f22.l3.hd k ts_ m_ n_)
  unfold f22.l3.hd
  refine gTs_ok (p := GoodL _ _ _) goodL_no fun _ h => ?_
  subst h
  refine gV_ok (p := GoodL _ _ _) goodL_no fun _ _ h => ?_
  subst h
  refine rImm_ok (p := GoodL _ _ _) goodL_no fun _ h => ?_
  subst h
  refine gV_ok (p := GoodL _ _ _) goodL_no fun _ _ h => ?_
  subst h
  refine rRow_ok (p := GoodL _ _ _) goodL_no fun h => ?_
  subst h
  refine gV_ok (p := GoodL _ _ _) goodL_no fun _ _ h => ?_
  subst h
  refine rV_ok (p := GoodL _ _ _) goodL_no fun _ h => ?_
  subst h
  refine vI_ok (p := GoodL _ _ _) goodL_no fun _ h => ?_
  subst h
  refine gE_ok (p := GoodL _ _ _) goodL_no fun h => ?_
  subst h
  refine mRow_ok (p := GoodL _ _ _) goodL_no fun _ _ h => ?_
  subst h
  refine gE_ok (p := GoodL _ _ _) goodL_no fun h => ?_
  subst h
  refine gN_ok (p := GoodL _ _ _) goodL_no fun h => ?_
  subst h
  exact f22.l3.good k _ _ _
theorem f22.nat {R : Type} (k : Nat) (g : ((List Int)) → Option R) (xs1 : List Int) : f22.step k g xs1 = (f22 k xs1).bind g := by
  simp only [f22, f22.step, bind_ite, bind_sum, Option.bind_assoc, Option.bind_some, Option.bind_none]
theorem f22.ev (k : Nat) (xs1 : List Int) : evF (f22.X k) (bodyOf Try.f22) Try.f22.ntmps Try.f22.results.toList [.v (.c (.sl 3 xs1))] = f22.step k (fun x => f22.w x some) xs1 := by kernel_rfl
theorem f22.hok (k : Nat) : HOK (f22.X k) (bodyOf Try.f22) where
  l := allP_mem (by exact ⟨ls_of (h0 := fun S => f22.l3.hd k S.ts S.m S.n) (by kernel_rfl) (f22.l3.all k), trivial⟩)
  j := allP_mem (by exact trivial)
theorem f22.sound (k : Nat) : SoundC env Try.prog 22 (f22.e k).F := by
  intro ps_
  show GoodC _ _ _ ps_ (f22.hd k ps_)
  unfold f22.hd
  refine gC_ok (p := GoodC env Try.prog 22 _) goodC_no fun _ _ h => ?_
  subst h
  refine qC_ok (p := GoodC env Try.prog 22 _) goodC_no fun _ h => ?_
  subst h
  refine qSl_ok (p := GoodC env Try.prog 22 _) goodC_no fun _ h => ?_
  subst h
  refine gE_ok (p := GoodC env Try.prog 22 _) goodC_no fun h => ?_
  subst h
  exact fun_good (fun_sound envOK (cs_sound _ (by exact trivial)) (f22.hok k) Try.func22 rfl) ((f22.ev k _).trans (f22.nat k _ _))
theorem f22.says (k : Nat) (xs1 : List Int) (t8 : (List Int)) (h_ : f22 k xs1 = some t8) : SoundAt env Try.prog 22 [.v (.c (.sl 3 xs1))] ⟨.v (.c (.own true 3 t8)), [[]]⟩ :=
  fun_sound envOK (cs_sound _ (by exact trivial)) (f22.hok k) Try.func22 rfl _ _ (((f22.ev k xs1).trans (f22.nat k _ xs1)).trans (by rw [h_]; rfl))
theorem f22.fnok : FnOK Try.prog 22 := fn_ok Try.func22 (by kernel_rfl) rfl
def f39.step {R : Type} (k : Nat) (ret : ((List S123) × (List Int) × Bool) → Option R) (xs1 : List S189) (xs2 : List Int) (b3 : Bool) : Option R :=
  (f100 k xs1).bind fun t4 => (f22 k xs2).bind fun t5 => ret (t4, t5, b3)
def f39 (k : Nat) (xs1 : List S189) (xs2 : List Int) (b3 : Bool) : Option ((List S123) × (List Int) × Bool) := f39.step k some xs1 xs2 b3
def f39.w {R : Type} : ((List S123) × (List Int) × Bool) → (Res env → Option R) → Option R := fun t6 K => K ⟨.v (.g [.own true 123 t6.1, .own true 3 t6.2.1, .s (.bool t6.2.2)]), [[]]⟩
theorem f39.wn (x : ((List S123) × (List Int) × Bool)) : ∃ res, ∀ {R : Type} (K : Res env → Option R), f39.w x K = K res := by
  exact ⟨_, fun _ => rfl⟩
def f39.hd (k : Nat) (ps_ : List (P2 env)) : Cl env :=
  gC Cl.no ps_ fun p_ ps_ => qG Cl.no p_ fun cs_ => gC Cl.no cs_ fun c_ cs_ => qSl Cl.no 189 c_ fun xs1 => gC Cl.no cs_ fun c_ cs_ => qSl Cl.no 3 c_ fun xs2 => gC Cl.no cs_ fun c_ cs_ => qS Cl.no c_ fun v_ => vB Cl.no v_ fun b3 => gE Cl.no cs_ <| gE Cl.no ps_ <| { α := (List S123) × (List Int) × Bool, o := f39 k xs1 xs2 b3, w := f39.w, nat := fun x _ => f39.wn x }
def f39.e (k : Nat) : Entry env := ⟨f39.hd k⟩
def f39.X (k : Nat) : Ctx env := { C := lookE [(22, f22.e k), (100, f100.e k)], L := lookE [], J := lookE [], keep := lookD [], keepX := lookD [], span := lookN [], eff := fun n => memN n [] }
theorem f39.nat {R : Type} (k : Nat) (g : ((List S123) × (List Int) × Bool) → Option R) (xs1 : List S189) (xs2 : List Int) (b3 : Bool) : f39.step k g xs1 xs2 b3 = (f39 k xs1 xs2 b3).bind g := by
  simp only [f39, f39.step, bind_ite, bind_sum, Option.bind_assoc, Option.bind_some, Option.bind_none]
theorem f39.ev (k : Nat) (xs1 : List S189) (xs2 : List Int) (b3 : Bool) : evF (f39.X k) (bodyOf Try.f39) Try.f39.ntmps Try.f39.results.toList [.g [.sl 189 xs1, .sl 3 xs2, .s (.bool b3)]] = f39.step k (fun x => f39.w x some) xs1 xs2 b3 := by kernel_rfl
theorem f39.hok (k : Nat) : HOK (f39.X k) (bodyOf Try.f39) where
  l := allP_mem (by exact trivial)
  j := allP_mem (by exact trivial)
theorem f39.sound (k : Nat) : SoundC env Try.prog 39 (f39.e k).F := by
  intro ps_
  show GoodC _ _ _ ps_ (f39.hd k ps_)
  unfold f39.hd
  refine gC_ok (p := GoodC env Try.prog 39 _) goodC_no fun _ _ h => ?_
  subst h
  refine qG_ok (p := GoodC env Try.prog 39 _) goodC_no fun _ h => ?_
  subst h
  refine gC_ok (p := GoodC env Try.prog 39 _) goodC_no fun _ _ h => ?_
  subst h
  refine qSl_ok (p := GoodC env Try.prog 39 _) goodC_no fun _ h => ?_
  subst h
  refine gC_ok (p := GoodC env Try.prog 39 _) goodC_no fun _ _ h => ?_
  subst h
  refine qSl_ok (p := GoodC env Try.prog 39 _) goodC_no fun _ h => ?_
  subst h
  refine gC_ok (p := GoodC env Try.prog 39 _) goodC_no fun _ _ h => ?_
  subst h
  refine qS_ok (p := GoodC env Try.prog 39 _) goodC_no fun _ h => ?_
  subst h
  refine vB_ok (p := GoodC env Try.prog 39 _) goodC_no fun _ h => ?_
  subst h
  refine gE_ok (p := GoodC env Try.prog 39 _) goodC_no fun h => ?_
  subst h
  refine gE_ok (p := GoodC env Try.prog 39 _) goodC_no fun h => ?_
  subst h
  exact fun_good (fun_sound envOK (cs_sound _ (by exact ⟨⟨f22.sound k, f22.fnok⟩, ⟨f100.sound k, f100.fnok⟩, trivial⟩)) (f39.hok k) Try.func39 rfl) ((f39.ev k _ _ _).trans (f39.nat k _ _ _ _))
theorem f39.says (k : Nat) (xs1 : List S189) (xs2 : List Int) (b3 : Bool) (t7 : (List S123) × (List Int) × Bool) (h_ : f39 k xs1 xs2 b3 = some t7) : SoundAt env Try.prog 39 [.g [.sl 189 xs1, .sl 3 xs2, .s (.bool b3)]] ⟨.v (.g [.own true 123 t7.1, .own true 3 t7.2.1, .s (.bool t7.2.2)]), [[]]⟩ :=
  fun_sound envOK (cs_sound _ (by exact ⟨⟨f22.sound k, f22.fnok⟩, ⟨f100.sound k, f100.fnok⟩, trivial⟩)) (f39.hok k) Try.func39 rfl _ _ (((f39.ev k xs1 xs2 b3).trans (f39.nat k _ xs1 xs2 b3)).trans (by rw [h_]; rfl))
theorem f39.fnok : FnOK Try.prog 39 := fn_ok Try.func39 (by kernel_rfl) rfl
def f86.step {R : Type} (k : Nat) (ret : Bool → Option R) (a1 : Int) (a2 : Int) (a3 : Int) : Option R :=
  if (decide (a1 ≥ a2)) = true then
    ret (decide (a1 ≤ a3))
  else
    ret false
def f86 (k : Nat) (a1 : Int) (a2 : Int) (a3 : Int) : Option Bool := f86.step k some a1 a2 a3
def f86.w {R : Type} : Bool → (Res env → Option R) → Option R := fun t4 K => K ⟨.v (.c (.s (.bool t4))), [[], [], []]⟩
theorem f86.wn (x : Bool) : ∃ res, ∀ {R : Type} (K : Res env → Option R), f86.w x K = K res := by
  exact ⟨_, fun _ => rfl⟩
def f86.hd (k : Nat) (ps_ : List (P2 env)) : Cl env :=
  gC Cl.no ps_ fun p_ ps_ => qC Cl.no p_ fun c_ => qS Cl.no c_ fun v_ => vI Cl.no .i64 v_ fun a1 => gC Cl.no ps_ fun p_ ps_ => qC Cl.no p_ fun c_ => qS Cl.no c_ fun v_ => vI Cl.no .i64 v_ fun a2 => gC Cl.no ps_ fun p_ ps_ => qC Cl.no p_ fun c_ => qS Cl.no c_ fun v_ => vI Cl.no .i64 v_ fun a3 => gE Cl.no ps_ <| { α := Bool, o := f86 k a1 a2 a3, w := f86.w, nat := fun x _ => f86.wn x }
def f86.e (k : Nat) : Entry env := ⟨f86.hd k⟩
def f86.X (k : Nat) : Ctx env := { C := lookE [], L := lookE [], J := lookE [], keep := lookD [], keepX := lookD [], span := lookN [], eff := fun n => memN n [] }
theorem f86.nat {R : Type} (k : Nat) (g : Bool → Option R) (a1 : Int) (a2 : Int) (a3 : Int) : f86.step k g a1 a2 a3 = (f86 k a1 a2 a3).bind g := by
  simp only [f86, f86.step, bind_ite, bind_sum, Option.bind_assoc, Option.bind_some, Option.bind_none]
theorem f86.ev (k : Nat) (a1 : Int) (a2 : Int) (a3 : Int) : evF (f86.X k) (bodyOf Try.f86) Try.f86.ntmps Try.f86.results.toList [.v (.c (.s (.int .i64 a1))), .v (.c (.s (.int .i64 a2))), .v (.c (.s (.int .i64 a3)))] = f86.step k (fun x => f86.w x some) a1 a2 a3 := by kernel_rfl
theorem f86.hok (k : Nat) : HOK (f86.X k) (bodyOf Try.f86) where
  l := allP_mem (by exact trivial)
  j := allP_mem (by exact trivial)
theorem f86.sound (k : Nat) : SoundC env Try.prog 86 (f86.e k).F := by
  intro ps_
  show GoodC _ _ _ ps_ (f86.hd k ps_)
  unfold f86.hd
  refine gC_ok (p := GoodC env Try.prog 86 _) goodC_no fun _ _ h => ?_
  subst h
  refine qC_ok (p := GoodC env Try.prog 86 _) goodC_no fun _ h => ?_
  subst h
  refine qS_ok (p := GoodC env Try.prog 86 _) goodC_no fun _ h => ?_
  subst h
  refine vI_ok (p := GoodC env Try.prog 86 _) goodC_no fun _ h => ?_
  subst h
  refine gC_ok (p := GoodC env Try.prog 86 _) goodC_no fun _ _ h => ?_
  subst h
  refine qC_ok (p := GoodC env Try.prog 86 _) goodC_no fun _ h => ?_
  subst h
  refine qS_ok (p := GoodC env Try.prog 86 _) goodC_no fun _ h => ?_
  subst h
  refine vI_ok (p := GoodC env Try.prog 86 _) goodC_no fun _ h => ?_
  subst h
  refine gC_ok (p := GoodC env Try.prog 86 _) goodC_no fun _ _ h => ?_
  subst h
  refine qC_ok (p := GoodC env Try.prog 86 _) goodC_no fun _ h => ?_
  subst h
  refine qS_ok (p := GoodC env Try.prog 86 _) goodC_no fun _ h => ?_
  subst h
  refine vI_ok (p := GoodC env Try.prog 86 _) goodC_no fun _ h => ?_
  subst h
  refine gE_ok (p := GoodC env Try.prog 86 _) goodC_no fun h => ?_
  subst h
  exact fun_good (fun_sound envOK (cs_sound _ (by exact trivial)) (f86.hok k) Try.func86 rfl) ((f86.ev k _ _ _).trans (f86.nat k _ _ _ _))
theorem f86.says (k : Nat) (a1 : Int) (a2 : Int) (a3 : Int) (t5 : Bool) (h_ : f86 k a1 a2 a3 = some t5) : SoundAt env Try.prog 86 [.v (.c (.s (.int .i64 a1))), .v (.c (.s (.int .i64 a2))), .v (.c (.s (.int .i64 a3)))] ⟨.v (.c (.s (.bool t5))), [[], [], []]⟩ :=
  fun_sound envOK (cs_sound _ (by exact trivial)) (f86.hok k) Try.func86 rfl _ _ (((f86.ev k a1 a2 a3).trans (f86.nat k _ a1 a2 a3)).trans (by rw [h_]; rfl))
theorem f86.fnok : FnOK Try.prog 86 := fn_ok Try.func86 (by kernel_rfl) rfl
def f98.l3.step {R : Type} (k : Nat) (rec_ : Int → Int → Int → Int → (List S131) → Int → Int → Int → Option R) (ret : Int → Option R) (a7 : Int) (a8 : Int) (a9 : Int) (a10 : Int) (xs11 : List S131) (a12 : Int) (a13 : Int) (a14 : Int) : Option R :=
  if (decide (a8 < (((List.length xs11) : Nat) : Int))) = true then
    if (0 : Int) ≤ a8 then
      if a8 < ((List.length xs11 : Nat) : Int) then
        rec_ (IntKind.i64.wrap (a7 + (List.getD xs11 (Int.toNat a8) (⟨(0 : Int), (0 : Int)⟩ : S131)).f1)) (IntKind.i64.wrap (a8 + (1 : Int))) a9 a10 xs11 a12 a13 a14
      else none
    else none
  else
    ret a7
def f98.l3 (k : Nat) : Nat → Int → Int → Int → Int → (List S131) → Int → Int → Int → Option Int
  | 0, _, _, _, _, _, _, _, _ => none
  | j + 1, a7, a8, a9, a10, xs11, a12, a13, a14 => f98.l3.step k (fun a7 a8 a9 a10 xs11 a12 a13 a14 => f98.l3 k j a7 a8 a9 a10 xs11 a12 a13 a14) some a7 a8 a9 a10 xs11 a12 a13 a14
def f98.l3.w {R : Type} : Int → (Exit → St env → Option R) → Option R := fun t16 K => K (.exit 0) ⟨fullT [3] 0 21 [.v (.c (.s (.int .i64 t16)))], [], 337⟩
def f98.l3.st (a7 : Int) (a8 : Int) (a9 : Int) (a10 : Int) (xs11 : List S131) (a12 : Int) (a13 : Int) (a14 : Int) : St env := ⟨fullT [1, 3, 4] 0 21 [.v (.c (.bp 1 0)), .v (.c (.s (.int .i64 a7))), .v (.c (.s (.int .i64 a8)))], [(1, .box [.s (.int .i64 a9), .s (.int .i64 a10), .imm 131 xs11, .s (.int .i64 a12), .s (.int .i64 a13), .s (.int .i64 a14)])], 65⟩
def f98.l3.hd (k : Nat) (ts_ : List (AV env)) (mm_ : Mem env) (n_ : Nat) : LCl env :=
  gTs LCl.no [1, 3, 4] 21 ts_ fun l_ => gV LCl.no l_ fun a_ l_ => rBp LCl.no 1 0 a_ <| gV LCl.no l_ fun a_ l_ => rV LCl.no a_ fun v_ => vI LCl.no .i64 v_ fun a7 => gV LCl.no l_ fun a_ l_ => rV LCl.no a_ fun v_ => vI LCl.no .i64 v_ fun a8 => gE LCl.no l_ <| mBox LCl.no 1 mm_ fun c_ m_ => gC LCl.no c_ fun a_ c_ => rV LCl.no a_ fun v_ => vI LCl.no .i64 v_ fun a9 => gC LCl.no c_ fun a_ c_ => rV LCl.no a_ fun v_ => vI LCl.no .i64 v_ fun a10 => gC LCl.no c_ fun a_ c_ => rImm LCl.no 131 a_ fun xs11 => gC LCl.no c_ fun a_ c_ => rV LCl.no a_ fun v_ => vI LCl.no .i64 v_ fun a12 => gC LCl.no c_ fun a_ c_ => rV LCl.no a_ fun v_ => vI LCl.no .i64 v_ fun a13 => gC LCl.no c_ fun a_ c_ => rV LCl.no a_ fun v_ => vI LCl.no .i64 v_ fun a14 => gE LCl.no c_ <| gE LCl.no m_ <| gN LCl.no 65 n_ { α := Int, o := f98.l3 k k a7 a8 a9 a10 xs11 a12 a13 a14, w := f98.l3.w }
def f98.step {R : Type} (k : Nat) (ret : Int → Option R) (a1 : Int) (a2 : Int) (xs3 : List S131) (a4 : Int) (a5 : Int) (a6 : Int) : Option R :=
  (f98.l3 k k (0 : Int) (0 : Int) a1 a2 xs3 a4 a5 a6).bind fun t15 => ret t15
def f98 (k : Nat) (a1 : Int) (a2 : Int) (xs3 : List S131) (a4 : Int) (a5 : Int) (a6 : Int) : Option Int := f98.step k some a1 a2 xs3 a4 a5 a6
def f98.w {R : Type} : Int → (Res env → Option R) → Option R := fun t17 K => K ⟨.v (.c (.s (.int .i64 t17))), [[]]⟩
theorem f98.wn (x : Int) : ∃ res, ∀ {R : Type} (K : Res env → Option R), f98.w x K = K res := by
  exact ⟨_, fun _ => rfl⟩
def f98.hd (k : Nat) (ps_ : List (P2 env)) : Cl env :=
  gC Cl.no ps_ fun p_ ps_ => qG Cl.no p_ fun cs_ => gC Cl.no cs_ fun c_ cs_ => qS Cl.no c_ fun v_ => vI Cl.no .i64 v_ fun a1 => gC Cl.no cs_ fun c_ cs_ => qS Cl.no c_ fun v_ => vI Cl.no .i64 v_ fun a2 => gC Cl.no cs_ fun c_ cs_ => qSl Cl.no 131 c_ fun xs3 => gC Cl.no cs_ fun c_ cs_ => qS Cl.no c_ fun v_ => vI Cl.no .i64 v_ fun a4 => gC Cl.no cs_ fun c_ cs_ => qS Cl.no c_ fun v_ => vI Cl.no .i64 v_ fun a5 => gC Cl.no cs_ fun c_ cs_ => qS Cl.no c_ fun v_ => vI Cl.no .i64 v_ fun a6 => gE Cl.no cs_ <| gE Cl.no ps_ <| { α := Int, o := f98 k a1 a2 xs3 a4 a5 a6, w := f98.w, nat := fun x _ => f98.wn x }
def f98.e (k : Nat) : Entry env := ⟨f98.hd k⟩
def f98.X (k : Nat) : Ctx env := { C := lookE [], L := lookE [(3, fun S => f98.l3.hd k S.ts S.m S.n)], J := lookE [], keep := lookD [(3, [1, 3, 4])], keepX := lookD [(3, [3])], span := lookN [(3, 272)], eff := fun n => memN n [] }
theorem f98.l3.nat {R : Type} (k : Nat) (rec_ : Int → Int → Int → Int → (List S131) → Int → Int → Int → Option Int) (g : Int → Option R) (a7 : Int) (a8 : Int) (a9 : Int) (a10 : Int) (xs11 : List S131) (a12 : Int) (a13 : Int) (a14 : Int) : (f98.l3.step k rec_ some a7 a8 a9 a10 xs11 a12 a13 a14).bind g = f98.l3.step k (fun a7 a8 a9 a10 xs11 a12 a13 a14 => (rec_ a7 a8 a9 a10 xs11 a12 a13 a14).bind g) g a7 a8 a9 a10 xs11 a12 a13 a14 := by
  simp only [f98.l3.step, bind_ite, bind_sum, Option.bind_assoc, Option.bind_some, Option.bind_none]
theorem f98.l3.good (k : Nat) (a7 : Int) (a8 : Int) (a9 : Int) (a10 : Int) (xs11 : List S131) (a12 : Int) (a13 : Int) (a14 : Int) : GoodL (f98.X k) (nthC 0 (loopsOf (bodyOf Try.f98))) (f98.l3.st a7 a8 a9 a10 xs11 a12 a13 a14) { α := Int, o := f98.l3 k k a7 a8 a9 a10 xs11 a12 a13 a14, w := f98.l3.w } :=
  loop_good (ι := Int × Int × Int × Int × (List S131) × Int × Int × Int) (α := Int) (fun i => f98.l3.st i.1 i.2.1 i.2.2.1 i.2.2.2.1 i.2.2.2.2.1 i.2.2.2.2.2.1 i.2.2.2.2.2.2.1 i.2.2.2.2.2.2.2) (fun j i => f98.l3 k j i.1 i.2.1 i.2.2.1 i.2.2.2.1 i.2.2.2.2.1 i.2.2.2.2.2.1 i.2.2.2.2.2.2.1 i.2.2.2.2.2.2.2) f98.l3.w (fun rec_ ret i => f98.l3.step k (fun a7 a8 a9 a10 xs11 a12 a13 a14 => rec_ (a7, a8, a9, a10, xs11, a12, a13, a14)) ret i.1 i.2.1 i.2.2.1 i.2.2.2.1 i.2.2.2.2.1 i.2.2.2.2.2.1 i.2.2.2.2.2.2.1 i.2.2.2.2.2.2.2)
    (fun _ => rfl) (fun _ _ => rfl) (fun rec_ g i => f98.l3.nat k _ g i.1 i.2.1 i.2.2.1 i.2.2.2.1 i.2.2.2.2.1 i.2.2.2.2.2.1 i.2.2.2.2.2.2.1 i.2.2.2.2.2.2.2) (fun {R} i0 i rec_ K => by kernel_rfl) k (a7, a8, a9, a10, xs11, a12, a13, a14)
theorem f98.l3.all (k : Nat) (S : St env) : GoodL (f98.X k) (nthC 0 (loopsOf (bodyOf Try.f98))) S (f98.l3.hd k S.ts S.m S.n) := by
  obtain ⟨ts_, m_, n_⟩ := S
  show GoodL _ _ _ (f98.l3.hd k ts_ m_ n_)
  unfold f98.l3.hd
  refine gTs_ok (p := GoodL _ _ _) goodL_no fun _ h => ?_
  subst h
  refine gV_ok (p := GoodL _ _ _) goodL_no fun _ _ h => ?_
  subst h
  refine rBp_ok (p := GoodL _ _ _) goodL_no fun h => ?_
  subst h
  refine gV_ok (p := GoodL _ _ _) goodL_no fun _ _ h => ?_
  subst h
  refine rV_ok (p := GoodL _ _ _) goodL_no fun _ h => ?_
  subst h
  refine vI_ok (p := GoodL _ _ _) goodL_no fun _ h => ?_
  subst h
  refine gV_ok (p := GoodL _ _ _) goodL_no fun _ _ h => ?_
  subst h
  refine rV_ok (p := GoodL _ _ _) goodL_no fun _ h => ?_
  subst h
  refine vI_ok (p := GoodL _ _ _) goodL_no fun _ h => ?_
  subst h
  refine gE_ok (p := GoodL _ _ _) goodL_no fun h => ?_
  subst h
  refine mBox_ok (p := GoodL _ _ _) goodL_no fun _ _ h => ?_
  subst h
  refine gC_ok (p := GoodL _ _ _) goodL_no fun _ _ h => ?_
  subst h
  refine rV_ok (p := GoodL _ _ _) goodL_no fun _ h => ?_
  subst h
  refine vI_ok (p := GoodL _ _ _) goodL_no fun _ h => ?_
  subst h
  refine gC_ok (p := GoodL _ _ _) goodL_no fun _ _ h => ?_
  subst h
  refine rV_ok (p := GoodL _ _ _) goodL_no fun _ h => ?_
  subst h
  refine vI_ok (p := GoodL _ _ _) goodL_no fun _ h => ?_
  subst h
  refine gC_ok (p := GoodL _ _ _) goodL_no fun _ _ h => ?_
  subst h
  refine rImm_ok (p := GoodL _ _ _) goodL_no fun _ h => ?_
  subst h
  refine gC_ok (p := GoodL _ _ _) goodL_no fun _ _ h => ?_
  subst h
  refine rV_ok (p := GoodL _ _ _) goodL_no fun _ h => ?_
  subst h
  refine vI_ok (p := GoodL _ _ _) goodL_no fun _ h => ?_
  subst h
  refine gC_ok (p := GoodL _ _ _) goodL_no fun _ _ h => ?_
  subst h
  refine rV_ok (p := GoodL _ _ _) goodL_no fun _ h => ?_
  subst h
  refine vI_ok (p := GoodL _ _ _) goodL_no fun _ h => ?_
  subst h
  refine gC_ok (p := GoodL _ _ _) goodL_no fun _ _ h => ?_
  subst h
  refine rV_ok (p := GoodL _ _ _) goodL_no fun _ h => ?_
  subst h
  refine vI_ok (p := GoodL _ _ _) goodL_no fun _ h => ?_
  subst h
  refine gE_ok (p := GoodL _ _ _) goodL_no fun h => ?_
  subst h
  refine gE_ok (p := GoodL _ _ _) goodL_no fun h => ?_
  subst h
  refine gN_ok (p := GoodL _ _ _) goodL_no fun h => ?_
  subst h
  exact f98.l3.good k _ _ _ _ _ _ _ _
theorem f98.nat {R : Type} (k : Nat) (g : Int → Option R) (a1 : Int) (a2 : Int) (xs3 : List S131) (a4 : Int) (a5 : Int) (a6 : Int) : f98.step k g a1 a2 xs3 a4 a5 a6 = (f98 k a1 a2 xs3 a4 a5 a6).bind g := by
  simp only [f98, f98.step, bind_ite, bind_sum, Option.bind_assoc, Option.bind_some, Option.bind_none]
theorem f98.ev (k : Nat) (a1 : Int) (a2 : Int) (xs3 : List S131) (a4 : Int) (a5 : Int) (a6 : Int) : evF (f98.X k) (bodyOf Try.f98) Try.f98.ntmps Try.f98.results.toList [.g [.s (.int .i64 a1), .s (.int .i64 a2), .sl 131 xs3, .s (.int .i64 a4), .s (.int .i64 a5), .s (.int .i64 a6)]] = f98.step k (fun x => f98.w x some) a1 a2 xs3 a4 a5 a6 := by kernel_rfl
theorem f98.hok (k : Nat) : HOK (f98.X k) (bodyOf Try.f98) where
  l := allP_mem (by exact ⟨ls_of (h0 := fun S => f98.l3.hd k S.ts S.m S.n) (by kernel_rfl) (f98.l3.all k), trivial⟩)
  j := allP_mem (by exact trivial)
theorem f98.sound (k : Nat) : SoundC env Try.prog 98 (f98.e k).F := by
  intro ps_
  show GoodC _ _ _ ps_ (f98.hd k ps_)
  unfold f98.hd
  refine gC_ok (p := GoodC env Try.prog 98 _) goodC_no fun _ _ h => ?_
  subst h
  refine qG_ok (p := GoodC env Try.prog 98 _) goodC_no fun _ h => ?_
  subst h
  refine gC_ok (p := GoodC env Try.prog 98 _) goodC_no fun _ _ h => ?_
  subst h
  refine qS_ok (p := GoodC env Try.prog 98 _) goodC_no fun _ h => ?_
  subst h
  refine vI_ok (p := GoodC env Try.prog 98 _) goodC_no fun _ h => ?_
  subst h
  refine gC_ok (p := GoodC env Try.prog 98 _) goodC_no fun _ _ h => ?_
  subst h
  refine qS_ok (p := GoodC env Try.prog 98 _) goodC_no fun _ h => ?_
  subst h
  refine vI_ok (p := GoodC env Try.prog 98 _) goodC_no fun _ h => ?_
  subst h
  refine gC_ok (p := GoodC env Try.prog 98 _) goodC_no fun _ _ h => ?_
  subst h
  refine qSl_ok (p := GoodC env Try.prog 98 _) goodC_no fun _ h => ?_
  subst h
  refine gC_ok (p := GoodC env Try.prog 98 _) goodC_no fun _ _ h => ?_
  subst h
  refine qS_ok (p := GoodC env Try.prog 98 _) goodC_no fun _ h => ?_
  subst h
  refine vI_ok (p := GoodC env Try.prog 98 _) goodC_no fun _ h => ?_
  subst h
  refine gC_ok (p := GoodC env Try.prog 98 _) goodC_no fun _ _ h => ?_
  subst h
  refine qS_ok (p := GoodC env Try.prog 98 _) goodC_no fun _ h => ?_
  subst h
  refine vI_ok (p := GoodC env Try.prog 98 _) goodC_no fun _ h => ?_
  subst h
  refine gC_ok (p := GoodC env Try.prog 98 _) goodC_no fun _ _ h => ?_
  subst h
  refine qS_ok (p := GoodC env Try.prog 98 _) goodC_no fun _ h => ?_
  subst h
  refine vI_ok (p := GoodC env Try.prog 98 _) goodC_no fun _ h => ?_
  subst h
  refine gE_ok (p := GoodC env Try.prog 98 _) goodC_no fun h => ?_
  subst h
  refine gE_ok (p := GoodC env Try.prog 98 _) goodC_no fun h => ?_
  subst h
  exact fun_good (fun_sound envOK (cs_sound _ (by exact trivial)) (f98.hok k) Try.func98 rfl) ((f98.ev k _ _ _ _ _ _).trans (f98.nat k _ _ _ _ _ _ _))
theorem f98.says (k : Nat) (a1 : Int) (a2 : Int) (xs3 : List S131) (a4 : Int) (a5 : Int) (a6 : Int) (t18 : Int) (h_ : f98 k a1 a2 xs3 a4 a5 a6 = some t18) : SoundAt env Try.prog 98 [.g [.s (.int .i64 a1), .s (.int .i64 a2), .sl 131 xs3, .s (.int .i64 a4), .s (.int .i64 a5), .s (.int .i64 a6)]] ⟨.v (.c (.s (.int .i64 t18))), [[]]⟩ :=
  fun_sound envOK (cs_sound _ (by exact trivial)) (f98.hok k) Try.func98 rfl _ _ (((f98.ev k a1 a2 xs3 a4 a5 a6).trans (f98.nat k _ a1 a2 xs3 a4 a5 a6)).trans (by rw [h_]; rfl))
theorem f98.fnok : FnOK Try.prog 98 := fn_ok Try.func98 (by kernel_rfl) rfl
def f99.step {R : Type} (k : Nat) (ret : Int → Option R) (b1 : Bool) (a2 : Int) : Option R :=
  if b1 = true then
    ret a2
  else
    ret (0 : Int)
def f99 (k : Nat) (b1 : Bool) (a2 : Int) : Option Int := f99.step k some b1 a2
def f99.w {R : Type} : Int → (Res env → Option R) → Option R := fun t3 K => K ⟨.v (.c (.s (.int .i64 t3))), [[], []]⟩
theorem f99.wn (x : Int) : ∃ res, ∀ {R : Type} (K : Res env → Option R), f99.w x K = K res := by
  exact ⟨_, fun _ => rfl⟩
def f99.hd (k : Nat) (ps_ : List (P2 env)) : Cl env :=
  gC Cl.no ps_ fun p_ ps_ => qC Cl.no p_ fun c_ => qS Cl.no c_ fun v_ => vB Cl.no v_ fun b1 => gC Cl.no ps_ fun p_ ps_ => qC Cl.no p_ fun c_ => qS Cl.no c_ fun v_ => vI Cl.no .i64 v_ fun a2 => gE Cl.no ps_ <| { α := Int, o := f99 k b1 a2, w := f99.w, nat := fun x _ => f99.wn x }
def f99.e (k : Nat) : Entry env := ⟨f99.hd k⟩
def f99.X (k : Nat) : Ctx env := { C := lookE [], L := lookE [], J := lookE [], keep := lookD [], keepX := lookD [], span := lookN [], eff := fun n => memN n [] }
theorem f99.nat {R : Type} (k : Nat) (g : Int → Option R) (b1 : Bool) (a2 : Int) : f99.step k g b1 a2 = (f99 k b1 a2).bind g := by
  simp only [f99, f99.step, bind_ite, bind_sum, Option.bind_assoc, Option.bind_some, Option.bind_none]
theorem f99.ev (k : Nat) (b1 : Bool) (a2 : Int) : evF (f99.X k) (bodyOf Try.f99) Try.f99.ntmps Try.f99.results.toList [.v (.c (.s (.bool b1))), .v (.c (.s (.int .i64 a2)))] = f99.step k (fun x => f99.w x some) b1 a2 := by kernel_rfl
theorem f99.hok (k : Nat) : HOK (f99.X k) (bodyOf Try.f99) where
  l := allP_mem (by exact trivial)
  j := allP_mem (by exact trivial)
theorem f99.sound (k : Nat) : SoundC env Try.prog 99 (f99.e k).F := by
  intro ps_
  show GoodC _ _ _ ps_ (f99.hd k ps_)
  unfold f99.hd
  refine gC_ok (p := GoodC env Try.prog 99 _) goodC_no fun _ _ h => ?_
  subst h
  refine qC_ok (p := GoodC env Try.prog 99 _) goodC_no fun _ h => ?_
  subst h
  refine qS_ok (p := GoodC env Try.prog 99 _) goodC_no fun _ h => ?_
  subst h
  refine vB_ok (p := GoodC env Try.prog 99 _) goodC_no fun _ h => ?_
  subst h
  refine gC_ok (p := GoodC env Try.prog 99 _) goodC_no fun _ _ h => ?_
  subst h
  refine qC_ok (p := GoodC env Try.prog 99 _) goodC_no fun _ h => ?_
  subst h
  refine qS_ok (p := GoodC env Try.prog 99 _) goodC_no fun _ h => ?_
  subst h
  refine vI_ok (p := GoodC env Try.prog 99 _) goodC_no fun _ h => ?_
  subst h
  refine gE_ok (p := GoodC env Try.prog 99 _) goodC_no fun h => ?_
  subst h
  exact fun_good (fun_sound envOK (cs_sound _ (by exact trivial)) (f99.hok k) Try.func99 rfl) ((f99.ev k _ _).trans (f99.nat k _ _ _))
theorem f99.says (k : Nat) (b1 : Bool) (a2 : Int) (t4 : Int) (h_ : f99 k b1 a2 = some t4) : SoundAt env Try.prog 99 [.v (.c (.s (.bool b1))), .v (.c (.s (.int .i64 a2)))] ⟨.v (.c (.s (.int .i64 t4))), [[], []]⟩ :=
  fun_sound envOK (cs_sound _ (by exact trivial)) (f99.hok k) Try.func99 rfl _ _ (((f99.ev k b1 a2).trans (f99.nat k _ b1 a2)).trans (by rw [h_]; rfl))
theorem f99.fnok : FnOK Try.prog 99 := fn_ok Try.func99 (by kernel_rfl) rfl
def f38.l5.step {R : Type} (k : Nat) (rec_ : Int → (List S123) → (List Int) → Bool → (List Bool) → Option R) (ret : ((Bool × (List S123) × (List Int) × Bool × (List Bool)) ⊕ ((List S123) × (List Int) × Bool × (List Bool))) → Option R) (a5 : Int) (xs6 : List S123) (xs7 : List Int) (b8 : Bool) (xs9 : List Bool) : Option R :=
  if (decide (a5 < (((List.length xs7) : Nat) : Int))) = true then
    if (0 : Int) ≤ a5 then
      if a5 < ((List.length xs7 : Nat) : Int) then
        (f86 k (List.getD xs7 (Int.toNat a5) (0 : Int)) (0 : Int) (IntKind.i64.wrap ((((List.length xs6) : Nat) : Int) - (1 : Int)))).bind fun t10 => if (!t10) = false then
            if (0 : Int) ≤ a5 then
              if a5 < ((List.length xs7 : Nat) : Int) then
                if (0 : Int) ≤ (List.getD xs7 (Int.toNat a5) (0 : Int)) then
                  if (List.getD xs7 (Int.toNat a5) (0 : Int)) < ((List.length xs9 : Nat) : Int) then
                    if (List.getD xs9 (Int.toNat (List.getD xs7 (Int.toNat a5) (0 : Int))) false) = true then
                      ret (.inl (false, xs6, xs7, b8, xs9))
                    else
                      if (0 : Int) ≤ a5 then
                        if a5 < ((List.length xs7 : Nat) : Int) then
                          if (0 : Int) ≤ (List.getD xs7 (Int.toNat a5) (0 : Int)) then
                            if (List.getD xs7 (Int.toNat a5) (0 : Int)) < ((List.length xs9 : Nat) : Int) then
                              rec_ (IntKind.i64.wrap (a5 + (1 : Int))) xs6 xs7 b8 (List.set xs9 (Int.toNat (List.getD xs7 (Int.toNat a5) (0 : Int))) true)
                            else none
                          else none
                        else none
                      else none
                  else none
                else none
              else none
            else none
          else
            ret (.inl (false, xs6, xs7, b8, xs9))
      else none
    else none
  else
    ret (.inr (xs6, xs7, b8, xs9))
def f38.l5 (k : Nat) : Nat → Int → (List S123) → (List Int) → Bool → (List Bool) → Option ((Bool × (List S123) × (List Int) × Bool × (List Bool)) ⊕ ((List S123) × (List Int) × Bool × (List Bool)))
  | 0, _, _, _, _, _ => none
  | j + 1, a5, xs6, xs7, b8, xs9 => f38.l5.step k (fun a5 xs6 xs7 b8 xs9 => f38.l5 k j a5 xs6 xs7 b8 xs9) some a5 xs6 xs7 b8 xs9
def f38.l5.w {R : Type} : ((Bool × (List S123) × (List Int) × Bool × (List Bool)) ⊕ ((List S123) × (List Int) × Bool × (List Bool))) → (Exit → St env → Option R) → Option R := fun x K => Sum.elim (fun t49 => K .ret ⟨fullT [1, 2, 3] 0 178 [.v (.c (.bp 1 0)), .v (.c (.s (.bool t49.1))), .v (.c (.row 465))], [(1, .box [.imm 123 t49.2.1, .imm 3 t49.2.2.1, .s (.bool t49.2.2.2.1)]), (465, .row true 4 t49.2.2.2.2)], 1121⟩) (fun t50 => K (.exit 0) ⟨fullT [1, 3] 0 178 [.v (.c (.bp 1 0)), .v (.c (.row 465))], [(1, .box [.imm 123 t50.1, .imm 3 t50.2.1, .s (.bool t50.2.2.1)]), (465, .row true 4 t50.2.2.2)], 1121⟩) x
def f38.l5.st (a5 : Int) (xs6 : List S123) (xs7 : List Int) (b8 : Bool) (xs9 : List Bool) : St env := ⟨fullT [1, 3, 4] 0 178 [.v (.c (.bp 1 0)), .v (.c (.row 465)), .v (.c (.s (.int .i64 a5)))], [(1, .box [.imm 123 xs6, .imm 3 xs7, .s (.bool b8)]), (465, .row true 4 xs9)], 513⟩
def f38.l5.hd (k : Nat) (ts_ : List (AV env)) (mm_ : Mem env) (n_ : Nat) : LCl env :=
  gTs LCl.no [1, 3, 4] 178 ts_ fun l_ => gV LCl.no l_ fun a_ l_ => rBp LCl.no 1 0 a_ <| gV LCl.no l_ fun a_ l_ => rRow LCl.no 465 a_ <| gV LCl.no l_ fun a_ l_ => rV LCl.no a_ fun v_ => vI LCl.no .i64 v_ fun a5 => gE LCl.no l_ <| mBox LCl.no 1 mm_ fun c_ m_ => gC LCl.no c_ fun a_ c_ => rImm LCl.no 123 a_ fun xs6 => gC LCl.no c_ fun a_ c_ => rImm LCl.no 3 a_ fun xs7 => gC LCl.no c_ fun a_ c_ => rV LCl.no a_ fun v_ => vB LCl.no v_ fun b8 => gE LCl.no c_ <| mRow LCl.no 465 true 4 m_ fun xs9 m_ => gE LCl.no m_ <| gN LCl.no 513 n_ { α := (Bool × (List S123) × (List Int) × Bool × (List Bool)) ⊕ ((List S123) × (List Int) × Bool × (List Bool)), o := f38.l5 k k a5 xs6 xs7 b8 xs9, w := f38.l5.w }
def f38.l17.step {R : Type} (k : Nat) (rec_ : Int → Int → (List S123) → (List Int) → Bool → (List Bool) → Int → Int → (List S131) → Int → Int → Int → Option R) (ret : ((Bool × Int × (List S123) × (List Int) × Bool × (List Bool) × Int × Int × (List S131) × Int × Int × Int) ⊕ (Int × (List S123) × (List Int) × Bool × (List Bool) × Int × Int × (List S131) × Int × Int × Int)) → Option R) (a22 : Int) (a23 : Int) (xs24 : List S123) (xs25 : List Int) (b26 : Bool) (xs27 : List Bool) (a28 : Int) (a29 : Int) (xs30 : List S131) (a31 : Int) (a32 : Int) (a33 : Int) : Option R :=
  if (decide (a23 < (((List.length xs30) : Nat) : Int))) = true then
    if (0 : Int) ≤ a23 then
      if a23 < ((List.length xs30 : Nat) : Int) then
        (f86 k (List.getD xs30 (Int.toNat a23) (⟨(0 : Int), (0 : Int)⟩ : S131)).f1 (1 : Int) (1500 : Int)).bind fun t34 => if (!t34) = true then
            ret (.inl (false, a22, xs24, xs25, b26, xs27, a28, a29, xs30, a31, a32, a33))
          else
            rec_ a22 (IntKind.i64.wrap (a23 + (1 : Int))) xs24 xs25 b26 xs27 a28 a29 xs30 a31 a32 a33
      else none
    else none
  else
    ret (.inr (a22, xs24, xs25, b26, xs27, a28, a29, xs30, a31, a32, a33))
def f38.l17 (k : Nat) : Nat → Int → Int → (List S123) → (List Int) → Bool → (List Bool) → Int → Int → (List S131) → Int → Int → Int → Option ((Bool × Int × (List S123) × (List Int) × Bool × (List Bool) × Int × Int × (List S131) × Int × Int × Int) ⊕ (Int × (List S123) × (List Int) × Bool × (List Bool) × Int × Int × (List S131) × Int × Int × Int))
  | 0, _, _, _, _, _, _, _, _, _, _, _, _ => none
  | j + 1, a22, a23, xs24, xs25, b26, xs27, a28, a29, xs30, a31, a32, a33 => f38.l17.step k (fun a22 a23 xs24 xs25 b26 xs27 a28 a29 xs30 a31 a32 a33 => f38.l17 k j a22 a23 xs24 xs25 b26 xs27 a28 a29 xs30 a31 a32 a33) some a22 a23 xs24 xs25 b26 xs27 a28 a29 xs30 a31 a32 a33
def f38.l17.w {R : Type} : ((Bool × Int × (List S123) × (List Int) × Bool × (List Bool) × Int × Int × (List S131) × Int × Int × Int) ⊕ (Int × (List S123) × (List Int) × Bool × (List Bool) × Int × Int × (List S131) × Int × Int × Int)) → (Exit → St env → Option R) → Option R := fun x K => Sum.elim (fun t51 => K .ret ⟨fullT [1, 2, 3, 5, 6] 0 178 [.v (.c (.bp 1 0)), .v (.c (.s (.bool t51.1))), .v (.c (.row 465)), .v (.c (.s (.int .i64 t51.2.1))), .v (.c (.bp 1297 0))], [(1, .box [.imm 123 t51.2.2.1, .imm 3 t51.2.2.2.1, .s (.bool t51.2.2.2.2.1)]), (465, .row true 4 t51.2.2.2.2.2.1), (1297, .box [.s (.int .i64 t51.2.2.2.2.2.2.1), .s (.int .i64 t51.2.2.2.2.2.2.2.1), .imm 131 t51.2.2.2.2.2.2.2.2.1, .s (.int .i64 t51.2.2.2.2.2.2.2.2.2.1), .s (.int .i64 t51.2.2.2.2.2.2.2.2.2.2.1), .s (.int .i64 t51.2.2.2.2.2.2.2.2.2.2.2)])], 2241⟩) (fun t52 => K (.exit 4) ⟨fullT [1, 3, 5, 6] 0 178 [.v (.c (.bp 1 0)), .v (.c (.row 465)), .v (.c (.s (.int .i64 t52.1))), .v (.c (.bp 1297 0))], [(1, .box [.imm 123 t52.2.1, .imm 3 t52.2.2.1, .s (.bool t52.2.2.2.1)]), (465, .row true 4 t52.2.2.2.2.1), (1297, .box [.s (.int .i64 t52.2.2.2.2.2.1), .s (.int .i64 t52.2.2.2.2.2.2.1), .imm 131 t52.2.2.2.2.2.2.2.1, .s (.int .i64 t52.2.2.2.2.2.2.2.2.1), .s (.int .i64 t52.2.2.2.2.2.2.2.2.2.1), .s (.int .i64 t52.2.2.2.2.2.2.2.2.2.2)])], 2241⟩) x
def f38.l17.st (a22 : Int) (a23 : Int) (xs24 : List S123) (xs25 : List Int) (b26 : Bool) (xs27 : List Bool) (a28 : Int) (a29 : Int) (xs30 : List S131) (a31 : Int) (a32 : Int) (a33 : Int) : St env := ⟨fullT [1, 3, 5, 6, 7] 0 178 [.v (.c (.bp 1 0)), .v (.c (.row 465)), .v (.c (.s (.int .i64 a22))), .v (.c (.bp 1297 0)), .v (.c (.s (.int .i64 a23)))], [(1, .box [.imm 123 xs24, .imm 3 xs25, .s (.bool b26)]), (465, .row true 4 xs27), (1297, .box [.s (.int .i64 a28), .s (.int .i64 a29), .imm 131 xs30, .s (.int .i64 a31), .s (.int .i64 a32), .s (.int .i64 a33)])], 1969⟩
def f38.l17.hd (k : Nat) (ts_ : List (AV env)) (mm_ : Mem env) (n_ : Nat) : LCl env :=
  gTs LCl.no [1, 3, 5, 6, 7] 178 ts_ fun l_ => gV LCl.no l_ fun a_ l_ => rBp LCl.no 1 0 a_ <| gV LCl.no l_ fun a_ l_ => rRow LCl.no 465 a_ <| gV LCl.no l_ fun a_ l_ => rV LCl.no a_ fun v_ => vI LCl.no .i64 v_ fun a22 => gV LCl.no l_ fun a_ l_ => rBp LCl.no 1297 0 a_ <| gV LCl.no l_ fun a_ l_ => rV LCl.no a_ fun v_ => vI LCl.no .i64 v_ fun a23 => gE LCl.no l_ <| mBox LCl.no 1 mm_ fun c_ m_ => gC LCl.no c_ fun a_ c_ => rImm LCl.no 123 a_ fun xs24 => gC LCl.no c_ fun a_ c_ => rImm LCl.no 3 a_ fun xs25 => gC LCl.no c_ fun a_ c_ => rV LCl.no a_ fun v_ => vB LCl.no v_ fun b26 => gE LCl.no c_ <| mRow LCl.no 465 true 4 m_ fun xs27 m_ => mBox LCl.no 1297 m_ fun c_ m_ => gC LCl.no c_ fun a_ c_ => rV LCl.no a_ fun v_ => vI LCl.no .i64 v_ fun a28 => gC LCl.no c_ fun a_ c_ => rV LCl.no a_ fun v_ => vI LCl.no .i64 v_ fun a29 => gC LCl.no c_ fun a_ c_ => rImm LCl.no 131 a_ fun xs30 => gC LCl.no c_ fun a_ c_ => rV LCl.no a_ fun v_ => vI LCl.no .i64 v_ fun a31 => gC LCl.no c_ fun a_ c_ => rV LCl.no a_ fun v_ => vI LCl.no .i64 v_ fun a32 => gC LCl.no c_ fun a_ c_ => rV LCl.no a_ fun v_ => vI LCl.no .i64 v_ fun a33 => gE LCl.no c_ <| gE LCl.no m_ <| gN LCl.no 1969 n_ { α := (Bool × Int × (List S123) × (List Int) × Bool × (List Bool) × Int × Int × (List S131) × Int × Int × Int) ⊕ (Int × (List S123) × (List Int) × Bool × (List Bool) × Int × Int × (List S131) × Int × Int × Int), o := f38.l17 k k a22 a23 xs24 xs25 b26 xs27 a28 a29 xs30 a31 a32 a33, w := f38.l17.w }
def f38.l11.step {R : Type} (k : Nat) (rec_ : Int → (List S123) → (List Int) → Bool → (List Bool) → Option R) (ret : (Bool ⊕ (Unit)) → Option R) (a13 : Int) (xs14 : List S123) (xs15 : List Int) (b16 : Bool) (xs17 : List Bool) : Option R :=
  if (decide (a13 < (((List.length xs14) : Nat) : Int))) = true then
    if (0 : Int) ≤ a13 then
      if a13 < ((List.length xs14 : Nat) : Int) then
        (f86 k (List.getD xs14 (Int.toNat a13) (⟨(0 : Int), (0 : Int), [], (0 : Int), (0 : Int), (0 : Int)⟩ : S123)).f0 (1500 : Int) (3000 : Int)).bind fun t18 => if (!t18) = false then
            (f86 k (List.getD xs14 (Int.toNat a13) (⟨(0 : Int), (0 : Int), [], (0 : Int), (0 : Int), (0 : Int)⟩ : S123)).f1 (0 : Int) (100000 : Int)).bind fun t19 => if (!t19) = false then
                if (decide ((((List.length (List.getD xs14 (Int.toNat a13) (⟨(0 : Int), (0 : Int), [], (0 : Int), (0 : Int), (0 : Int)⟩ : S123)).f2) : Nat) : Int) > (40 : Int))) = false then
                  if (0 : Int) ≤ a13 then
                    if a13 < ((List.length xs17 : Nat) : Int) then
                      if (!((List.getD xs17 (Int.toNat a13) false) == (decide ((((List.length (List.getD xs14 (Int.toNat a13) (⟨(0 : Int), (0 : Int), [], (0 : Int), (0 : Int), (0 : Int)⟩ : S123)).f2) : Nat) : Int) > (0 : Int))))) = false then
                        (f86 k (List.getD xs14 (Int.toNat a13) (⟨(0 : Int), (0 : Int), [], (0 : Int), (0 : Int), (0 : Int)⟩ : S123)).f4 (0 : Int) (1000000000 : Int)).bind fun t20 => if (!t20) = false then
                            (f86 k (List.getD xs14 (Int.toNat a13) (⟨(0 : Int), (0 : Int), [], (0 : Int), (0 : Int), (0 : Int)⟩ : S123)).f5 (0 : Int) (1000000000 : Int)).bind fun t21 => if (!t21) = true then
                                ret (.inl false)
                              else
                                (f38.l17 k k a13 (0 : Int) xs14 xs15 b16 xs17 (List.getD xs14 (Int.toNat a13) (⟨(0 : Int), (0 : Int), [], (0 : Int), (0 : Int), (0 : Int)⟩ : S123)).f0 (List.getD xs14 (Int.toNat a13) (⟨(0 : Int), (0 : Int), [], (0 : Int), (0 : Int), (0 : Int)⟩ : S123)).f1 (List.getD xs14 (Int.toNat a13) (⟨(0 : Int), (0 : Int), [], (0 : Int), (0 : Int), (0 : Int)⟩ : S123)).f2 (List.getD xs14 (Int.toNat a13) (⟨(0 : Int), (0 : Int), [], (0 : Int), (0 : Int), (0 : Int)⟩ : S123)).f3 (List.getD xs14 (Int.toNat a13) (⟨(0 : Int), (0 : Int), [], (0 : Int), (0 : Int), (0 : Int)⟩ : S123)).f4 (List.getD xs14 (Int.toNat a13) (⟨(0 : Int), (0 : Int), [], (0 : Int), (0 : Int), (0 : Int)⟩ : S123)).f5).bind (Sum.elim (fun t35 => ret (.inl t35.1)) (fun t36 => (f98 k t36.2.2.2.2.2.1 t36.2.2.2.2.2.2.1 t36.2.2.2.2.2.2.2.1 t36.2.2.2.2.2.2.2.2.1 t36.2.2.2.2.2.2.2.2.2.1 t36.2.2.2.2.2.2.2.2.2.2).bind fun t37 => if (decide (t37 > t36.2.2.2.2.2.2.1)) = false then
                                      (f86 k t36.2.2.2.2.2.2.2.2.1 (0 : Int) (4500 : Int)).bind fun t38 => if (!t38) = false then
                                          if (decide ((((List.length t36.2.2.2.2.2.2.2.1) : Nat) : Int) = (0 : Int))) = true then
                                            if (decide (t36.2.2.2.2.2.2.2.2.1 ≠ (0 : Int))) = true then
                                              ret (.inl false)
                                            else
                                              if t36.2.2.2.1 = true then
                                                if (0 : Int) < ((List.length t36.2.2.1 : Nat) : Int) then
                                                  (f99 k (decide ((List.getD t36.2.2.1 0 (0 : Int)) = t36.1)) t36.2.2.2.2.2.1).bind fun t39 => if (decide (t36.2.2.2.2.2.2.2.2.1 > (IntKind.i64.wrap ((1499 : Int) + t39)))) = true then
                                                      ret (.inl false)
                                                    else
                                                      rec_ (IntKind.i64.wrap (t36.1 + (1 : Int))) t36.2.1 t36.2.2.1 t36.2.2.2.1 t36.2.2.2.2.1
                                                else none
                                              else
                                                (f99 k false t36.2.2.2.2.2.1).bind fun t40 => if (decide (t36.2.2.2.2.2.2.2.2.1 > (IntKind.i64.wrap ((1499 : Int) + t40)))) = true then
                                                    ret (.inl false)
                                                  else
                                                    rec_ (IntKind.i64.wrap (t36.1 + (1 : Int))) t36.2.1 t36.2.2.1 t36.2.2.2.1 t36.2.2.2.2.1
                                          else
                                            if t36.2.2.2.1 = true then
                                              if (0 : Int) < ((List.length t36.2.2.1 : Nat) : Int) then
                                                (f99 k (decide ((List.getD t36.2.2.1 0 (0 : Int)) = t36.1)) t36.2.2.2.2.2.1).bind fun t41 => if (decide (t36.2.2.2.2.2.2.2.2.1 > (IntKind.i64.wrap ((1499 : Int) + t41)))) = true then
                                                    ret (.inl false)
                                                  else
                                                    rec_ (IntKind.i64.wrap (t36.1 + (1 : Int))) t36.2.1 t36.2.2.1 t36.2.2.2.1 t36.2.2.2.2.1
                                              else none
                                            else
                                              (f99 k false t36.2.2.2.2.2.1).bind fun t42 => if (decide (t36.2.2.2.2.2.2.2.2.1 > (IntKind.i64.wrap ((1499 : Int) + t42)))) = true then
                                                  ret (.inl false)
                                                else
                                                  rec_ (IntKind.i64.wrap (t36.1 + (1 : Int))) t36.2.1 t36.2.2.1 t36.2.2.2.1 t36.2.2.2.2.1
                                        else
                                          ret (.inl false)
                                    else
                                      ret (.inl false)))
                          else
                            ret (.inl false)
                      else
                        ret (.inl false)
                    else none
                  else none
                else
                  ret (.inl false)
              else
                ret (.inl false)
          else
            ret (.inl false)
      else none
    else none
  else
    ret (.inr ())
def f38.l11 (k : Nat) : Nat → Int → (List S123) → (List Int) → Bool → (List Bool) → Option (Bool ⊕ (Unit))
  | 0, _, _, _, _, _ => none
  | j + 1, a13, xs14, xs15, b16, xs17 => f38.l11.step k (fun a13 xs14 xs15 b16 xs17 => f38.l11 k j a13 xs14 xs15 b16 xs17) some a13 xs14 xs15 b16 xs17
def f38.l11.w {R : Type} : (Bool ⊕ (Unit)) → (Exit → St env → Option R) → Option R := fun x K => Sum.elim (fun t53 => K .ret ⟨fullT [2] 0 178 [.v (.c (.s (.bool t53)))], [], 2993⟩) (fun t54 => K (.exit 2) ⟨fullT [] 0 178 [], [], 2993⟩) x
def f38.l11.st (a13 : Int) (xs14 : List S123) (xs15 : List Int) (b16 : Bool) (xs17 : List Bool) : St env := ⟨fullT [1, 3, 5] 0 178 [.v (.c (.bp 1 0)), .v (.c (.row 465)), .v (.c (.s (.int .i64 a13)))], [(1, .box [.imm 123 xs14, .imm 3 xs15, .s (.bool b16)]), (465, .row true 4 xs17)], 1137⟩
def f38.l11.hd (k : Nat) (ts_ : List (AV env)) (mm_ : Mem env) (n_ : Nat) : LCl env :=
  gTs LCl.no [1, 3, 5] 178 ts_ fun l_ => gV LCl.no l_ fun a_ l_ => rBp LCl.no 1 0 a_ <| gV LCl.no l_ fun a_ l_ => rRow LCl.no 465 a_ <| gV LCl.no l_ fun a_ l_ => rV LCl.no a_ fun v_ => vI LCl.no .i64 v_ fun a13 => gE LCl.no l_ <| mBox LCl.no 1 mm_ fun c_ m_ => gC LCl.no c_ fun a_ c_ => rImm LCl.no 123 a_ fun xs14 => gC LCl.no c_ fun a_ c_ => rImm LCl.no 3 a_ fun xs15 => gC LCl.no c_ fun a_ c_ => rV LCl.no a_ fun v_ => vB LCl.no v_ fun b16 => gE LCl.no c_ <| mRow LCl.no 465 true 4 m_ fun xs17 m_ => gE LCl.no m_ <| gN LCl.no 1137 n_ { α := Bool ⊕ (Unit), o := f38.l11 k k a13 xs14 xs15 b16 xs17, w := f38.l11.w }
def f38.step {R : Type} (k : Nat) (ret : Bool → Option R) (xs1 : List S123) (xs2 : List Int) (b3 : Bool) : Option R :=
  (f86 k (((List.length xs1) : Nat) : Int) (1 : Int) (5 : Int)).bind fun t4 => if (!t4) = false then
      if (decide ((((List.length xs2) : Nat) : Int) > (((List.length xs1) : Nat) : Int))) = false then
        if b3 = true then
          if (decide ((((List.length xs2) : Nat) : Int) = (0 : Int))) = true then
            ret false
          else
            if (0 : Int) ≤ (((List.length xs1) : Nat) : Int) then
              if (Int.toNat (((List.length xs1) : Nat) : Int)) * 1 ≤ maxN then
                (f38.l5 k k (0 : Int) xs1 xs2 b3 (List.replicate (Int.toNat (((List.length xs1) : Nat) : Int)) false)).bind (Sum.elim (fun t11 => ret t11.1) (fun t12 => (f38.l11 k k (0 : Int) t12.1 t12.2.1 t12.2.2.1 t12.2.2.2).bind (Sum.elim (fun t43 => ret t43) (fun t44 => ret true))))
              else none
            else none
        else
          if (0 : Int) ≤ (((List.length xs1) : Nat) : Int) then
            if (Int.toNat (((List.length xs1) : Nat) : Int)) * 1 ≤ maxN then
              (f38.l5 k k (0 : Int) xs1 xs2 b3 (List.replicate (Int.toNat (((List.length xs1) : Nat) : Int)) false)).bind (Sum.elim (fun t45 => ret t45.1) (fun t46 => (f38.l11 k k (0 : Int) t46.1 t46.2.1 t46.2.2.1 t46.2.2.2).bind (Sum.elim (fun t47 => ret t47) (fun t48 => ret true))))
            else none
          else none
      else
        ret false
    else
      ret false
def f38 (k : Nat) (xs1 : List S123) (xs2 : List Int) (b3 : Bool) : Option Bool := f38.step k some xs1 xs2 b3
def f38.w {R : Type} : Bool → (Res env → Option R) → Option R := fun t55 K => K ⟨.v (.c (.s (.bool t55))), [[]]⟩
theorem f38.wn (x : Bool) : ∃ res, ∀ {R : Type} (K : Res env → Option R), f38.w x K = K res := by
  exact ⟨_, fun _ => rfl⟩
def f38.hd (k : Nat) (ps_ : List (P2 env)) : Cl env :=
  gC Cl.no ps_ fun p_ ps_ => qG Cl.no p_ fun cs_ => gC Cl.no cs_ fun c_ cs_ => qSl Cl.no 123 c_ fun xs1 => gC Cl.no cs_ fun c_ cs_ => qSl Cl.no 3 c_ fun xs2 => gC Cl.no cs_ fun c_ cs_ => qS Cl.no c_ fun v_ => vB Cl.no v_ fun b3 => gE Cl.no cs_ <| gE Cl.no ps_ <| { α := Bool, o := f38 k xs1 xs2 b3, w := f38.w, nat := fun x _ => f38.wn x }
def f38.e (k : Nat) : Entry env := ⟨f38.hd k⟩
def f38.X (k : Nat) : Ctx env := { C := lookE [(86, f86.e k), (98, f98.e k), (99, f99.e k)], L := lookE [(5, fun S => f38.l5.hd k S.ts S.m S.n), (17, fun S => f38.l17.hd k S.ts S.m S.n), (11, fun S => f38.l11.hd k S.ts S.m S.n)], J := lookE [], keep := lookD [(5, [1, 3, 4]), (17, [1, 3, 5, 6, 7]), (11, [1, 3, 5])], keepX := lookD [(5, [1, 2, 3]), (17, [1, 2, 3, 5, 6]), (11, [2])], span := lookN [(5, 608), (17, 272), (11, 1856)], eff := fun n => memN n [] }
theorem f38.l5.nat {R : Type} (k : Nat) (rec_ : Int → (List S123) → (List Int) → Bool → (List Bool) → Option ((Bool × (List S123) × (List Int) × Bool × (List Bool)) ⊕ ((List S123) × (List Int) × Bool × (List Bool)))) (g : ((Bool × (List S123) × (List Int) × Bool × (List Bool)) ⊕ ((List S123) × (List Int) × Bool × (List Bool))) → Option R) (a5 : Int) (xs6 : List S123) (xs7 : List Int) (b8 : Bool) (xs9 : List Bool) : (f38.l5.step k rec_ some a5 xs6 xs7 b8 xs9).bind g = f38.l5.step k (fun a5 xs6 xs7 b8 xs9 => (rec_ a5 xs6 xs7 b8 xs9).bind g) g a5 xs6 xs7 b8 xs9 := by
  simp only [f38.l5.step, bind_ite, bind_sum, Option.bind_assoc, Option.bind_some, Option.bind_none]
theorem f38.l5.good (k : Nat) (a5 : Int) (xs6 : List S123) (xs7 : List Int) (b8 : Bool) (xs9 : List Bool) : GoodL (f38.X k) (nthC 0 (loopsOf (bodyOf Try.f38))) (f38.l5.st a5 xs6 xs7 b8 xs9) { α := ((Bool × (List S123) × (List Int) × Bool × (List Bool)) ⊕ ((List S123) × (List Int) × Bool × (List Bool))), o := f38.l5 k k a5 xs6 xs7 b8 xs9, w := f38.l5.w } :=
  loop_good (ι := Int × (List S123) × (List Int) × Bool × (List Bool)) (α := ((Bool × (List S123) × (List Int) × Bool × (List Bool)) ⊕ ((List S123) × (List Int) × Bool × (List Bool)))) (fun i => f38.l5.st i.1 i.2.1 i.2.2.1 i.2.2.2.1 i.2.2.2.2) (fun j i => f38.l5 k j i.1 i.2.1 i.2.2.1 i.2.2.2.1 i.2.2.2.2) f38.l5.w (fun rec_ ret i => f38.l5.step k (fun a5 xs6 xs7 b8 xs9 => rec_ (a5, xs6, xs7, b8, xs9)) ret i.1 i.2.1 i.2.2.1 i.2.2.2.1 i.2.2.2.2)
    (fun _ => rfl) (fun _ _ => rfl) (fun rec_ g i => f38.l5.nat k _ g i.1 i.2.1 i.2.2.1 i.2.2.2.1 i.2.2.2.2) (fun {R} i0 i rec_ K => by kernel_rfl) k (a5, xs6, xs7, b8, xs9)
theorem f38.l5.all (k : Nat) (S : St env) : GoodL (f38.X k) (nthC 0 (loopsOf (bodyOf Try.f38))) S (f38.l5.hd k S.ts S.m S.n) := by
  obtain ⟨ts_, m_, n_⟩ := S
  show GoodL _ _ _ (f38.l5.hd k ts_ m_ n_)
  unfold f38.l5.hd
  refine gTs_ok (p := GoodL _ _ _) goodL_no fun _ h => ?_
  subst h
  refine gV_ok (p := GoodL _ _ _) goodL_no fun _ _ h => ?_
  subst h
  refine rBp_ok (p := GoodL _ _ _) goodL_no fun h => ?_
  subst h
  refine gV_ok (p := GoodL _ _ _) goodL_no fun _ _ h => ?_
  subst h
  refine rRow_ok (p := GoodL _ _ _) goodL_no fun h => ?_
  subst h
  refine gV_ok (p := GoodL _ _ _) goodL_no fun _ _ h => ?_
  subst h
  refine rV_ok (p := GoodL _ _ _) goodL_no fun _ h => ?_
  subst h
  refine vI_ok (p := GoodL _ _ _) goodL_no fun _ h => ?_
  subst h
  refine gE_ok (p := GoodL _ _ _) goodL_no fun h => ?_
  subst h
  refine mBox_ok (p := GoodL _ _ _) goodL_no fun _ _ h => ?_
  subst h
  refine gC_ok (p := GoodL _ _ _) goodL_no fun _ _ h => ?_
  subst h
  refine rImm_ok (p := GoodL _ _ _) goodL_no fun _ h => ?_
  subst h
  refine gC_ok (p := GoodL _ _ _) goodL_no fun _ _ h => ?_
  subst h
  refine rImm_ok (p := GoodL _ _ _) goodL_no fun _ h => ?_
  subst h
  refine gC_ok (p := GoodL _ _ _) goodL_no fun _ _ h => ?_
  subst h
  refine rV_ok (p := GoodL _ _ _) goodL_no fun _ h => ?_
  subst h
  refine vB_ok (p := GoodL _ _ _) goodL_no fun _ h => ?_
  subst h
  refine gE_ok (p := GoodL _ _ _) goodL_no fun h => ?_
  subst h
  refine mRow_ok (p := GoodL _ _ _) goodL_no fun _ _ h => ?_
  subst h
  refine gE_ok (p := GoodL _ _ _) goodL_no fun h => ?_
  subst h
  refine gN_ok (p := GoodL _ _ _) goodL_no fun h => ?_
  subst h
  exact f38.l5.good k _ _ _ _ _
theorem f38.l17.nat {R : Type} (k : Nat) (rec_ : Int → Int → (List S123) → (List Int) → Bool → (List Bool) → Int → Int → (List S131) → Int → Int → Int → Option ((Bool × Int × (List S123) × (List Int) × Bool × (List Bool) × Int × Int × (List S131) × Int × Int × Int) ⊕ (Int × (List S123) × (List Int) × Bool × (List Bool) × Int × Int × (List S131) × Int × Int × Int))) (g : ((Bool × Int × (List S123) × (List Int) × Bool × (List Bool) × Int × Int × (List S131) × Int × Int × Int) ⊕ (Int × (List S123) × (List Int) × Bool × (List Bool) × Int × Int × (List S131) × Int × Int × Int)) → Option R) (a22 : Int) (a23 : Int) (xs24 : List S123) (xs25 : List Int) (b26 : Bool) (xs27 : List Bool) (a28 : Int) (a29 : Int) (xs30 : List S131) (a31 : Int) (a32 : Int) (a33 : Int) : (f38.l17.step k rec_ some a22 a23 xs24 xs25 b26 xs27 a28 a29 xs30 a31 a32 a33).bind g = f38.l17.step k (fun a22 a23 xs24 xs25 b26 xs27 a28 a29 xs30 a31 a32 a33 => (rec_ a22 a23 xs24 xs25 b26 xs27 a28 a29 xs30 a31 a32 a33).bind g) g a22 a23 xs24 xs25 b26 xs27 a28 a29 xs30 a31 a32 a33 := by
  simp only [f38.l17.step, bind_ite, bind_sum, Option.bind_assoc, Option.bind_some, Option.bind_none]
theorem f38.l17.good (k : Nat) (a22 : Int) (a23 : Int) (xs24 : List S123) (xs25 : List Int) (b26 : Bool) (xs27 : List Bool) (a28 : Int) (a29 : Int) (xs30 : List S131) (a31 : Int) (a32 : Int) (a33 : Int) : GoodL (f38.X k) (nthC 2 (loopsOf (bodyOf Try.f38))) (f38.l17.st a22 a23 xs24 xs25 b26 xs27 a28 a29 xs30 a31 a32 a33) { α := ((Bool × Int × (List S123) × (List Int) × Bool × (List Bool) × Int × Int × (List S131) × Int × Int × Int) ⊕ (Int × (List S123) × (List Int) × Bool × (List Bool) × Int × Int × (List S131) × Int × Int × Int)), o := f38.l17 k k a22 a23 xs24 xs25 b26 xs27 a28 a29 xs30 a31 a32 a33, w := f38.l17.w } :=
  loop_good (ι := Int × Int × (List S123) × (List Int) × Bool × (List Bool) × Int × Int × (List S131) × Int × Int × Int) (α := ((Bool × Int × (List S123) × (List Int) × Bool × (List Bool) × Int × Int × (List S131) × Int × Int × Int) ⊕ (Int × (List S123) × (List Int) × Bool × (List Bool) × Int × Int × (List S131) × Int × Int × Int))) (fun i => f38.l17.st i.1 i.2.1 i.2.2.1 i.2.2.2.1 i.2.2.2.2.1 i.2.2.2.2.2.1 i.2.2.2.2.2.2.1 i.2.2.2.2.2.2.2.1 i.2.2.2.2.2.2.2.2.1 i.2.2.2.2.2.2.2.2.2.1 i.2.2.2.2.2.2.2.2.2.2.1 i.2.2.2.2.2.2.2.2.2.2.2) (fun j i => f38.l17 k j i.1 i.2.1 i.2.2.1 i.2.2.2.1 i.2.2.2.2.1 i.2.2.2.2.2.1 i.2.2.2.2.2.2.1 i.2.2.2.2.2.2.2.1 i.2.2.2.2.2.2.2.2.1 i.2.2.2.2.2.2.2.2.2.1 i.2.2.2.2.2.2.2.2.2.2.1 i.2.2.2.2.2.2.2.2.2.2.2) f38.l17.w (fun rec_ ret i => f38.l17.step k (fun a22 a23 xs24 xs25 b26 xs27 a28 a29 xs30 a31 a32 a33 => rec_ (a22, a23, xs24, xs25, b26, xs27, a28, a29, xs30, a31, a32, a33)) ret i.1 i.2.1 i.2.2.1 i.2.2.2.1 i.2.2.2.2.1 i.2.2.2.2.2.1 i.2.2.2.2.2.2.1 i.2.2.2.2.2.2.2.1 i.2.2.2.2.2.2.2.2.1 i.2.2.2.2.2.2.2.2.2.1 i.2.2.2.2.2.2.2.2.2.2.1 i.2.2.2.2.2.2.2.2.2.2.2)
    (fun _ => rfl) (fun _ _ => rfl) (fun rec_ g i => f38.l17.nat k _ g i.1 i.2.1 i.2.2.1 i.2.2.2.1 i.2.2.2.2.1 i.2.2.2.2.2.1 i.2.2.2.2.2.2.1 i.2.2.2.2.2.2.2.1 i.2.2.2.2.2.2.2.2.1 i.2.2.2.2.2.2.2.2.2.1 i.2.2.2.2.2.2.2.2.2.2.1 i.2.2.2.2.2.2.2.2.2.2.2) (fun {R} i0 i rec_ K => by kernel_rfl) k (a22, a23, xs24, xs25, b26, xs27, a28, a29, xs30, a31, a32, a33)
theorem f38.l17.all (k : Nat) (S : St env) : GoodL (f38.X k) (nthC 2 (loopsOf (bodyOf Try.f38))) S (f38.l17.hd k S.ts S.m S.n) := by
  obtain ⟨ts_, m_, n_⟩ := S
  show GoodL _ _ _ (f38.l17.hd k ts_ m_ n_)
  unfold f38.l17.hd
  refine gTs_ok (p := GoodL _ _ _) goodL_no fun _ h => ?_
  subst h
  refine gV_ok (p := GoodL _ _ _) goodL_no fun _ _ h => ?_
  subst h
  refine rBp_ok (p := GoodL _ _ _) goodL_no fun h => ?_
  subst h
  refine gV_ok (p := GoodL _ _ _) goodL_no fun _ _ h => ?_
  subst h
  refine rRow_ok (p := GoodL _ _ _) goodL_no fun h => ?_
  subst h
  refine gV_ok (p := GoodL _ _ _) goodL_no fun _ _ h => ?_
  subst h
  refine rV_ok (p := GoodL _ _ _) goodL_no fun _ h => ?_
  subst h
  refine vI_ok (p := GoodL _ _ _) goodL_no fun _ h => ?_
  subst h
  refine gV_ok (p := GoodL _ _ _) goodL_no fun _ _ h => ?_
  subst h
  refine rBp_ok (p := GoodL _ _ _) goodL_no fun h => ?_
  subst h
  refine gV_ok (p := GoodL _ _ _) goodL_no fun _ _ h => ?_
  subst h
  refine rV_ok (p := GoodL _ _ _) goodL_no fun _ h => ?_
  subst h
  refine vI_ok (p := GoodL _ _ _) goodL_no fun _ h => ?_
  subst h
  refine gE_ok (p := GoodL _ _ _) goodL_no fun h => ?_
  subst h
  refine mBox_ok (p := GoodL _ _ _) goodL_no fun _ _ h => ?_
  subst h
  refine gC_ok (p := GoodL _ _ _) goodL_no fun _ _ h => ?_
  subst h
  refine rImm_ok (p := GoodL _ _ _) goodL_no fun _ h => ?_
  subst h
  refine gC_ok (p := GoodL _ _ _) goodL_no fun _ _ h => ?_
  subst h
  refine rImm_ok (p := GoodL _ _ _) goodL_no fun _ h => ?_
  subst h
  refine gC_ok (p := GoodL _ _ _) goodL_no fun _ _ h => ?_
  subst h
  refine rV_ok (p := GoodL _ _ _) goodL_no fun _ h => ?_
  subst h
  refine vB_ok (p := GoodL _ _ _) goodL_no fun _ h => ?_
  subst h
  refine gE_ok (p := GoodL _ _ _) goodL_no fun h => ?_
  subst h
  refine mRow_ok (p := GoodL _ _ _) goodL_no fun _ _ h => ?_
  subst h
  refine mBox_ok (p := GoodL _ _ _) goodL_no fun _ _ h => ?_
  subst h
  refine gC_ok (p := GoodL _ _ _) goodL_no fun _ _ h => ?_
  subst h
  refine rV_ok (p := GoodL _ _ _) goodL_no fun _ h => ?_
  subst h
  refine vI_ok (p := GoodL _ _ _) goodL_no fun _ h => ?_
  subst h
  refine gC_ok (p := GoodL _ _ _) goodL_no fun _ _ h => ?_
  subst h
  refine rV_ok (p := GoodL _ _ _) goodL_no fun _ h => ?_
  subst h
  refine vI_ok (p := GoodL _ _ _) goodL_no fun _ h => ?_
  subst h
  refine gC_ok (p := GoodL _ _ _) goodL_no fun _ _ h => ?_
  subst h
  refine rImm_ok (p := GoodL _ _ _) goodL_no fun _ h => ?_
  subst h
  refine gC_ok (p := GoodL _ _ _) goodL_no fun _ _ h => ?_
  subst h
  refine rV_ok (p := GoodL _ _ _) goodL_no fun _ h => ?_
  subst h
  refine vI_ok (p := GoodL _ _ _) goodL_no fun _ h => ?_
  subst h
  refine gC_ok (p := GoodL _ _ _) goodL_no fun _ _ h => ?_
  subst h
  refine rV_ok (p := GoodL _ _ _) goodL_no fun _ h => ?_
  subst h
  refine vI_ok (p := GoodL _ _ _) goodL_no fun _ h => ?_
  subst h
  refine gC_ok (p := GoodL _ _ _) goodL_no fun _ _ h => ?_
  subst h
  refine rV_ok (p := GoodL _ _ _) goodL_no fun _ h => ?_
  subst h
  refine vI_ok (p := GoodL _ _ _) goodL_no fun _ h => ?_
  subst h
  refine gE_ok (p := GoodL _ _ _) goodL_no fun h => ?_
  subst h
  refine gE_ok (p := GoodL _ _ _) goodL_no fun h => ?_
  subst h
  refine gN_ok (p := GoodL _ _ _) goodL_no fun h => ?_
  subst h
  exact f38.l17.good k _ _ _ _ _ _ _ _ _ _ _ _
theorem f38.l11.nat {R : Type} (k : Nat) (rec_ : Int → (List S123) → (List Int) → Bool → (List Bool) → Option (Bool ⊕ (Unit))) (g : (Bool ⊕ (Unit)) → Option R) (a13 : Int) (xs14 : List S123) (xs15 : List Int) (b16 : Bool) (xs17 : List Bool) : (f38.l11.step k rec_ some a13 xs14 xs15 b16 xs17).bind g = f38.l11.step k (fun a13 xs14 xs15 b16 xs17 => (rec_ a13 xs14 xs15 b16 xs17).bind g) g a13 xs14 xs15 b16 xs17 := by
  simp only [f38.l11.step, bind_ite, bind_sum, Option.bind_assoc, Option.bind_some, Option.bind_none]
theorem f38.l11.good (k : Nat) (a13 : Int) (xs14 : List S123) (xs15 : List Int) (b16 : Bool) (xs17 : List Bool) : GoodL (f38.X k) (nthC 1 (loopsOf (bodyOf Try.f38))) (f38.l11.st a13 xs14 xs15 b16 xs17) { α := (Bool ⊕ (Unit)), o := f38.l11 k k a13 xs14 xs15 b16 xs17, w := f38.l11.w } :=
  loop_good (ι := Int × (List S123) × (List Int) × Bool × (List Bool)) (α := (Bool ⊕ (Unit))) (fun i => f38.l11.st i.1 i.2.1 i.2.2.1 i.2.2.2.1 i.2.2.2.2) (fun j i => f38.l11 k j i.1 i.2.1 i.2.2.1 i.2.2.2.1 i.2.2.2.2) f38.l11.w (fun rec_ ret i => f38.l11.step k (fun a13 xs14 xs15 b16 xs17 => rec_ (a13, xs14, xs15, b16, xs17)) ret i.1 i.2.1 i.2.2.1 i.2.2.2.1 i.2.2.2.2)
    (fun _ => rfl) (fun _ _ => rfl) (fun rec_ g i => f38.l11.nat k _ g i.1 i.2.1 i.2.2.1 i.2.2.2.1 i.2.2.2.2) (fun {R} i0 i rec_ K => by kernel_rfl) k (a13, xs14, xs15, b16, xs17)
theorem f38.l11.all (k : Nat) (S : St env) : GoodL (f38.X k) (nthC 1 (loopsOf (bodyOf Try.f38))) S (f38.l11.hd k S.ts S.m S.n) := by
  obtain ⟨ts_, m_, n_⟩ := S
  show GoodL _ _ _ (f38.l11.hd k ts_ m_ n_)
  unfold f38.l11.hd
  refine gTs_ok (p := GoodL _ _ _) goodL_no fun _ h => ?_
  subst h
  refine gV_ok (p := GoodL _ _ _) goodL_no fun _ _ h => ?_
  subst h
  refine rBp_ok (p := GoodL _ _ _) goodL_no fun h => ?_
  subst h
  refine gV_ok (p := GoodL _ _ _) goodL_no fun _ _ h => ?_
  subst h
  refine rRow_ok (p := GoodL _ _ _) goodL_no fun h => ?_
  subst h
  refine gV_ok (p := GoodL _ _ _) goodL_no fun _ _ h => ?_
  subst h
  refine rV_ok (p := GoodL _ _ _) goodL_no fun _ h => ?_
  subst h
  refine vI_ok (p := GoodL _ _ _) goodL_no fun _ h => ?_
  subst h
  refine gE_ok (p := GoodL _ _ _) goodL_no fun h => ?_
  subst h
  refine mBox_ok (p := GoodL _ _ _) goodL_no fun _ _ h => ?_
  subst h
  refine gC_ok (p := GoodL _ _ _) goodL_no fun _ _ h => ?_
  subst h
  refine rImm_ok (p := GoodL _ _ _) goodL_no fun _ h => ?_
  subst h
  refine gC_ok (p := GoodL _ _ _) goodL_no fun _ _ h => ?_
  subst h
  refine rImm_ok (p := GoodL _ _ _) goodL_no fun _ h => ?_
  subst h
  refine gC_ok (p := GoodL _ _ _) goodL_no fun _ _ h => ?_
  subst h
  refine rV_ok (p := GoodL _ _ _) goodL_no fun _ h => ?_
  subst h
  refine vB_ok (p := GoodL _ _ _) goodL_no fun _ h => ?_
  subst h
  refine gE_ok (p := GoodL _ _ _) goodL_no fun h => ?_
  subst h
  refine mRow_ok (p := GoodL _ _ _) goodL_no fun _ _ h => ?_
  subst h
  refine gE_ok (p := GoodL _ _ _) goodL_no fun h => ?_
  subst h
  refine gN_ok (p := GoodL _ _ _) goodL_no fun h => ?_
  subst h
  exact f38.l11.good k _ _ _ _ _
theorem f38.nat {R : Type} (k : Nat) (g : Bool → Option R) (xs1 : List S123) (xs2 : List Int) (b3 : Bool) : f38.step k g xs1 xs2 b3 = (f38 k xs1 xs2 b3).bind g := by
  simp only [f38, f38.step, bind_ite, bind_sum, Option.bind_assoc, Option.bind_some, Option.bind_none]
theorem f38.ev (k : Nat) (xs1 : List S123) (xs2 : List Int) (b3 : Bool) : evF (f38.X k) (bodyOf Try.f38) Try.f38.ntmps Try.f38.results.toList [.g [.sl 123 xs1, .sl 3 xs2, .s (.bool b3)]] = f38.step k (fun x => f38.w x some) xs1 xs2 b3 := by kernel_rfl
theorem f38.hok (k : Nat) : HOK (f38.X k) (bodyOf Try.f38) where
  l := allP_mem (by exact ⟨ls_of (h0 := fun S => f38.l5.hd k S.ts S.m S.n) (by kernel_rfl) (f38.l5.all k), ls_of (h0 := fun S => f38.l11.hd k S.ts S.m S.n) (by kernel_rfl) (f38.l11.all k), ls_of (h0 := fun S => f38.l17.hd k S.ts S.m S.n) (by kernel_rfl) (f38.l17.all k), trivial⟩)
  j := allP_mem (by exact trivial)
theorem f38.sound (k : Nat) : SoundC env Try.prog 38 (f38.e k).F := by
  intro ps_
  show GoodC _ _ _ ps_ (f38.hd k ps_)
  unfold f38.hd
  refine gC_ok (p := GoodC env Try.prog 38 _) goodC_no fun _ _ h => ?_
  subst h
  refine qG_ok (p := GoodC env Try.prog 38 _) goodC_no fun _ h => ?_
  subst h
  refine gC_ok (p := GoodC env Try.prog 38 _) goodC_no fun _ _ h => ?_
  subst h
  refine qSl_ok (p := GoodC env Try.prog 38 _) goodC_no fun _ h => ?_
  subst h
  refine gC_ok (p := GoodC env Try.prog 38 _) goodC_no fun _ _ h => ?_
  subst h
  refine qSl_ok (p := GoodC env Try.prog 38 _) goodC_no fun _ h => ?_
  subst h
  refine gC_ok (p := GoodC env Try.prog 38 _) goodC_no fun _ _ h => ?_
  subst h
  refine qS_ok (p := GoodC env Try.prog 38 _) goodC_no fun _ h => ?_
  subst h
  refine vB_ok (p := GoodC env Try.prog 38 _) goodC_no fun _ h => ?_
  subst h
  refine gE_ok (p := GoodC env Try.prog 38 _) goodC_no fun h => ?_
  subst h
  refine gE_ok (p := GoodC env Try.prog 38 _) goodC_no fun h => ?_
  subst h
  exact fun_good (fun_sound envOK (cs_sound _ (by exact ⟨⟨f86.sound k, f86.fnok⟩, ⟨f98.sound k, f98.fnok⟩, ⟨f99.sound k, f99.fnok⟩, trivial⟩)) (f38.hok k) Try.func38 rfl) ((f38.ev k _ _ _).trans (f38.nat k _ _ _ _))
theorem f38.says (k : Nat) (xs1 : List S123) (xs2 : List Int) (b3 : Bool) (t56 : Bool) (h_ : f38 k xs1 xs2 b3 = some t56) : SoundAt env Try.prog 38 [.g [.sl 123 xs1, .sl 3 xs2, .s (.bool b3)]] ⟨.v (.c (.s (.bool t56))), [[]]⟩ :=
  fun_sound envOK (cs_sound _ (by exact ⟨⟨f86.sound k, f86.fnok⟩, ⟨f98.sound k, f98.fnok⟩, ⟨f99.sound k, f99.fnok⟩, trivial⟩)) (f38.hok k) Try.func38 rfl _ _ (((f38.ev k xs1 xs2 b3).trans (f38.nat k _ xs1 xs2 b3)).trans (by rw [h_]; rfl))
theorem f38.fnok : FnOK Try.prog 38 := fn_ok Try.func38 (by kernel_rfl) rfl
def f83.step {R : Type} (k : Nat) (ret : Bool → Option R) (a1 : Int) (a2 : Int) (a3 : Int) : Option R :=
  if (decide (a1 ≥ a2)) = true then
    ret (decide (a1 ≤ a3))
  else
    ret false
def f83 (k : Nat) (a1 : Int) (a2 : Int) (a3 : Int) : Option Bool := f83.step k some a1 a2 a3
def f83.w {R : Type} : Bool → (Res env → Option R) → Option R := fun t4 K => K ⟨.v (.c (.s (.bool t4))), [[], [], []]⟩
theorem f83.wn (x : Bool) : ∃ res, ∀ {R : Type} (K : Res env → Option R), f83.w x K = K res := by
  exact ⟨_, fun _ => rfl⟩
def f83.hd (k : Nat) (ps_ : List (P2 env)) : Cl env :=
  gC Cl.no ps_ fun p_ ps_ => qC Cl.no p_ fun c_ => qS Cl.no c_ fun v_ => vI Cl.no .i64 v_ fun a1 => gC Cl.no ps_ fun p_ ps_ => qC Cl.no p_ fun c_ => qS Cl.no c_ fun v_ => vI Cl.no .i64 v_ fun a2 => gC Cl.no ps_ fun p_ ps_ => qC Cl.no p_ fun c_ => qS Cl.no c_ fun v_ => vI Cl.no .i64 v_ fun a3 => gE Cl.no ps_ <| { α := Bool, o := f83 k a1 a2 a3, w := f83.w, nat := fun x _ => f83.wn x }
def f83.e (k : Nat) : Entry env := ⟨f83.hd k⟩
def f83.X (k : Nat) : Ctx env := { C := lookE [], L := lookE [], J := lookE [], keep := lookD [], keepX := lookD [], span := lookN [], eff := fun n => memN n [] }
theorem f83.nat {R : Type} (k : Nat) (g : Bool → Option R) (a1 : Int) (a2 : Int) (a3 : Int) : f83.step k g a1 a2 a3 = (f83 k a1 a2 a3).bind g := by
  simp only [f83, f83.step, bind_ite, bind_sum, Option.bind_assoc, Option.bind_some, Option.bind_none]
theorem f83.ev (k : Nat) (a1 : Int) (a2 : Int) (a3 : Int) : evF (f83.X k) (bodyOf Try.f83) Try.f83.ntmps Try.f83.results.toList [.v (.c (.s (.int .i64 a1))), .v (.c (.s (.int .i64 a2))), .v (.c (.s (.int .i64 a3)))] = f83.step k (fun x => f83.w x some) a1 a2 a3 := by kernel_rfl
theorem f83.hok (k : Nat) : HOK (f83.X k) (bodyOf Try.f83) where
  l := allP_mem (by exact trivial)
  j := allP_mem (by exact trivial)
theorem f83.sound (k : Nat) : SoundC env Try.prog 83 (f83.e k).F := by
  intro ps_
  show GoodC _ _ _ ps_ (f83.hd k ps_)
  unfold f83.hd
  refine gC_ok (p := GoodC env Try.prog 83 _) goodC_no fun _ _ h => ?_
  subst h
  refine qC_ok (p := GoodC env Try.prog 83 _) goodC_no fun _ h => ?_
  subst h
  refine qS_ok (p := GoodC env Try.prog 83 _) goodC_no fun _ h => ?_
  subst h
  refine vI_ok (p := GoodC env Try.prog 83 _) goodC_no fun _ h => ?_
  subst h
  refine gC_ok (p := GoodC env Try.prog 83 _) goodC_no fun _ _ h => ?_
  subst h
  refine qC_ok (p := GoodC env Try.prog 83 _) goodC_no fun _ h => ?_
  subst h
  refine qS_ok (p := GoodC env Try.prog 83 _) goodC_no fun _ h => ?_
  subst h
  refine vI_ok (p := GoodC env Try.prog 83 _) goodC_no fun _ h => ?_
  subst h
  refine gC_ok (p := GoodC env Try.prog 83 _) goodC_no fun _ _ h => ?_
  subst h
  refine qC_ok (p := GoodC env Try.prog 83 _) goodC_no fun _ h => ?_
  subst h
  refine qS_ok (p := GoodC env Try.prog 83 _) goodC_no fun _ h => ?_
  subst h
  refine vI_ok (p := GoodC env Try.prog 83 _) goodC_no fun _ h => ?_
  subst h
  refine gE_ok (p := GoodC env Try.prog 83 _) goodC_no fun h => ?_
  subst h
  exact fun_good (fun_sound envOK (cs_sound _ (by exact trivial)) (f83.hok k) Try.func83 rfl) ((f83.ev k _ _ _).trans (f83.nat k _ _ _ _))
theorem f83.says (k : Nat) (a1 : Int) (a2 : Int) (a3 : Int) (t5 : Bool) (h_ : f83 k a1 a2 a3 = some t5) : SoundAt env Try.prog 83 [.v (.c (.s (.int .i64 a1))), .v (.c (.s (.int .i64 a2))), .v (.c (.s (.int .i64 a3)))] ⟨.v (.c (.s (.bool t5))), [[], [], []]⟩ :=
  fun_sound envOK (cs_sound _ (by exact trivial)) (f83.hok k) Try.func83 rfl _ _ (((f83.ev k a1 a2 a3).trans (f83.nat k _ a1 a2 a3)).trans (by rw [h_]; rfl))
theorem f83.fnok : FnOK Try.prog 83 := fn_ok Try.func83 (by kernel_rfl) rfl
def f155.l3.step {R : Type} (k : Nat) (rec_ : Int → (List S131) → Int → Int → Option R) (ret : Int → Option R) (a2 : Int) (xs3 : List S131) (a4 : Int) (a5 : Int) : Option R :=
  if (decide (a5 < a4)) = true then
    if (0 : Int) ≤ a5 then
      if a5 < ((List.length xs3 : Nat) : Int) then
        rec_ (IntKind.i64.wrap (a2 + (List.getD xs3 (Int.toNat a5) (⟨(0 : Int), (0 : Int)⟩ : S131)).f1)) xs3 a4 (IntKind.i64.wrap (a5 + (1 : Int)))
      else none
    else none
  else
    ret a2
def f155.l3 (k : Nat) : Nat → Int → (List S131) → Int → Int → Option Int
  | 0, _, _, _, _ => none
  | j + 1, a2, xs3, a4, a5 => f155.l3.step k (fun a2 xs3 a4 a5 => f155.l3 k j a2 xs3 a4 a5) some a2 xs3 a4 a5
def f155.l3.w {R : Type} : Int → (Exit → St env → Option R) → Option R := fun t7 K => K (.exit 0) ⟨fullT [3] 0 18 [.v (.c (.s (.int .i64 t7)))], [], 273⟩
def f155.l3.st (a2 : Int) (xs3 : List S131) (a4 : Int) (a5 : Int) : St env := ⟨fullT [3, 6, 7, 8] 0 18 [.v (.c (.s (.int .i64 a2))), .v (.c (.imm 131 xs3)), .v (.c (.s (.int .i64 a4))), .v (.c (.s (.int .i64 a5)))], [], 81⟩
def f155.l3.hd (k : Nat) (ts_ : List (AV env)) (mm_ : Mem env) (n_ : Nat) : LCl env :=
  gTs LCl.no [3, 6, 7, 8] 18 ts_ fun l_ => gV LCl.no l_ fun a_ l_ => rV LCl.no a_ fun v_ => vI LCl.no .i64 v_ fun a2 => gV LCl.no l_ fun a_ l_ => rImm LCl.no 131 a_ fun xs3 => gV LCl.no l_ fun a_ l_ => rV LCl.no a_ fun v_ => vI LCl.no .i64 v_ fun a4 => gV LCl.no l_ fun a_ l_ => rV LCl.no a_ fun v_ => vI LCl.no .i64 v_ fun a5 => gE LCl.no l_ <| gE LCl.no mm_ <| gN LCl.no 81 n_ { α := Int, o := f155.l3 k k a2 xs3 a4 a5, w := f155.l3.w }
def f155.step {R : Type} (k : Nat) (ret : Int → Option R) (xs1 : List S131) : Option R :=
  (f155.l3 k k (0 : Int) xs1 (((List.length xs1) : Nat) : Int) (0 : Int)).bind fun t6 => ret t6
def f155 (k : Nat) (xs1 : List S131) : Option Int := f155.step k some xs1
def f155.w {R : Type} : Int → (Res env → Option R) → Option R := fun t8 K => K ⟨.v (.c (.s (.int .i64 t8))), [[]]⟩
theorem f155.wn (x : Int) : ∃ res, ∀ {R : Type} (K : Res env → Option R), f155.w x K = K res := by
  exact ⟨_, fun _ => rfl⟩
def f155.hd (k : Nat) (ps_ : List (P2 env)) : Cl env :=
  gC Cl.no ps_ fun p_ ps_ => qC Cl.no p_ fun c_ => qSl Cl.no 131 c_ fun xs1 => gE Cl.no ps_ <| { α := Int, o := f155 k xs1, w := f155.w, nat := fun x _ => f155.wn x }
def f155.e (k : Nat) : Entry env := ⟨f155.hd k⟩
def f155.X (k : Nat) : Ctx env := { C := lookE [], L := lookE [(3, fun S => f155.l3.hd k S.ts S.m S.n)], J := lookE [], keep := lookD [(3, [3, 6, 7, 8])], keepX := lookD [(3, [3])], span := lookN [(3, 192)], eff := fun n => memN n [] }
theorem f155.l3.nat {R : Type} (k : Nat) (rec_ : Int → (List S131) → Int → Int → Option Int) (g : Int → Option R) (a2 : Int) (xs3 : List S131) (a4 : Int) (a5 : Int) : (f155.l3.step k rec_ some a2 xs3 a4 a5).bind g = f155.l3.step k (fun a2 xs3 a4 a5 => (rec_ a2 xs3 a4 a5).bind g) g a2 xs3 a4 a5 := by
  simp only [f155.l3.step, bind_ite, bind_sum, Option.bind_assoc, Option.bind_some, Option.bind_none]
theorem f155.l3.good (k : Nat) (a2 : Int) (xs3 : List S131) (a4 : Int) (a5 : Int) : GoodL (f155.X k) (nthC 0 (loopsOf (bodyOf Try.f155))) (f155.l3.st a2 xs3 a4 a5) { α := Int, o := f155.l3 k k a2 xs3 a4 a5, w := f155.l3.w } :=
  loop_good (ι := Int × (List S131) × Int × Int) (α := Int) (fun i => f155.l3.st i.1 i.2.1 i.2.2.1 i.2.2.2) (fun j i => f155.l3 k j i.1 i.2.1 i.2.2.1 i.2.2.2) f155.l3.w (fun rec_ ret i => f155.l3.step k (fun a2 xs3 a4 a5 => rec_ (a2, xs3, a4, a5)) ret i.1 i.2.1 i.2.2.1 i.2.2.2)
    (fun _ => rfl) (fun _ _ => rfl) (fun rec_ g i => f155.l3.nat k _ g i.1 i.2.1 i.2.2.1 i.2.2.2) (fun {R} i0 i rec_ K => by kernel_rfl) k (a2, xs3, a4, a5)
theorem f155.l3.all (k : Nat) (S : St env) : GoodL (f155.X k) (nthC 0 (loopsOf (bodyOf Try.f155))) S (f155.l3.hd k S.ts S.m S.n) := by
  obtain ⟨ts_, m_, n_⟩ := S
  show GoodL _ _ _ (f155.l3.hd k ts_ m_ n_)
  unfold f155.l3.hd
  refine gTs_ok (p := GoodL _ _ _) goodL_no fun _ h => ?_
  subst h
  refine gV_ok (p := GoodL _ _ _) goodL_no fun _ _ h => ?_
  subst h
  refine rV_ok (p := GoodL _ _ _) goodL_no fun _ h => ?_
  subst h
  refine vI_ok (p := GoodL _ _ _) goodL_no fun _ h => ?_
  subst h
  refine gV_ok (p := GoodL _ _ _) goodL_no fun _ _ h => ?_
  subst h
  refine rImm_ok (p := GoodL _ _ _) goodL_no fun _ h => ?_
  subst h
  refine gV_ok (p := GoodL _ _ _) goodL_no fun _ _ h => ?_
  subst h
  refine rV_ok (p := GoodL _ _ _) goodL_no fun _ h => ?_
  subst h
  refine vI_ok (p := GoodL _ _ _) goodL_no fun _ h => ?_
  subst h
  refine gV_ok (p := GoodL _ _ _) goodL_no fun _ _ h => ?_
  subst h
  refine rV_ok (p := GoodL _ _ _) goodL_no fun _ h => ?_
  subst h
  refine vI_ok (p := GoodL _ _ _) goodL_no fun _ h => ?_
  subst h
  refine gE_ok (p := GoodL _ _ _) goodL_no fun h => ?_
  subst h
  refine gE_ok (p := GoodL _ _ _) goodL_no fun h => ?_
  subst h
  refine gN_ok (p := GoodL _ _ _) goodL_no fun h => ?_
  subst h
  exact f155.l3.good k _ _ _ _
theorem f155.nat {R : Type} (k : Nat) (g : Int → Option R) (xs1 : List S131) : f155.step k g xs1 = (f155 k xs1).bind g := by
  simp only [f155, f155.step, bind_ite, bind_sum, Option.bind_assoc, Option.bind_some, Option.bind_none]
theorem f155.ev (k : Nat) (xs1 : List S131) : evF (f155.X k) (bodyOf Try.f155) Try.f155.ntmps Try.f155.results.toList [.v (.c (.sl 131 xs1))] = f155.step k (fun x => f155.w x some) xs1 := by kernel_rfl
theorem f155.hok (k : Nat) : HOK (f155.X k) (bodyOf Try.f155) where
  l := allP_mem (by exact ⟨ls_of (h0 := fun S => f155.l3.hd k S.ts S.m S.n) (by kernel_rfl) (f155.l3.all k), trivial⟩)
  j := allP_mem (by exact trivial)
theorem f155.sound (k : Nat) : SoundC env Try.prog 155 (f155.e k).F := by
  intro ps_
  show GoodC _ _ _ ps_ (f155.hd k ps_)
  unfold f155.hd
  refine gC_ok (p := GoodC env Try.prog 155 _) goodC_no fun _ _ h => ?_
  subst h
  refine qC_ok (p := GoodC env Try.prog 155 _) goodC_no fun _ h => ?_
  subst h
  refine qSl_ok (p := GoodC env Try.prog 155 _) goodC_no fun _ h => ?_
  subst h
  refine gE_ok (p := GoodC env Try.prog 155 _) goodC_no fun h => ?_
  subst h
  exact fun_good (fun_sound envOK (cs_sound _ (by exact trivial)) (f155.hok k) Try.func155 rfl) ((f155.ev k _).trans (f155.nat k _ _))
theorem f155.says (k : Nat) (xs1 : List S131) (t9 : Int) (h_ : f155 k xs1 = some t9) : SoundAt env Try.prog 155 [.v (.c (.sl 131 xs1))] ⟨.v (.c (.s (.int .i64 t9))), [[]]⟩ :=
  fun_sound envOK (cs_sound _ (by exact trivial)) (f155.hok k) Try.func155 rfl _ _ (((f155.ev k xs1).trans (f155.nat k _ xs1)).trans (by rw [h_]; rfl))
theorem f155.fnok : FnOK Try.prog 155 := fn_ok Try.func155 (by kernel_rfl) rfl
def f101.l4.step {R : Type} (k : Nat) (rec_ : Int → (List S131) → Int → Int → Int → Int → (List S131) → Int → Int → Int → Option R) (ret : ((Int × Bool × Int × Int × (List S131) × Int × Int × Int) ⊕ (Int × Int × Int × (List S131) × Int × Int × Int)) → Option R) (a10 : Int) (xs11 : List S131) (a12 : Int) (a13 : Int) (a14 : Int) (a15 : Int) (xs16 : List S131) (a17 : Int) (a18 : Int) (a19 : Int) : Option R :=
  if (decide (a13 < a12)) = true then
    if (0 : Int) ≤ a13 then
      if a13 < ((List.length xs11 : Nat) : Int) then
        (f83 k (List.getD xs11 (Int.toNat a13) (⟨(0 : Int), (0 : Int)⟩ : S131)).f1 (1 : Int) (1500 : Int)).bind fun t20 => if (!t20) = true then
            ret (.inl (a10, false, a14, a15, xs16, a17, a18, a19))
          else
            rec_ a10 xs11 a12 (IntKind.i64.wrap (a13 + (1 : Int))) a14 a15 xs16 a17 a18 a19
      else none
    else none
  else
    ret (.inr (a10, a14, a15, xs16, a17, a18, a19))
def f101.l4 (k : Nat) : Nat → Int → (List S131) → Int → Int → Int → Int → (List S131) → Int → Int → Int → Option ((Int × Bool × Int × Int × (List S131) × Int × Int × Int) ⊕ (Int × Int × Int × (List S131) × Int × Int × Int))
  | 0, _, _, _, _, _, _, _, _, _, _ => none
  | j + 1, a10, xs11, a12, a13, a14, a15, xs16, a17, a18, a19 => f101.l4.step k (fun a10 xs11 a12 a13 a14 a15 xs16 a17 a18 a19 => f101.l4 k j a10 xs11 a12 a13 a14 a15 xs16 a17 a18 a19) some a10 xs11 a12 a13 a14 a15 xs16 a17 a18 a19
def f101.l4.w {R : Type} : ((Int × Bool × Int × Int × (List S131) × Int × Int × Int) ⊕ (Int × Int × Int × (List S131) × Int × Int × Int)) → (Exit → St env → Option R) → Option R := fun x K => Sum.elim (fun t27 => K .ret ⟨fullT [1, 2, 4] 0 64 [.v (.c (.s (.int .i64 t27.1))), .v (.c (.bp 2 0)), .v (.c (.s (.bool t27.2.1)))], [(2, .box [.s (.int .i64 t27.2.2.1), .s (.int .i64 t27.2.2.2.1), .imm 131 t27.2.2.2.2.1, .s (.int .i64 t27.2.2.2.2.2.1), .s (.int .i64 t27.2.2.2.2.2.2.1), .s (.int .i64 t27.2.2.2.2.2.2.2)])], 546⟩) (fun t28 => K (.exit 0) ⟨fullT [1, 2] 0 64 [.v (.c (.s (.int .i64 t28.1))), .v (.c (.bp 2 0))], [(2, .box [.s (.int .i64 t28.2.1), .s (.int .i64 t28.2.2.1), .imm 131 t28.2.2.2.1, .s (.int .i64 t28.2.2.2.2.1), .s (.int .i64 t28.2.2.2.2.2.1), .s (.int .i64 t28.2.2.2.2.2.2)])], 546⟩) x
def f101.l4.st (a10 : Int) (xs11 : List S131) (a12 : Int) (a13 : Int) (a14 : Int) (a15 : Int) (xs16 : List S131) (a17 : Int) (a18 : Int) (a19 : Int) : St env := ⟨fullT [1, 2, 24, 25, 26] 0 64 [.v (.c (.s (.int .i64 a10))), .v (.c (.bp 2 0)), .v (.c (.imm 131 xs11)), .v (.c (.s (.int .i64 a12))), .v (.c (.s (.int .i64 a13)))], [(2, .box [.s (.int .i64 a14), .s (.int .i64 a15), .imm 131 xs16, .s (.int .i64 a17), .s (.int .i64 a18), .s (.int .i64 a19)])], 354⟩
def f101.l4.hd (k : Nat) (ts_ : List (AV env)) (mm_ : Mem env) (n_ : Nat) : LCl env :=
  gTs LCl.no [1, 2, 24, 25, 26] 64 ts_ fun l_ => gV LCl.no l_ fun a_ l_ => rV LCl.no a_ fun v_ => vI LCl.no .i64 v_ fun a10 => gV LCl.no l_ fun a_ l_ => rBp LCl.no 2 0 a_ <| gV LCl.no l_ fun a_ l_ => rImm LCl.no 131 a_ fun xs11 => gV LCl.no l_ fun a_ l_ => rV LCl.no a_ fun v_ => vI LCl.no .i64 v_ fun a12 => gV LCl.no l_ fun a_ l_ => rV LCl.no a_ fun v_ => vI LCl.no .i64 v_ fun a13 => gE LCl.no l_ <| mBox LCl.no 2 mm_ fun c_ m_ => gC LCl.no c_ fun a_ c_ => rV LCl.no a_ fun v_ => vI LCl.no .i64 v_ fun a14 => gC LCl.no c_ fun a_ c_ => rV LCl.no a_ fun v_ => vI LCl.no .i64 v_ fun a15 => gC LCl.no c_ fun a_ c_ => rImm LCl.no 131 a_ fun xs16 => gC LCl.no c_ fun a_ c_ => rV LCl.no a_ fun v_ => vI LCl.no .i64 v_ fun a17 => gC LCl.no c_ fun a_ c_ => rV LCl.no a_ fun v_ => vI LCl.no .i64 v_ fun a18 => gC LCl.no c_ fun a_ c_ => rV LCl.no a_ fun v_ => vI LCl.no .i64 v_ fun a19 => gE LCl.no c_ <| gE LCl.no m_ <| gN LCl.no 354 n_ { α := (Int × Bool × Int × Int × (List S131) × Int × Int × Int) ⊕ (Int × Int × Int × (List S131) × Int × Int × Int), o := f101.l4 k k a10 xs11 a12 a13 a14 a15 xs16 a17 a18 a19, w := f101.l4.w }
def f101.step {R : Type} (k : Nat) (ret : Bool → Option R) (a1 : Int) (a2 : Int) (xs3 : List S131) (a4 : Int) (a5 : Int) (a6 : Int) (a7 : Int) : Option R :=
  (f83 k a1 (1500 : Int) (3000 : Int)).bind fun t8 => if (!t8) = false then
      (f83 k a2 (0 : Int) (100000 : Int)).bind fun t9 => if (!t9) = false then
          if (decide ((((List.length xs3) : Nat) : Int) > (40 : Int))) = true then
            ret false
          else
            (f101.l4 k k a7 xs3 (((List.length xs3) : Nat) : Int) (0 : Int) a1 a2 xs3 a4 a5 a6).bind (Sum.elim (fun t21 => ret t21.2.1) (fun t22 => (f155 k t22.2.2.2.1).bind fun t23 => if (decide (t23 > t22.2.2.1)) = false then
                  (f83 k t22.2.2.2.2.2.1 (0 : Int) (1000000000 : Int)).bind fun t24 => if (!t24) = false then
                      (f83 k t22.2.2.2.2.2.2 (0 : Int) (1000000000 : Int)).bind fun t25 => if (!t25) = true then
                          ret false
                        else
                          if (decide ((((List.length t22.2.2.2.1) : Nat) : Int) = (0 : Int))) = true then
                            ret (decide (t22.2.2.2.2.1 = (0 : Int)))
                          else
                            (f83 k t22.2.2.2.2.1 (0 : Int) t22.1).bind fun t26 => ret t26
                    else
                      ret false
                else
                  ret false))
        else
          ret false
    else
      ret false
def f101 (k : Nat) (a1 : Int) (a2 : Int) (xs3 : List S131) (a4 : Int) (a5 : Int) (a6 : Int) (a7 : Int) : Option Bool := f101.step k some a1 a2 xs3 a4 a5 a6 a7
def f101.w {R : Type} : Bool → (Res env → Option R) → Option R := fun t29 K => K ⟨.v (.c (.s (.bool t29))), [[], []]⟩
theorem f101.wn (x : Bool) : ∃ res, ∀ {R : Type} (K : Res env → Option R), f101.w x K = K res := by
  exact ⟨_, fun _ => rfl⟩
def f101.hd (k : Nat) (ps_ : List (P2 env)) : Cl env :=
  gC Cl.no ps_ fun p_ ps_ => qG Cl.no p_ fun cs_ => gC Cl.no cs_ fun c_ cs_ => qS Cl.no c_ fun v_ => vI Cl.no .i64 v_ fun a1 => gC Cl.no cs_ fun c_ cs_ => qS Cl.no c_ fun v_ => vI Cl.no .i64 v_ fun a2 => gC Cl.no cs_ fun c_ cs_ => qSl Cl.no 131 c_ fun xs3 => gC Cl.no cs_ fun c_ cs_ => qS Cl.no c_ fun v_ => vI Cl.no .i64 v_ fun a4 => gC Cl.no cs_ fun c_ cs_ => qS Cl.no c_ fun v_ => vI Cl.no .i64 v_ fun a5 => gC Cl.no cs_ fun c_ cs_ => qS Cl.no c_ fun v_ => vI Cl.no .i64 v_ fun a6 => gE Cl.no cs_ <| gC Cl.no ps_ fun p_ ps_ => qC Cl.no p_ fun c_ => qS Cl.no c_ fun v_ => vI Cl.no .i64 v_ fun a7 => gE Cl.no ps_ <| { α := Bool, o := f101 k a1 a2 xs3 a4 a5 a6 a7, w := f101.w, nat := fun x _ => f101.wn x }
def f101.e (k : Nat) : Entry env := ⟨f101.hd k⟩
def f101.X (k : Nat) : Ctx env := { C := lookE [(83, f83.e k), (155, f155.e k)], L := lookE [(4, fun S => f101.l4.hd k S.ts S.m S.n)], J := lookE [], keep := lookD [(4, [1, 2, 24, 25, 26])], keepX := lookD [(4, [1, 2, 4])], span := lookN [(4, 192)], eff := fun n => memN n [] }
theorem f101.l4.nat {R : Type} (k : Nat) (rec_ : Int → (List S131) → Int → Int → Int → Int → (List S131) → Int → Int → Int → Option ((Int × Bool × Int × Int × (List S131) × Int × Int × Int) ⊕ (Int × Int × Int × (List S131) × Int × Int × Int))) (g : ((Int × Bool × Int × Int × (List S131) × Int × Int × Int) ⊕ (Int × Int × Int × (List S131) × Int × Int × Int)) → Option R) (a10 : Int) (xs11 : List S131) (a12 : Int) (a13 : Int) (a14 : Int) (a15 : Int) (xs16 : List S131) (a17 : Int) (a18 : Int) (a19 : Int) : (f101.l4.step k rec_ some a10 xs11 a12 a13 a14 a15 xs16 a17 a18 a19).bind g = f101.l4.step k (fun a10 xs11 a12 a13 a14 a15 xs16 a17 a18 a19 => (rec_ a10 xs11 a12 a13 a14 a15 xs16 a17 a18 a19).bind g) g a10 xs11 a12 a13 a14 a15 xs16 a17 a18 a19 := by
  simp only [f101.l4.step, bind_ite, bind_sum, Option.bind_assoc, Option.bind_some, Option.bind_none]
theorem f101.l4.good (k : Nat) (a10 : Int) (xs11 : List S131) (a12 : Int) (a13 : Int) (a14 : Int) (a15 : Int) (xs16 : List S131) (a17 : Int) (a18 : Int) (a19 : Int) : GoodL (f101.X k) (nthC 0 (loopsOf (bodyOf Try.f101))) (f101.l4.st a10 xs11 a12 a13 a14 a15 xs16 a17 a18 a19) { α := ((Int × Bool × Int × Int × (List S131) × Int × Int × Int) ⊕ (Int × Int × Int × (List S131) × Int × Int × Int)), o := f101.l4 k k a10 xs11 a12 a13 a14 a15 xs16 a17 a18 a19, w := f101.l4.w } :=
  loop_good (ι := Int × (List S131) × Int × Int × Int × Int × (List S131) × Int × Int × Int) (α := ((Int × Bool × Int × Int × (List S131) × Int × Int × Int) ⊕ (Int × Int × Int × (List S131) × Int × Int × Int))) (fun i => f101.l4.st i.1 i.2.1 i.2.2.1 i.2.2.2.1 i.2.2.2.2.1 i.2.2.2.2.2.1 i.2.2.2.2.2.2.1 i.2.2.2.2.2.2.2.1 i.2.2.2.2.2.2.2.2.1 i.2.2.2.2.2.2.2.2.2) (fun j i => f101.l4 k j i.1 i.2.1 i.2.2.1 i.2.2.2.1 i.2.2.2.2.1 i.2.2.2.2.2.1 i.2.2.2.2.2.2.1 i.2.2.2.2.2.2.2.1 i.2.2.2.2.2.2.2.2.1 i.2.2.2.2.2.2.2.2.2) f101.l4.w (fun rec_ ret i => f101.l4.step k (fun a10 xs11 a12 a13 a14 a15 xs16 a17 a18 a19 => rec_ (a10, xs11, a12, a13, a14, a15, xs16, a17, a18, a19)) ret i.1 i.2.1 i.2.2.1 i.2.2.2.1 i.2.2.2.2.1 i.2.2.2.2.2.1 i.2.2.2.2.2.2.1 i.2.2.2.2.2.2.2.1 i.2.2.2.2.2.2.2.2.1 i.2.2.2.2.2.2.2.2.2)
    (fun _ => rfl) (fun _ _ => rfl) (fun rec_ g i => f101.l4.nat k _ g i.1 i.2.1 i.2.2.1 i.2.2.2.1 i.2.2.2.2.1 i.2.2.2.2.2.1 i.2.2.2.2.2.2.1 i.2.2.2.2.2.2.2.1 i.2.2.2.2.2.2.2.2.1 i.2.2.2.2.2.2.2.2.2) (fun {R} i0 i rec_ K => by kernel_rfl) k (a10, xs11, a12, a13, a14, a15, xs16, a17, a18, a19)
theorem f101.l4.all (k : Nat) (S : St env) : GoodL (f101.X k) (nthC 0 (loopsOf (bodyOf Try.f101))) S (f101.l4.hd k S.ts S.m S.n) := by
  obtain ⟨ts_, m_, n_⟩ := S
  show GoodL _ _ _ (f101.l4.hd k ts_ m_ n_)
  unfold f101.l4.hd
  refine gTs_ok (p := GoodL _ _ _) goodL_no fun _ h => ?_
  subst h
  refine gV_ok (p := GoodL _ _ _) goodL_no fun _ _ h => ?_
  subst h
  refine rV_ok (p := GoodL _ _ _) goodL_no fun _ h => ?_
  subst h
  refine vI_ok (p := GoodL _ _ _) goodL_no fun _ h => ?_
  subst h
  refine gV_ok (p := GoodL _ _ _) goodL_no fun _ _ h => ?_
  subst h
  refine rBp_ok (p := GoodL _ _ _) goodL_no fun h => ?_
  subst h
  refine gV_ok (p := GoodL _ _ _) goodL_no fun _ _ h => ?_
  subst h
  refine rImm_ok (p := GoodL _ _ _) goodL_no fun _ h => ?_
  subst h
  refine gV_ok (p := GoodL _ _ _) goodL_no fun _ _ h => ?_
  subst h
  refine rV_ok (p := GoodL _ _ _) goodL_no fun _ h => ?_
  subst h
  refine vI_ok (p := GoodL _ _ _) goodL_no fun _ h => ?_
  subst h
  refine gV_ok (p := GoodL _ _ _) goodL_no fun _ _ h => ?_
  subst h
  refine rV_ok (p := GoodL _ _ _) goodL_no fun _ h => ?_
  subst h
  refine vI_ok (p := GoodL _ _ _) goodL_no fun _ h => ?_
  subst h
  refine gE_ok (p := GoodL _ _ _) goodL_no fun h => ?_
  subst h
  refine mBox_ok (p := GoodL _ _ _) goodL_no fun _ _ h => ?_
  subst h
  refine gC_ok (p := GoodL _ _ _) goodL_no fun _ _ h => ?_
  subst h
  refine rV_ok (p := GoodL _ _ _) goodL_no fun _ h => ?_
  subst h
  refine vI_ok (p := GoodL _ _ _) goodL_no fun _ h => ?_
  subst h
  refine gC_ok (p := GoodL _ _ _) goodL_no fun _ _ h => ?_
  subst h
  refine rV_ok (p := GoodL _ _ _) goodL_no fun _ h => ?_
  subst h
  refine vI_ok (p := GoodL _ _ _) goodL_no fun _ h => ?_
  subst h
  refine gC_ok (p := GoodL _ _ _) goodL_no fun _ _ h => ?_
  subst h
  refine rImm_ok (p := GoodL _ _ _) goodL_no fun _ h => ?_
  subst h
  refine gC_ok (p := GoodL _ _ _) goodL_no fun _ _ h => ?_
  subst h
  refine rV_ok (p := GoodL _ _ _) goodL_no fun _ h => ?_
  subst h
  refine vI_ok (p := GoodL _ _ _) goodL_no fun _ h => ?_
  subst h
  refine gC_ok (p := GoodL _ _ _) goodL_no fun _ _ h => ?_
  subst h
  refine rV_ok (p := GoodL _ _ _) goodL_no fun _ h => ?_
  subst h
  refine vI_ok (p := GoodL _ _ _) goodL_no fun _ h => ?_
  subst h
  refine gC_ok (p := GoodL _ _ _) goodL_no fun _ _ h => ?_
  subst h
  refine rV_ok (p := GoodL _ _ _) goodL_no fun _ h => ?_
  subst h
  refine vI_ok (p := GoodL _ _ _) goodL_no fun _ h => ?_
  subst h
  refine gE_ok (p := GoodL _ _ _) goodL_no fun h => ?_
  subst h
  refine gE_ok (p := GoodL _ _ _) goodL_no fun h => ?_
  subst h
  refine gN_ok (p := GoodL _ _ _) goodL_no fun h => ?_
  subst h
  exact f101.l4.good k _ _ _ _ _ _ _ _ _ _
theorem f101.nat {R : Type} (k : Nat) (g : Bool → Option R) (a1 : Int) (a2 : Int) (xs3 : List S131) (a4 : Int) (a5 : Int) (a6 : Int) (a7 : Int) : f101.step k g a1 a2 xs3 a4 a5 a6 a7 = (f101 k a1 a2 xs3 a4 a5 a6 a7).bind g := by
  simp only [f101, f101.step, bind_ite, bind_sum, Option.bind_assoc, Option.bind_some, Option.bind_none]
theorem f101.ev (k : Nat) (a1 : Int) (a2 : Int) (xs3 : List S131) (a4 : Int) (a5 : Int) (a6 : Int) (a7 : Int) : evF (f101.X k) (bodyOf Try.f101) Try.f101.ntmps Try.f101.results.toList [.g [.s (.int .i64 a1), .s (.int .i64 a2), .sl 131 xs3, .s (.int .i64 a4), .s (.int .i64 a5), .s (.int .i64 a6)], .v (.c (.s (.int .i64 a7)))] = f101.step k (fun x => f101.w x some) a1 a2 xs3 a4 a5 a6 a7 := by kernel_rfl
theorem f101.hok (k : Nat) : HOK (f101.X k) (bodyOf Try.f101) where
  l := allP_mem (by exact ⟨ls_of (h0 := fun S => f101.l4.hd k S.ts S.m S.n) (by kernel_rfl) (f101.l4.all k), trivial⟩)
  j := allP_mem (by exact trivial)
theorem f101.sound (k : Nat) : SoundC env Try.prog 101 (f101.e k).F := by
  intro ps_
  show GoodC _ _ _ ps_ (f101.hd k ps_)
  unfold f101.hd
  refine gC_ok (p := GoodC env Try.prog 101 _) goodC_no fun _ _ h => ?_
  subst h
  refine qG_ok (p := GoodC env Try.prog 101 _) goodC_no fun _ h => ?_
  subst h
  refine gC_ok (p := GoodC env Try.prog 101 _) goodC_no fun _ _ h => ?_
  subst h
  refine qS_ok (p := GoodC env Try.prog 101 _) goodC_no fun _ h => ?_
  subst h
  refine vI_ok (p := GoodC env Try.prog 101 _) goodC_no fun _ h => ?_
  subst h
  refine gC_ok (p := GoodC env Try.prog 101 _) goodC_no fun _ _ h => ?_
  subst h
  refine qS_ok (p := GoodC env Try.prog 101 _) goodC_no fun _ h => ?_
  subst h
  refine vI_ok (p := GoodC env Try.prog 101 _) goodC_no fun _ h => ?_
  subst h
  refine gC_ok (p := GoodC env Try.prog 101 _) goodC_no fun _ _ h => ?_
  subst h
  refine qSl_ok (p := GoodC env Try.prog 101 _) goodC_no fun _ h => ?_
  subst h
  refine gC_ok (p := GoodC env Try.prog 101 _) goodC_no fun _ _ h => ?_
  subst h
  refine qS_ok (p := GoodC env Try.prog 101 _) goodC_no fun _ h => ?_
  subst h
  refine vI_ok (p := GoodC env Try.prog 101 _) goodC_no fun _ h => ?_
  subst h
  refine gC_ok (p := GoodC env Try.prog 101 _) goodC_no fun _ _ h => ?_
  subst h
  refine qS_ok (p := GoodC env Try.prog 101 _) goodC_no fun _ h => ?_
  subst h
  refine vI_ok (p := GoodC env Try.prog 101 _) goodC_no fun _ h => ?_
  subst h
  refine gC_ok (p := GoodC env Try.prog 101 _) goodC_no fun _ _ h => ?_
  subst h
  refine qS_ok (p := GoodC env Try.prog 101 _) goodC_no fun _ h => ?_
  subst h
  refine vI_ok (p := GoodC env Try.prog 101 _) goodC_no fun _ h => ?_
  subst h
  refine gE_ok (p := GoodC env Try.prog 101 _) goodC_no fun h => ?_
  subst h
  refine gC_ok (p := GoodC env Try.prog 101 _) goodC_no fun _ _ h => ?_
  subst h
  refine qC_ok (p := GoodC env Try.prog 101 _) goodC_no fun _ h => ?_
  subst h
  refine qS_ok (p := GoodC env Try.prog 101 _) goodC_no fun _ h => ?_
  subst h
  refine vI_ok (p := GoodC env Try.prog 101 _) goodC_no fun _ h => ?_
  subst h
  refine gE_ok (p := GoodC env Try.prog 101 _) goodC_no fun h => ?_
  subst h
  exact fun_good (fun_sound envOK (cs_sound _ (by exact ⟨⟨f83.sound k, f83.fnok⟩, ⟨f155.sound k, f155.fnok⟩, trivial⟩)) (f101.hok k) Try.func101 rfl) ((f101.ev k _ _ _ _ _ _ _).trans (f101.nat k _ _ _ _ _ _ _ _))
theorem f101.says (k : Nat) (a1 : Int) (a2 : Int) (xs3 : List S131) (a4 : Int) (a5 : Int) (a6 : Int) (a7 : Int) (t30 : Bool) (h_ : f101 k a1 a2 xs3 a4 a5 a6 a7 = some t30) : SoundAt env Try.prog 101 [.g [.s (.int .i64 a1), .s (.int .i64 a2), .sl 131 xs3, .s (.int .i64 a4), .s (.int .i64 a5), .s (.int .i64 a6)], .v (.c (.s (.int .i64 a7)))] ⟨.v (.c (.s (.bool t30))), [[], []]⟩ :=
  fun_sound envOK (cs_sound _ (by exact ⟨⟨f83.sound k, f83.fnok⟩, ⟨f155.sound k, f155.fnok⟩, trivial⟩)) (f101.hok k) Try.func101 rfl _ _ (((f101.ev k a1 a2 xs3 a4 a5 a6 a7).trans (f101.nat k _ a1 a2 xs3 a4 a5 a6 a7)).trans (by rw [h_]; rfl))
theorem f101.fnok : FnOK Try.prog 101 := fn_ok Try.func101 (by kernel_rfl) rfl
def f40.l5.step {R : Type} (k : Nat) (rec_ : (List Int) → Int → Int → (List S123) → (List Int) → Bool → Bool → Bool → Bool → Bool → Bool → Option R) (ret : ((Bool × (List S123) × (List Int) × Bool × Bool × Bool × Bool × Bool × Bool) ⊕ ((List S123) × (List Int) × Bool × Bool × Bool × Bool × Bool × Bool)) → Option R) (xs5 : List Int) (a6 : Int) (a7 : Int) (xs8 : List S123) (xs9 : List Int) (b10 : Bool) (b11 : Bool) (b12 : Bool) (b13 : Bool) (b14 : Bool) (b15 : Bool) : Option R :=
  if (decide (a7 < a6)) = true then
    if (0 : Int) ≤ a7 then
      if a7 < ((List.length xs5 : Nat) : Int) then
        (f83 k (List.getD xs5 (Int.toNat a7) (0 : Int)) (0 : Int) (IntKind.i64.wrap ((((List.length xs8) : Nat) : Int) - (1 : Int)))).bind fun t16 => if (!t16) = false then
            if (0 : Int) ≤ (List.getD xs5 (Int.toNat a7) (0 : Int)) then
              if (List.getD xs5 (Int.toNat a7) (0 : Int)) < (5 : Int) then
                if ((Int.toNat (List.getD xs5 (Int.toNat a7) (0 : Int))) * 1) < 5 then
                  if (List.getD [b11, b12, b13, b14, b15] ((Int.toNat (List.getD xs5 (Int.toNat a7) (0 : Int))) * 1) false) = true then
                    ret (.inl (false, xs8, xs9, b10, b11, b12, b13, b14, b15))
                  else
                    if (0 : Int) ≤ (List.getD xs5 (Int.toNat a7) (0 : Int)) then
                      if (List.getD xs5 (Int.toNat a7) (0 : Int)) < (5 : Int) then
                        if ((Int.toNat (List.getD xs5 (Int.toNat a7) (0 : Int))) * 1) < 5 then
                          rec_ xs5 a6 (IntKind.i64.wrap (a7 + (1 : Int))) xs8 xs9 b10 (List.getD (List.set [b11, b12, b13, b14, b15] ((Int.toNat (List.getD xs5 (Int.toNat a7) (0 : Int))) * 1) true) 0 false) (List.getD (List.set [b11, b12, b13, b14, b15] ((Int.toNat (List.getD xs5 (Int.toNat a7) (0 : Int))) * 1) true) 1 false) (List.getD (List.set [b11, b12, b13, b14, b15] ((Int.toNat (List.getD xs5 (Int.toNat a7) (0 : Int))) * 1) true) 2 false) (List.getD (List.set [b11, b12, b13, b14, b15] ((Int.toNat (List.getD xs5 (Int.toNat a7) (0 : Int))) * 1) true) 3 false) (List.getD (List.set [b11, b12, b13, b14, b15] ((Int.toNat (List.getD xs5 (Int.toNat a7) (0 : Int))) * 1) true) 4 false)
                        else none
                      else none
                    else none
                else none
              else none
            else none
          else
            ret (.inl (false, xs8, xs9, b10, b11, b12, b13, b14, b15))
      else none
    else none
  else
    ret (.inr (xs8, xs9, b10, b11, b12, b13, b14, b15))
def f40.l5 (k : Nat) : Nat → (List Int) → Int → Int → (List S123) → (List Int) → Bool → Bool → Bool → Bool → Bool → Bool → Option ((Bool × (List S123) × (List Int) × Bool × Bool × Bool × Bool × Bool × Bool) ⊕ ((List S123) × (List Int) × Bool × Bool × Bool × Bool × Bool × Bool))
  | 0, _, _, _, _, _, _, _, _, _, _, _ => none
  | j + 1, xs5, a6, a7, xs8, xs9, b10, b11, b12, b13, b14, b15 => f40.l5.step k (fun xs5 a6 a7 xs8 xs9 b10 b11 b12 b13 b14 b15 => f40.l5 k j xs5 a6 a7 xs8 xs9 b10 b11 b12 b13 b14 b15) some xs5 a6 a7 xs8 xs9 b10 b11 b12 b13 b14 b15
def f40.l5.w {R : Type} : ((Bool × (List S123) × (List Int) × Bool × Bool × Bool × Bool × Bool × Bool) ⊕ ((List S123) × (List Int) × Bool × Bool × Bool × Bool × Bool × Bool)) → (Exit → St env → Option R) → Option R := fun x K => Sum.elim (fun t39 => K .ret ⟨fullT [1, 2, 3] 0 89 [.v (.c (.bp 1 0)), .v (.c (.s (.bool t39.1))), .v (.c (.bp 369 0))], [(1, .box [.imm 123 t39.2.1, .imm 3 t39.2.2.1, .s (.bool t39.2.2.2.1)]), (369, .box [.s (.bool t39.2.2.2.2.1), .s (.bool t39.2.2.2.2.2.1), .s (.bool t39.2.2.2.2.2.2.1), .s (.bool t39.2.2.2.2.2.2.2.1), .s (.bool t39.2.2.2.2.2.2.2.2)])], 801⟩) (fun t40 => K (.exit 0) ⟨fullT [1, 3] 0 89 [.v (.c (.bp 1 0)), .v (.c (.bp 369 0))], [(1, .box [.imm 123 t40.1, .imm 3 t40.2.1, .s (.bool t40.2.2.1)]), (369, .box [.s (.bool t40.2.2.2.1), .s (.bool t40.2.2.2.2.1), .s (.bool t40.2.2.2.2.2.1), .s (.bool t40.2.2.2.2.2.2.1), .s (.bool t40.2.2.2.2.2.2.2)])], 801⟩) x
def f40.l5.st (xs5 : List Int) (a6 : Int) (a7 : Int) (xs8 : List S123) (xs9 : List Int) (b10 : Bool) (b11 : Bool) (b12 : Bool) (b13 : Bool) (b14 : Bool) (b15 : Bool) : St env := ⟨fullT [1, 3, 31, 32, 33] 0 89 [.v (.c (.bp 1 0)), .v (.c (.bp 369 0)), .v (.c (.imm 3 xs5)), .v (.c (.s (.int .i64 a6))), .v (.c (.s (.int .i64 a7)))], [(1, .box [.imm 123 xs8, .imm 3 xs9, .s (.bool b10)]), (369, .box [.s (.bool b11), .s (.bool b12), .s (.bool b13), .s (.bool b14), .s (.bool b15)])], 449⟩
def f40.l5.hd (k : Nat) (ts_ : List (AV env)) (mm_ : Mem env) (n_ : Nat) : LCl env :=
  gTs LCl.no [1, 3, 31, 32, 33] 89 ts_ fun l_ => gV LCl.no l_ fun a_ l_ => rBp LCl.no 1 0 a_ <| gV LCl.no l_ fun a_ l_ => rBp LCl.no 369 0 a_ <| gV LCl.no l_ fun a_ l_ => rImm LCl.no 3 a_ fun xs5 => gV LCl.no l_ fun a_ l_ => rV LCl.no a_ fun v_ => vI LCl.no .i64 v_ fun a6 => gV LCl.no l_ fun a_ l_ => rV LCl.no a_ fun v_ => vI LCl.no .i64 v_ fun a7 => gE LCl.no l_ <| mBox LCl.no 1 mm_ fun c_ m_ => gC LCl.no c_ fun a_ c_ => rImm LCl.no 123 a_ fun xs8 => gC LCl.no c_ fun a_ c_ => rImm LCl.no 3 a_ fun xs9 => gC LCl.no c_ fun a_ c_ => rV LCl.no a_ fun v_ => vB LCl.no v_ fun b10 => gE LCl.no c_ <| mBox LCl.no 369 m_ fun c_ m_ => gC LCl.no c_ fun a_ c_ => rV LCl.no a_ fun v_ => vB LCl.no v_ fun b11 => gC LCl.no c_ fun a_ c_ => rV LCl.no a_ fun v_ => vB LCl.no v_ fun b12 => gC LCl.no c_ fun a_ c_ => rV LCl.no a_ fun v_ => vB LCl.no v_ fun b13 => gC LCl.no c_ fun a_ c_ => rV LCl.no a_ fun v_ => vB LCl.no v_ fun b14 => gC LCl.no c_ fun a_ c_ => rV LCl.no a_ fun v_ => vB LCl.no v_ fun b15 => gE LCl.no c_ <| gE LCl.no m_ <| gN LCl.no 449 n_ { α := (Bool × (List S123) × (List Int) × Bool × Bool × Bool × Bool × Bool × Bool) ⊕ ((List S123) × (List Int) × Bool × Bool × Bool × Bool × Bool × Bool), o := f40.l5 k k xs5 a6 a7 xs8 xs9 b10 b11 b12 b13 b14 b15, w := f40.l5.w }
def f40.l12.step {R : Type} (k : Nat) (rec_ : (List S123) → Int → Int → (List S123) → (List Int) → Bool → Bool → Bool → Bool → Bool → Bool → Option R) (ret : (Bool ⊕ (Unit)) → Option R) (xs19 : List S123) (a20 : Int) (a21 : Int) (xs22 : List S123) (xs23 : List Int) (b24 : Bool) (b25 : Bool) (b26 : Bool) (b27 : Bool) (b28 : Bool) (b29 : Bool) : Option R :=
  if (decide (a21 < a20)) = true then
    if (0 : Int) ≤ a21 then
      if a21 < ((List.length xs19 : Nat) : Int) then
        if b24 = true then
          if (0 : Int) < ((List.length xs23 : Nat) : Int) then
            if (decide ((List.getD xs23 0 (0 : Int)) = a21)) = true then
              (f101 k (List.getD xs19 (Int.toNat a21) (⟨(0 : Int), (0 : Int), [], (0 : Int), (0 : Int), (0 : Int)⟩ : S123)).f0 (List.getD xs19 (Int.toNat a21) (⟨(0 : Int), (0 : Int), [], (0 : Int), (0 : Int), (0 : Int)⟩ : S123)).f1 (List.getD xs19 (Int.toNat a21) (⟨(0 : Int), (0 : Int), [], (0 : Int), (0 : Int), (0 : Int)⟩ : S123)).f2 (List.getD xs19 (Int.toNat a21) (⟨(0 : Int), (0 : Int), [], (0 : Int), (0 : Int), (0 : Int)⟩ : S123)).f3 (List.getD xs19 (Int.toNat a21) (⟨(0 : Int), (0 : Int), [], (0 : Int), (0 : Int), (0 : Int)⟩ : S123)).f4 (List.getD xs19 (Int.toNat a21) (⟨(0 : Int), (0 : Int), [], (0 : Int), (0 : Int), (0 : Int)⟩ : S123)).f5 (IntKind.i64.wrap ((1499 : Int) + (List.getD xs19 (Int.toNat a21) (⟨(0 : Int), (0 : Int), [], (0 : Int), (0 : Int), (0 : Int)⟩ : S123)).f0))).bind fun t30 => if (!t30) = false then
                  if (0 : Int) ≤ a21 then
                    if a21 < (5 : Int) then
                      if ((Int.toNat a21) * 1) < 5 then
                        if (!((List.getD [b25, b26, b27, b28, b29] ((Int.toNat a21) * 1) false) == (decide ((((List.length (List.getD xs19 (Int.toNat a21) (⟨(0 : Int), (0 : Int), [], (0 : Int), (0 : Int), (0 : Int)⟩ : S123)).f2) : Nat) : Int) > (0 : Int))))) = true then
                          ret (.inl false)
                        else
                          rec_ xs19 a20 (IntKind.i64.wrap (a21 + (1 : Int))) xs22 xs23 b24 b25 b26 b27 b28 b29
                      else none
                    else none
                  else none
                else
                  ret (.inl false)
            else
              (f101 k (List.getD xs19 (Int.toNat a21) (⟨(0 : Int), (0 : Int), [], (0 : Int), (0 : Int), (0 : Int)⟩ : S123)).f0 (List.getD xs19 (Int.toNat a21) (⟨(0 : Int), (0 : Int), [], (0 : Int), (0 : Int), (0 : Int)⟩ : S123)).f1 (List.getD xs19 (Int.toNat a21) (⟨(0 : Int), (0 : Int), [], (0 : Int), (0 : Int), (0 : Int)⟩ : S123)).f2 (List.getD xs19 (Int.toNat a21) (⟨(0 : Int), (0 : Int), [], (0 : Int), (0 : Int), (0 : Int)⟩ : S123)).f3 (List.getD xs19 (Int.toNat a21) (⟨(0 : Int), (0 : Int), [], (0 : Int), (0 : Int), (0 : Int)⟩ : S123)).f4 (List.getD xs19 (Int.toNat a21) (⟨(0 : Int), (0 : Int), [], (0 : Int), (0 : Int), (0 : Int)⟩ : S123)).f5 (1499 : Int)).bind fun t31 => if (!t31) = false then
                  if (0 : Int) ≤ a21 then
                    if a21 < (5 : Int) then
                      if ((Int.toNat a21) * 1) < 5 then
                        if (!((List.getD [b25, b26, b27, b28, b29] ((Int.toNat a21) * 1) false) == (decide ((((List.length (List.getD xs19 (Int.toNat a21) (⟨(0 : Int), (0 : Int), [], (0 : Int), (0 : Int), (0 : Int)⟩ : S123)).f2) : Nat) : Int) > (0 : Int))))) = true then
                          ret (.inl false)
                        else
                          rec_ xs19 a20 (IntKind.i64.wrap (a21 + (1 : Int))) xs22 xs23 b24 b25 b26 b27 b28 b29
                      else none
                    else none
                  else none
                else
                  ret (.inl false)
          else none
        else
          (f101 k (List.getD xs19 (Int.toNat a21) (⟨(0 : Int), (0 : Int), [], (0 : Int), (0 : Int), (0 : Int)⟩ : S123)).f0 (List.getD xs19 (Int.toNat a21) (⟨(0 : Int), (0 : Int), [], (0 : Int), (0 : Int), (0 : Int)⟩ : S123)).f1 (List.getD xs19 (Int.toNat a21) (⟨(0 : Int), (0 : Int), [], (0 : Int), (0 : Int), (0 : Int)⟩ : S123)).f2 (List.getD xs19 (Int.toNat a21) (⟨(0 : Int), (0 : Int), [], (0 : Int), (0 : Int), (0 : Int)⟩ : S123)).f3 (List.getD xs19 (Int.toNat a21) (⟨(0 : Int), (0 : Int), [], (0 : Int), (0 : Int), (0 : Int)⟩ : S123)).f4 (List.getD xs19 (Int.toNat a21) (⟨(0 : Int), (0 : Int), [], (0 : Int), (0 : Int), (0 : Int)⟩ : S123)).f5 (1499 : Int)).bind fun t32 => if (!t32) = false then
              if (0 : Int) ≤ a21 then
                if a21 < (5 : Int) then
                  if ((Int.toNat a21) * 1) < 5 then
                    if (!((List.getD [b25, b26, b27, b28, b29] ((Int.toNat a21) * 1) false) == (decide ((((List.length (List.getD xs19 (Int.toNat a21) (⟨(0 : Int), (0 : Int), [], (0 : Int), (0 : Int), (0 : Int)⟩ : S123)).f2) : Nat) : Int) > (0 : Int))))) = true then
                      ret (.inl false)
                    else
                      rec_ xs19 a20 (IntKind.i64.wrap (a21 + (1 : Int))) xs22 xs23 b24 b25 b26 b27 b28 b29
                  else none
                else none
              else none
            else
              ret (.inl false)
      else none
    else none
  else
    ret (.inr ())
def f40.l12 (k : Nat) : Nat → (List S123) → Int → Int → (List S123) → (List Int) → Bool → Bool → Bool → Bool → Bool → Bool → Option (Bool ⊕ (Unit))
  | 0, _, _, _, _, _, _, _, _, _, _, _ => none
  | j + 1, xs19, a20, a21, xs22, xs23, b24, b25, b26, b27, b28, b29 => f40.l12.step k (fun xs19 a20 a21 xs22 xs23 b24 b25 b26 b27 b28 b29 => f40.l12 k j xs19 a20 a21 xs22 xs23 b24 b25 b26 b27 b28 b29) some xs19 a20 a21 xs22 xs23 b24 b25 b26 b27 b28 b29
def f40.l12.w {R : Type} : (Bool ⊕ (Unit)) → (Exit → St env → Option R) → Option R := fun x K => Sum.elim (fun t41 => K .ret ⟨fullT [2] 0 89 [.v (.c (.s (.bool t41)))], [], 1505⟩) (fun t42 => K (.exit 2) ⟨fullT [] 0 89 [], [], 1505⟩) x
def f40.l12.st (xs19 : List S123) (a20 : Int) (a21 : Int) (xs22 : List S123) (xs23 : List Int) (b24 : Bool) (b25 : Bool) (b26 : Bool) (b27 : Bool) (b28 : Bool) (b29 : Bool) : St env := ⟨fullT [1, 3, 53, 54, 55] 0 89 [.v (.c (.bp 1 0)), .v (.c (.bp 369 0)), .v (.c (.imm 123 xs19)), .v (.c (.s (.int .i64 a20))), .v (.c (.s (.int .i64 a21)))], [(1, .box [.imm 123 xs22, .imm 3 xs23, .s (.bool b24)]), (369, .box [.s (.bool b25), .s (.bool b26), .s (.bool b27), .s (.bool b28), .s (.bool b29)])], 865⟩
def f40.l12.hd (k : Nat) (ts_ : List (AV env)) (mm_ : Mem env) (n_ : Nat) : LCl env :=
  gTs LCl.no [1, 3, 53, 54, 55] 89 ts_ fun l_ => gV LCl.no l_ fun a_ l_ => rBp LCl.no 1 0 a_ <| gV LCl.no l_ fun a_ l_ => rBp LCl.no 369 0 a_ <| gV LCl.no l_ fun a_ l_ => rImm LCl.no 123 a_ fun xs19 => gV LCl.no l_ fun a_ l_ => rV LCl.no a_ fun v_ => vI LCl.no .i64 v_ fun a20 => gV LCl.no l_ fun a_ l_ => rV LCl.no a_ fun v_ => vI LCl.no .i64 v_ fun a21 => gE LCl.no l_ <| mBox LCl.no 1 mm_ fun c_ m_ => gC LCl.no c_ fun a_ c_ => rImm LCl.no 123 a_ fun xs22 => gC LCl.no c_ fun a_ c_ => rImm LCl.no 3 a_ fun xs23 => gC LCl.no c_ fun a_ c_ => rV LCl.no a_ fun v_ => vB LCl.no v_ fun b24 => gE LCl.no c_ <| mBox LCl.no 369 m_ fun c_ m_ => gC LCl.no c_ fun a_ c_ => rV LCl.no a_ fun v_ => vB LCl.no v_ fun b25 => gC LCl.no c_ fun a_ c_ => rV LCl.no a_ fun v_ => vB LCl.no v_ fun b26 => gC LCl.no c_ fun a_ c_ => rV LCl.no a_ fun v_ => vB LCl.no v_ fun b27 => gC LCl.no c_ fun a_ c_ => rV LCl.no a_ fun v_ => vB LCl.no v_ fun b28 => gC LCl.no c_ fun a_ c_ => rV LCl.no a_ fun v_ => vB LCl.no v_ fun b29 => gE LCl.no c_ <| gE LCl.no m_ <| gN LCl.no 865 n_ { α := Bool ⊕ (Unit), o := f40.l12 k k xs19 a20 a21 xs22 xs23 b24 b25 b26 b27 b28 b29, w := f40.l12.w }
def f40.step {R : Type} (k : Nat) (ret : Bool → Option R) (xs1 : List S123) (xs2 : List Int) (b3 : Bool) : Option R :=
  (f83 k (((List.length xs1) : Nat) : Int) (1 : Int) (5 : Int)).bind fun t4 => if (!t4) = false then
      if (decide ((((List.length xs2) : Nat) : Int) > (5 : Int))) = false then
        if b3 = true then
          if (decide ((((List.length xs2) : Nat) : Int) = (0 : Int))) = true then
            ret false
          else
            (f40.l5 k k xs2 (((List.length xs2) : Nat) : Int) (0 : Int) xs1 xs2 b3 false false false false false).bind (Sum.elim (fun t17 => ret t17.1) (fun t18 => (f40.l12 k k t18.1 (((List.length t18.1) : Nat) : Int) (0 : Int) t18.1 t18.2.1 t18.2.2.1 t18.2.2.2.1 t18.2.2.2.2.1 t18.2.2.2.2.2.1 t18.2.2.2.2.2.2.1 t18.2.2.2.2.2.2.2).bind (Sum.elim (fun t33 => ret t33) (fun t34 => ret true))))
        else
          (f40.l5 k k xs2 (((List.length xs2) : Nat) : Int) (0 : Int) xs1 xs2 b3 false false false false false).bind (Sum.elim (fun t35 => ret t35.1) (fun t36 => (f40.l12 k k t36.1 (((List.length t36.1) : Nat) : Int) (0 : Int) t36.1 t36.2.1 t36.2.2.1 t36.2.2.2.1 t36.2.2.2.2.1 t36.2.2.2.2.2.1 t36.2.2.2.2.2.2.1 t36.2.2.2.2.2.2.2).bind (Sum.elim (fun t37 => ret t37) (fun t38 => ret true))))
      else
        ret false
    else
      ret false
def f40 (k : Nat) (xs1 : List S123) (xs2 : List Int) (b3 : Bool) : Option Bool := f40.step k some xs1 xs2 b3
def f40.w {R : Type} : Bool → (Res env → Option R) → Option R := fun t43 K => K ⟨.v (.c (.s (.bool t43))), [[]]⟩
theorem f40.wn (x : Bool) : ∃ res, ∀ {R : Type} (K : Res env → Option R), f40.w x K = K res := by
  exact ⟨_, fun _ => rfl⟩
def f40.hd (k : Nat) (ps_ : List (P2 env)) : Cl env :=
  gC Cl.no ps_ fun p_ ps_ => qG Cl.no p_ fun cs_ => gC Cl.no cs_ fun c_ cs_ => qSl Cl.no 123 c_ fun xs1 => gC Cl.no cs_ fun c_ cs_ => qSl Cl.no 3 c_ fun xs2 => gC Cl.no cs_ fun c_ cs_ => qS Cl.no c_ fun v_ => vB Cl.no v_ fun b3 => gE Cl.no cs_ <| gE Cl.no ps_ <| { α := Bool, o := f40 k xs1 xs2 b3, w := f40.w, nat := fun x _ => f40.wn x }
def f40.e (k : Nat) : Entry env := ⟨f40.hd k⟩
def f40.X (k : Nat) : Ctx env := { C := lookE [(83, f83.e k), (101, f101.e k)], L := lookE [(5, fun S => f40.l5.hd k S.ts S.m S.n), (12, fun S => f40.l12.hd k S.ts S.m S.n)], J := lookE [], keep := lookD [(5, [1, 3, 31, 32, 33]), (12, [1, 3, 53, 54, 55])], keepX := lookD [(5, [1, 2, 3]), (12, [2])], span := lookN [(5, 352), (12, 640)], eff := fun n => memN n [] }
theorem f40.l5.nat {R : Type} (k : Nat) (rec_ : (List Int) → Int → Int → (List S123) → (List Int) → Bool → Bool → Bool → Bool → Bool → Bool → Option ((Bool × (List S123) × (List Int) × Bool × Bool × Bool × Bool × Bool × Bool) ⊕ ((List S123) × (List Int) × Bool × Bool × Bool × Bool × Bool × Bool))) (g : ((Bool × (List S123) × (List Int) × Bool × Bool × Bool × Bool × Bool × Bool) ⊕ ((List S123) × (List Int) × Bool × Bool × Bool × Bool × Bool × Bool)) → Option R) (xs5 : List Int) (a6 : Int) (a7 : Int) (xs8 : List S123) (xs9 : List Int) (b10 : Bool) (b11 : Bool) (b12 : Bool) (b13 : Bool) (b14 : Bool) (b15 : Bool) : (f40.l5.step k rec_ some xs5 a6 a7 xs8 xs9 b10 b11 b12 b13 b14 b15).bind g = f40.l5.step k (fun xs5 a6 a7 xs8 xs9 b10 b11 b12 b13 b14 b15 => (rec_ xs5 a6 a7 xs8 xs9 b10 b11 b12 b13 b14 b15).bind g) g xs5 a6 a7 xs8 xs9 b10 b11 b12 b13 b14 b15 := by
  simp only [f40.l5.step, bind_ite, bind_sum, Option.bind_assoc, Option.bind_some, Option.bind_none]
theorem f40.l5.good (k : Nat) (xs5 : List Int) (a6 : Int) (a7 : Int) (xs8 : List S123) (xs9 : List Int) (b10 : Bool) (b11 : Bool) (b12 : Bool) (b13 : Bool) (b14 : Bool) (b15 : Bool) : GoodL (f40.X k) (nthC 0 (loopsOf (bodyOf Try.f40))) (f40.l5.st xs5 a6 a7 xs8 xs9 b10 b11 b12 b13 b14 b15) { α := ((Bool × (List S123) × (List Int) × Bool × Bool × Bool × Bool × Bool × Bool) ⊕ ((List S123) × (List Int) × Bool × Bool × Bool × Bool × Bool × Bool)), o := f40.l5 k k xs5 a6 a7 xs8 xs9 b10 b11 b12 b13 b14 b15, w := f40.l5.w } :=
  loop_good (ι := (List Int) × Int × Int × (List S123) × (List Int) × Bool × Bool × Bool × Bool × Bool × Bool) (α := ((Bool × (List S123) × (List Int) × Bool × Bool × Bool × Bool × Bool × Bool) ⊕ ((List S123) × (List Int) × Bool × Bool × Bool × Bool × Bool × Bool))) (fun i => f40.l5.st i.1 i.2.1 i.2.2.1 i.2.2.2.1 i.2.2.2.2.1 i.2.2.2.2.2.1 i.2.2.2.2.2.2.1 i.2.2.2.2.2.2.2.1 i.2.2.2.2.2.2.2.2.1 i.2.2.2.2.2.2.2.2.2.1 i.2.2.2.2.2.2.2.2.2.2) (fun j i => f40.l5 k j i.1 i.2.1 i.2.2.1 i.2.2.2.1 i.2.2.2.2.1 i.2.2.2.2.2.1 i.2.2.2.2.2.2.1 i.2.2.2.2.2.2.2.1 i.2.2.2.2.2.2.2.2.1 i.2.2.2.2.2.2.2.2.2.1 i.2.2.2.2.2.2.2.2.2.2) f40.l5.w (fun rec_ ret i => f40.l5.step k (fun xs5 a6 a7 xs8 xs9 b10 b11 b12 b13 b14 b15 => rec_ (xs5, a6, a7, xs8, xs9, b10, b11, b12, b13, b14, b15)) ret i.1 i.2.1 i.2.2.1 i.2.2.2.1 i.2.2.2.2.1 i.2.2.2.2.2.1 i.2.2.2.2.2.2.1 i.2.2.2.2.2.2.2.1 i.2.2.2.2.2.2.2.2.1 i.2.2.2.2.2.2.2.2.2.1 i.2.2.2.2.2.2.2.2.2.2)
    (fun _ => rfl) (fun _ _ => rfl) (fun rec_ g i => f40.l5.nat k _ g i.1 i.2.1 i.2.2.1 i.2.2.2.1 i.2.2.2.2.1 i.2.2.2.2.2.1 i.2.2.2.2.2.2.1 i.2.2.2.2.2.2.2.1 i.2.2.2.2.2.2.2.2.1 i.2.2.2.2.2.2.2.2.2.1 i.2.2.2.2.2.2.2.2.2.2) (fun {R} i0 i rec_ K => by kernel_rfl) k (xs5, a6, a7, xs8, xs9, b10, b11, b12, b13, b14, b15)
theorem f40.l5.all (k : Nat) (S : St env) : GoodL (f40.X k) (nthC 0 (loopsOf (bodyOf Try.f40))) S (f40.l5.hd k S.ts S.m S.n) := by
  obtain ⟨ts_, m_, n_⟩ := S
  show GoodL _ _ _ (f40.l5.hd k ts_ m_ n_)
  unfold f40.l5.hd
  refine gTs_ok (p := GoodL _ _ _) goodL_no fun _ h => ?_
  subst h
  refine gV_ok (p := GoodL _ _ _) goodL_no fun _ _ h => ?_
  subst h
  refine rBp_ok (p := GoodL _ _ _) goodL_no fun h => ?_
  subst h
  refine gV_ok (p := GoodL _ _ _) goodL_no fun _ _ h => ?_
  subst h
  refine rBp_ok (p := GoodL _ _ _) goodL_no fun h => ?_
  subst h
  refine gV_ok (p := GoodL _ _ _) goodL_no fun _ _ h => ?_
  subst h
  refine rImm_ok (p := GoodL _ _ _) goodL_no fun _ h => ?_
  subst h
  refine gV_ok (p := GoodL _ _ _) goodL_no fun _ _ h => ?_
  subst h
  refine rV_ok (p := GoodL _ _ _) goodL_no fun _ h => ?_
  subst h
  refine vI_ok (p := GoodL _ _ _) goodL_no fun _ h => ?_
  subst h
  refine gV_ok (p := GoodL _ _ _) goodL_no fun _ _ h => ?_
  subst h
  refine rV_ok (p := GoodL _ _ _) goodL_no fun _ h => ?_
  subst h
  refine vI_ok (p := GoodL _ _ _) goodL_no fun _ h => ?_
  subst h
  refine gE_ok (p := GoodL _ _ _) goodL_no fun h => ?_
  subst h
  refine mBox_ok (p := GoodL _ _ _) goodL_no fun _ _ h => ?_
  subst h
  refine gC_ok (p := GoodL _ _ _) goodL_no fun _ _ h => ?_
  subst h
  refine rImm_ok (p := GoodL _ _ _) goodL_no fun _ h => ?_
  subst h
  refine gC_ok (p := GoodL _ _ _) goodL_no fun _ _ h => ?_
  subst h
  refine rImm_ok (p := GoodL _ _ _) goodL_no fun _ h => ?_
  subst h
  refine gC_ok (p := GoodL _ _ _) goodL_no fun _ _ h => ?_
  subst h
  refine rV_ok (p := GoodL _ _ _) goodL_no fun _ h => ?_
  subst h
  refine vB_ok (p := GoodL _ _ _) goodL_no fun _ h => ?_
  subst h
  refine gE_ok (p := GoodL _ _ _) goodL_no fun h => ?_
  subst h
  refine mBox_ok (p := GoodL _ _ _) goodL_no fun _ _ h => ?_
  subst h
  refine gC_ok (p := GoodL _ _ _) goodL_no fun _ _ h => ?_
  subst h
  refine rV_ok (p := GoodL _ _ _) goodL_no fun _ h => ?_
  subst h
  refine vB_ok (p := GoodL _ _ _) goodL_no fun _ h => ?_
  subst h
  refine gC_ok (p := GoodL _ _ _) goodL_no fun _ _ h => ?_
  subst h
  refine rV_ok (p := GoodL _ _ _) goodL_no fun _ h => ?_
  subst h
  refine vB_ok (p := GoodL _ _ _) goodL_no fun _ h => ?_
  subst h
  refine gC_ok (p := GoodL _ _ _) goodL_no fun _ _ h => ?_
  subst h
  refine rV_ok (p := GoodL _ _ _) goodL_no fun _ h => ?_
  subst h
  refine vB_ok (p := GoodL _ _ _) goodL_no fun _ h => ?_
  subst h
  refine gC_ok (p := GoodL _ _ _) goodL_no fun _ _ h => ?_
  subst h
  refine rV_ok (p := GoodL _ _ _) goodL_no fun _ h => ?_
  subst h
  refine vB_ok (p := GoodL _ _ _) goodL_no fun _ h => ?_
  subst h
  refine gC_ok (p := GoodL _ _ _) goodL_no fun _ _ h => ?_
  subst h
  refine rV_ok (p := GoodL _ _ _) goodL_no fun _ h => ?_
  subst h
  refine vB_ok (p := GoodL _ _ _) goodL_no fun _ h => ?_
  subst h
  refine gE_ok (p := GoodL _ _ _) goodL_no fun h => ?_
  subst h
  refine gE_ok (p := GoodL _ _ _) goodL_no fun h => ?_
  subst h
  refine gN_ok (p := GoodL _ _ _) goodL_no fun h => ?_
  subst h
  exact f40.l5.good k _ _ _ _ _ _ _ _ _ _ _
theorem f40.l12.nat {R : Type} (k : Nat) (rec_ : (List S123) → Int → Int → (List S123) → (List Int) → Bool → Bool → Bool → Bool → Bool → Bool → Option (Bool ⊕ (Unit))) (g : (Bool ⊕ (Unit)) → Option R) (xs19 : List S123) (a20 : Int) (a21 : Int) (xs22 : List S123) (xs23 : List Int) (b24 : Bool) (b25 : Bool) (b26 : Bool) (b27 : Bool) (b28 : Bool) (b29 : Bool) : (f40.l12.step k rec_ some xs19 a20 a21 xs22 xs23 b24 b25 b26 b27 b28 b29).bind g = f40.l12.step k (fun xs19 a20 a21 xs22 xs23 b24 b25 b26 b27 b28 b29 => (rec_ xs19 a20 a21 xs22 xs23 b24 b25 b26 b27 b28 b29).bind g) g xs19 a20 a21 xs22 xs23 b24 b25 b26 b27 b28 b29 := by
  simp only [f40.l12.step, bind_ite, bind_sum, Option.bind_assoc, Option.bind_some, Option.bind_none]
theorem f40.l12.good (k : Nat) (xs19 : List S123) (a20 : Int) (a21 : Int) (xs22 : List S123) (xs23 : List Int) (b24 : Bool) (b25 : Bool) (b26 : Bool) (b27 : Bool) (b28 : Bool) (b29 : Bool) : GoodL (f40.X k) (nthC 1 (loopsOf (bodyOf Try.f40))) (f40.l12.st xs19 a20 a21 xs22 xs23 b24 b25 b26 b27 b28 b29) { α := (Bool ⊕ (Unit)), o := f40.l12 k k xs19 a20 a21 xs22 xs23 b24 b25 b26 b27 b28 b29, w := f40.l12.w } :=
  loop_good (ι := (List S123) × Int × Int × (List S123) × (List Int) × Bool × Bool × Bool × Bool × Bool × Bool) (α := (Bool ⊕ (Unit))) (fun i => f40.l12.st i.1 i.2.1 i.2.2.1 i.2.2.2.1 i.2.2.2.2.1 i.2.2.2.2.2.1 i.2.2.2.2.2.2.1 i.2.2.2.2.2.2.2.1 i.2.2.2.2.2.2.2.2.1 i.2.2.2.2.2.2.2.2.2.1 i.2.2.2.2.2.2.2.2.2.2) (fun j i => f40.l12 k j i.1 i.2.1 i.2.2.1 i.2.2.2.1 i.2.2.2.2.1 i.2.2.2.2.2.1 i.2.2.2.2.2.2.1 i.2.2.2.2.2.2.2.1 i.2.2.2.2.2.2.2.2.1 i.2.2.2.2.2.2.2.2.2.1 i.2.2.2.2.2.2.2.2.2.2) f40.l12.w (fun rec_ ret i => f40.l12.step k (fun xs19 a20 a21 xs22 xs23 b24 b25 b26 b27 b28 b29 => rec_ (xs19, a20, a21, xs22, xs23, b24, b25, b26, b27, b28, b29)) ret i.1 i.2.1 i.2.2.1 i.2.2.2.1 i.2.2.2.2.1 i.2.2.2.2.2.1 i.2.2.2.2.2.2.1 i.2.2.2.2.2.2.2.1 i.2.2.2.2.2.2.2.2.1 i.2.2.2.2.2.2.2.2.2.1 i.2.2.2.2.2.2.2.2.2.2)
    (fun _ => rfl) (fun _ _ => rfl) (fun rec_ g i => f40.l12.nat k _ g i.1 i.2.1 i.2.2.1 i.2.2.2.1 i.2.2.2.2.1 i.2.2.2.2.2.1 i.2.2.2.2.2.2.1 i.2.2.2.2.2.2.2.1 i.2.2.2.2.2.2.2.2.1 i.2.2.2.2.2.2.2.2.2.1 i.2.2.2.2.2.2.2.2.2.2) (fun {R} i0 i rec_ K => by kernel_rfl) k (xs19, a20, a21, xs22, xs23, b24, b25, b26, b27, b28, b29)
theorem f40.l12.all (k : Nat) (S : St env) : GoodL (f40.X k) (nthC 1 (loopsOf (bodyOf Try.f40))) S (f40.l12.hd k S.ts S.m S.n) := by
  obtain ⟨ts_, m_, n_⟩ := S
  show GoodL _ _ _ (f40.l12.hd k ts_ m_ n_)
  unfold f40.l12.hd
  refine gTs_ok (p := GoodL _ _ _) goodL_no fun _ h => ?_
  subst h
  refine gV_ok (p := GoodL _ _ _) goodL_no fun _ _ h => ?_
  subst h
  refine rBp_ok (p := GoodL _ _ _) goodL_no fun h => ?_
  subst h
  refine gV_ok (p := GoodL _ _ _) goodL_no fun _ _ h => ?_
  subst h
  refine rBp_ok (p := GoodL _ _ _) goodL_no fun h => ?_
  subst h
  refine gV_ok (p := GoodL _ _ _) goodL_no fun _ _ h => ?_
  subst h
  refine rImm_ok (p := GoodL _ _ _) goodL_no fun _ h => ?_
  subst h
  refine gV_ok (p := GoodL _ _ _) goodL_no fun _ _ h => ?_
  subst h
  refine rV_ok (p := GoodL _ _ _) goodL_no fun _ h => ?_
  subst h
  refine vI_ok (p := GoodL _ _ _) goodL_no fun _ h => ?_
  subst h
  refine gV_ok (p := GoodL _ _ _) goodL_no fun _ _ h => ?_
  subst h
  refine rV_ok (p := GoodL _ _ _) goodL_no fun _ h => ?_
  subst h
  refine vI_ok (p := GoodL _ _ _) goodL_no fun _ h => ?_
  subst h
  refine gE_ok (p := GoodL _ _ _) goodL_no fun h => ?_
  subst h
  refine mBox_ok (p := GoodL _ _ _) goodL_no fun _ _ h => ?_
  subst h
  refine gC_ok (p := GoodL _ _ _) goodL_no fun _ _ h => ?_
  subst h
  refine rImm_ok (p := GoodL _ _ _) goodL_no fun _ h => ?_
  subst h
  refine gC_ok (p := GoodL _ _ _) goodL_no fun _ _ h => ?_
  subst h
  refine rImm_ok (p := GoodL _ _ _) goodL_no fun _ h => ?_
  subst h
  refine gC_ok (p := GoodL _ _ _) goodL_no fun _ _ h => ?_
  subst h
  refine rV_ok (p := GoodL _ _ _) goodL_no fun _ h => ?_
  subst h
  refine vB_ok (p := GoodL _ _ _) goodL_no fun _ h => ?_
  subst h
  refine gE_ok (p := GoodL _ _ _) goodL_no fun h => ?_
  subst h
  refine mBox_ok (p := GoodL _ _ _) goodL_no fun _ _ h => ?_
  subst h
  refine gC_ok (p := GoodL _ _ _) goodL_no fun _ _ h => ?_
  subst h
  refine rV_ok (p := GoodL _ _ _) goodL_no fun _ h => ?_
  subst h
  refine vB_ok (p := GoodL _ _ _) goodL_no fun _ h => ?_
  subst h
  refine gC_ok (p := GoodL _ _ _) goodL_no fun _ _ h => ?_
  subst h
  refine rV_ok (p := GoodL _ _ _) goodL_no fun _ h => ?_
  subst h
  refine vB_ok (p := GoodL _ _ _) goodL_no fun _ h => ?_
  subst h
  refine gC_ok (p := GoodL _ _ _) goodL_no fun _ _ h => ?_
  subst h
  refine rV_ok (p := GoodL _ _ _) goodL_no fun _ h => ?_
  subst h
  refine vB_ok (p := GoodL _ _ _) goodL_no fun _ h => ?_
  subst h
  refine gC_ok (p := GoodL _ _ _) goodL_no fun _ _ h => ?_
  subst h
  refine rV_ok (p := GoodL _ _ _) goodL_no fun _ h => ?_
  subst h
  refine vB_ok (p := GoodL _ _ _) goodL_no fun _ h => ?_
  subst h
  refine gC_ok (p := GoodL _ _ _) goodL_no fun _ _ h => ?_
  subst h
  refine rV_ok (p := GoodL _ _ _) goodL_no fun _ h => ?_
  subst h
  refine vB_ok (p := GoodL _ _ _) goodL_no fun _ h => ?_
  subst h
  refine gE_ok (p := GoodL _ _ _) goodL_no fun h => ?_
  subst h
  refine gE_ok (p := GoodL _ _ _) goodL_no fun h => ?_
  subst h
  refine gN_ok (p := GoodL _ _ _) goodL_no fun h => ?_
  subst h
  exact f40.l12.good k _ _ _ _ _ _ _ _ _ _ _
theorem f40.nat {R : Type} (k : Nat) (g : Bool → Option R) (xs1 : List S123) (xs2 : List Int) (b3 : Bool) : f40.step k g xs1 xs2 b3 = (f40 k xs1 xs2 b3).bind g := by
  simp only [f40, f40.step, bind_ite, bind_sum, Option.bind_assoc, Option.bind_some, Option.bind_none]
theorem f40.ev (k : Nat) (xs1 : List S123) (xs2 : List Int) (b3 : Bool) : evF (f40.X k) (bodyOf Try.f40) Try.f40.ntmps Try.f40.results.toList [.g [.sl 123 xs1, .sl 3 xs2, .s (.bool b3)]] = f40.step k (fun x => f40.w x some) xs1 xs2 b3 := by kernel_rfl
theorem f40.hok (k : Nat) : HOK (f40.X k) (bodyOf Try.f40) where
  l := allP_mem (by exact ⟨ls_of (h0 := fun S => f40.l5.hd k S.ts S.m S.n) (by kernel_rfl) (f40.l5.all k), ls_of (h0 := fun S => f40.l12.hd k S.ts S.m S.n) (by kernel_rfl) (f40.l12.all k), trivial⟩)
  j := allP_mem (by exact trivial)
theorem f40.sound (k : Nat) : SoundC env Try.prog 40 (f40.e k).F := by
  intro ps_
  show GoodC _ _ _ ps_ (f40.hd k ps_)
  unfold f40.hd
  refine gC_ok (p := GoodC env Try.prog 40 _) goodC_no fun _ _ h => ?_
  subst h
  refine qG_ok (p := GoodC env Try.prog 40 _) goodC_no fun _ h => ?_
  subst h
  refine gC_ok (p := GoodC env Try.prog 40 _) goodC_no fun _ _ h => ?_
  subst h
  refine qSl_ok (p := GoodC env Try.prog 40 _) goodC_no fun _ h => ?_
  subst h
  refine gC_ok (p := GoodC env Try.prog 40 _) goodC_no fun _ _ h => ?_
  subst h
  refine qSl_ok (p := GoodC env Try.prog 40 _) goodC_no fun _ h => ?_
  subst h
  refine gC_ok (p := GoodC env Try.prog 40 _) goodC_no fun _ _ h => ?_
  subst h
  refine qS_ok (p := GoodC env Try.prog 40 _) goodC_no fun _ h => ?_
  subst h
  refine vB_ok (p := GoodC env Try.prog 40 _) goodC_no fun _ h => ?_
  subst h
  refine gE_ok (p := GoodC env Try.prog 40 _) goodC_no fun h => ?_
  subst h
  refine gE_ok (p := GoodC env Try.prog 40 _) goodC_no fun h => ?_
  subst h
  exact fun_good (fun_sound envOK (cs_sound _ (by exact ⟨⟨f83.sound k, f83.fnok⟩, ⟨f101.sound k, f101.fnok⟩, trivial⟩)) (f40.hok k) Try.func40 rfl) ((f40.ev k _ _ _).trans (f40.nat k _ _ _ _))
theorem f40.says (k : Nat) (xs1 : List S123) (xs2 : List Int) (b3 : Bool) (t44 : Bool) (h_ : f40 k xs1 xs2 b3 = some t44) : SoundAt env Try.prog 40 [.g [.sl 123 xs1, .sl 3 xs2, .s (.bool b3)]] ⟨.v (.c (.s (.bool t44))), [[]]⟩ :=
  fun_sound envOK (cs_sound _ (by exact ⟨⟨f83.sound k, f83.fnok⟩, ⟨f101.sound k, f101.fnok⟩, trivial⟩)) (f40.hok k) Try.func40 rfl _ _ (((f40.ev k xs1 xs2 b3).trans (f40.nat k _ xs1 xs2 b3)).trans (by rw [h_]; rfl))
theorem f40.fnok : FnOK Try.prog 40 := fn_ok Try.func40 (by kernel_rfl) rfl
def f202.step {R : Type} (k : Nat) (ret : Bool → Option R) (a1 : Int) (a2 : Int) (a3 : Int) (a4 : Int) : Option R :=
  if (decide (a1 ≠ a3)) = true then
    ret false
  else
    if (decide (a2 ≠ a4)) = true then
      ret false
    else
      ret true
def f202 (k : Nat) (a1 : Int) (a2 : Int) (a3 : Int) (a4 : Int) : Option Bool := f202.step k some a1 a2 a3 a4
def f202.w {R : Type} : Bool → (Res env → Option R) → Option R := fun t5 K => K ⟨.v (.c (.s (.bool t5))), [[], []]⟩
theorem f202.wn (x : Bool) : ∃ res, ∀ {R : Type} (K : Res env → Option R), f202.w x K = K res := by
  exact ⟨_, fun _ => rfl⟩
def f202.hd (k : Nat) (ps_ : List (P2 env)) : Cl env :=
  gC Cl.no ps_ fun p_ ps_ => qG Cl.no p_ fun cs_ => gC Cl.no cs_ fun c_ cs_ => qS Cl.no c_ fun v_ => vI Cl.no .i64 v_ fun a1 => gC Cl.no cs_ fun c_ cs_ => qS Cl.no c_ fun v_ => vI Cl.no .i64 v_ fun a2 => gE Cl.no cs_ <| gC Cl.no ps_ fun p_ ps_ => qG Cl.no p_ fun cs_ => gC Cl.no cs_ fun c_ cs_ => qS Cl.no c_ fun v_ => vI Cl.no .i64 v_ fun a3 => gC Cl.no cs_ fun c_ cs_ => qS Cl.no c_ fun v_ => vI Cl.no .i64 v_ fun a4 => gE Cl.no cs_ <| gE Cl.no ps_ <| { α := Bool, o := f202 k a1 a2 a3 a4, w := f202.w, nat := fun x _ => f202.wn x }
def f202.e (k : Nat) : Entry env := ⟨f202.hd k⟩
def f202.X (k : Nat) : Ctx env := { C := lookE [], L := lookE [], J := lookE [], keep := lookD [], keepX := lookD [], span := lookN [], eff := fun n => memN n [] }
theorem f202.nat {R : Type} (k : Nat) (g : Bool → Option R) (a1 : Int) (a2 : Int) (a3 : Int) (a4 : Int) : f202.step k g a1 a2 a3 a4 = (f202 k a1 a2 a3 a4).bind g := by
  simp only [f202, f202.step, bind_ite, bind_sum, Option.bind_assoc, Option.bind_some, Option.bind_none]
theorem f202.ev (k : Nat) (a1 : Int) (a2 : Int) (a3 : Int) (a4 : Int) : evF (f202.X k) (bodyOf Try.f202) Try.f202.ntmps Try.f202.results.toList [.g [.s (.int .i64 a1), .s (.int .i64 a2)], .g [.s (.int .i64 a3), .s (.int .i64 a4)]] = f202.step k (fun x => f202.w x some) a1 a2 a3 a4 := by kernel_rfl
theorem f202.hok (k : Nat) : HOK (f202.X k) (bodyOf Try.f202) where
  l := allP_mem (by exact trivial)
  j := allP_mem (by exact trivial)
theorem f202.sound (k : Nat) : SoundC env Try.prog 202 (f202.e k).F := by
  intro ps_
  show GoodC _ _ _ ps_ (f202.hd k ps_)
  unfold f202.hd
  refine gC_ok (p := GoodC env Try.prog 202 _) goodC_no fun _ _ h => ?_
  subst h
  refine qG_ok (p := GoodC env Try.prog 202 _) goodC_no fun _ h => ?_
  subst h
  refine gC_ok (p := GoodC env Try.prog 202 _) goodC_no fun _ _ h => ?_
  subst h
  refine qS_ok (p := GoodC env Try.prog 202 _) goodC_no fun _ h => ?_
  subst h
  refine vI_ok (p := GoodC env Try.prog 202 _) goodC_no fun _ h => ?_
  subst h
  refine gC_ok (p := GoodC env Try.prog 202 _) goodC_no fun _ _ h => ?_
  subst h
  refine qS_ok (p := GoodC env Try.prog 202 _) goodC_no fun _ h => ?_
  subst h
  refine vI_ok (p := GoodC env Try.prog 202 _) goodC_no fun _ h => ?_
  subst h
  refine gE_ok (p := GoodC env Try.prog 202 _) goodC_no fun h => ?_
  subst h
  refine gC_ok (p := GoodC env Try.prog 202 _) goodC_no fun _ _ h => ?_
  subst h
  refine qG_ok (p := GoodC env Try.prog 202 _) goodC_no fun _ h => ?_
  subst h
  refine gC_ok (p := GoodC env Try.prog 202 _) goodC_no fun _ _ h => ?_
  subst h
  refine qS_ok (p := GoodC env Try.prog 202 _) goodC_no fun _ h => ?_
  subst h
  refine vI_ok (p := GoodC env Try.prog 202 _) goodC_no fun _ h => ?_
  subst h
  refine gC_ok (p := GoodC env Try.prog 202 _) goodC_no fun _ _ h => ?_
  subst h
  refine qS_ok (p := GoodC env Try.prog 202 _) goodC_no fun _ h => ?_
  subst h
  refine vI_ok (p := GoodC env Try.prog 202 _) goodC_no fun _ h => ?_
  subst h
  refine gE_ok (p := GoodC env Try.prog 202 _) goodC_no fun h => ?_
  subst h
  refine gE_ok (p := GoodC env Try.prog 202 _) goodC_no fun h => ?_
  subst h
  exact fun_good (fun_sound envOK (cs_sound _ (by exact trivial)) (f202.hok k) Try.func202 rfl) ((f202.ev k _ _ _ _).trans (f202.nat k _ _ _ _ _))
theorem f202.says (k : Nat) (a1 : Int) (a2 : Int) (a3 : Int) (a4 : Int) (t6 : Bool) (h_ : f202 k a1 a2 a3 a4 = some t6) : SoundAt env Try.prog 202 [.g [.s (.int .i64 a1), .s (.int .i64 a2)], .g [.s (.int .i64 a3), .s (.int .i64 a4)]] ⟨.v (.c (.s (.bool t6))), [[], []]⟩ :=
  fun_sound envOK (cs_sound _ (by exact trivial)) (f202.hok k) Try.func202 rfl _ _ (((f202.ev k a1 a2 a3 a4).trans (f202.nat k _ a1 a2 a3 a4)).trans (by rw [h_]; rfl))
theorem f202.fnok : FnOK Try.prog 202 := fn_ok Try.func202 (by kernel_rfl) rfl
def f183.l4.step {R : Type} (k : Nat) (rec_ : (List S131) → (List S131) → Int → Option R) (ret : (Bool ⊕ (Unit)) → Option R) (xs3 : List S131) (xs4 : List S131) (a5 : Int) : Option R :=
  if (decide (a5 < (((List.length xs3) : Nat) : Int))) = true then
    if (0 : Int) ≤ a5 then
      if a5 < ((List.length xs3 : Nat) : Int) then
        if (0 : Int) ≤ a5 then
          if a5 < ((List.length xs4 : Nat) : Int) then
            (f202 k (List.getD xs3 (Int.toNat a5) (⟨(0 : Int), (0 : Int)⟩ : S131)).f0 (List.getD xs3 (Int.toNat a5) (⟨(0 : Int), (0 : Int)⟩ : S131)).f1 (List.getD xs4 (Int.toNat a5) (⟨(0 : Int), (0 : Int)⟩ : S131)).f0 (List.getD xs4 (Int.toNat a5) (⟨(0 : Int), (0 : Int)⟩ : S131)).f1).bind fun t6 => if (!t6) = true then
                ret (.inl false)
              else
                rec_ xs3 xs4 (IntKind.i64.wrap (a5 + (1 : Int)))
          else none
        else none
      else none
    else none
  else
    ret (.inr ())
def f183.l4 (k : Nat) : Nat → (List S131) → (List S131) → Int → Option (Bool ⊕ (Unit))
  | 0, _, _, _ => none
  | j + 1, xs3, xs4, a5 => f183.l4.step k (fun xs3 xs4 a5 => f183.l4 k j xs3 xs4 a5) some xs3 xs4 a5
def f183.l4.w {R : Type} : (Bool ⊕ (Unit)) → (Exit → St env → Option R) → Option R := fun x K => Sum.elim (fun t9 => K .ret ⟨fullT [4] 0 27 [.v (.c (.s (.bool t9)))], [], 402⟩) (fun t10 => K (.exit 0) ⟨fullT [] 0 27 [], [], 402⟩) x
def f183.l4.st (xs3 : List S131) (xs4 : List S131) (a5 : Int) : St env := ⟨fullT [0, 1, 5] 0 27 [.v (.c (.imm 131 xs3)), .v (.c (.imm 131 xs4)), .v (.c (.s (.int .i64 a5)))], [], 114⟩
def f183.l4.hd (k : Nat) (ts_ : List (AV env)) (mm_ : Mem env) (n_ : Nat) : LCl env :=
  gTs LCl.no [0, 1, 5] 27 ts_ fun l_ => gV LCl.no l_ fun a_ l_ => rImm LCl.no 131 a_ fun xs3 => gV LCl.no l_ fun a_ l_ => rImm LCl.no 131 a_ fun xs4 => gV LCl.no l_ fun a_ l_ => rV LCl.no a_ fun v_ => vI LCl.no .i64 v_ fun a5 => gE LCl.no l_ <| gE LCl.no mm_ <| gN LCl.no 114 n_ { α := Bool ⊕ (Unit), o := f183.l4 k k xs3 xs4 a5, w := f183.l4.w }
def f183.step {R : Type} (k : Nat) (ret : Bool → Option R) (xs1 : List S131) (xs2 : List S131) : Option R :=
  if (decide ((((List.length xs1) : Nat) : Int) ≠ (((List.length xs2) : Nat) : Int))) = true then
    ret false
  else
    (f183.l4 k k xs1 xs2 (0 : Int)).bind (Sum.elim (fun t7 => ret t7) (fun t8 => ret true))
def f183 (k : Nat) (xs1 : List S131) (xs2 : List S131) : Option Bool := f183.step k some xs1 xs2
def f183.w {R : Type} : Bool → (Res env → Option R) → Option R := fun t11 K => K ⟨.v (.c (.s (.bool t11))), [[], []]⟩
theorem f183.wn (x : Bool) : ∃ res, ∀ {R : Type} (K : Res env → Option R), f183.w x K = K res := by
  exact ⟨_, fun _ => rfl⟩
def f183.hd (k : Nat) (ps_ : List (P2 env)) : Cl env :=
  gC Cl.no ps_ fun p_ ps_ => qC Cl.no p_ fun c_ => qSl Cl.no 131 c_ fun xs1 => gC Cl.no ps_ fun p_ ps_ => qC Cl.no p_ fun c_ => qSl Cl.no 131 c_ fun xs2 => gE Cl.no ps_ <| { α := Bool, o := f183 k xs1 xs2, w := f183.w, nat := fun x _ => f183.wn x }
def f183.e (k : Nat) : Entry env := ⟨f183.hd k⟩
def f183.X (k : Nat) : Ctx env := { C := lookE [(202, f202.e k)], L := lookE [(4, fun S => f183.l4.hd k S.ts S.m S.n)], J := lookE [], keep := lookD [(4, [0, 1, 5])], keepX := lookD [(4, [4])], span := lookN [(4, 288)], eff := fun n => memN n [] }
theorem f183.l4.nat {R : Type} (k : Nat) (rec_ : (List S131) → (List S131) → Int → Option (Bool ⊕ (Unit))) (g : (Bool ⊕ (Unit)) → Option R) (xs3 : List S131) (xs4 : List S131) (a5 : Int) : (f183.l4.step k rec_ some xs3 xs4 a5).bind g = f183.l4.step k (fun xs3 xs4 a5 => (rec_ xs3 xs4 a5).bind g) g xs3 xs4 a5 := by
  simp only [f183.l4.step, bind_ite, bind_sum, Option.bind_assoc, Option.bind_some, Option.bind_none]
theorem f183.l4.good (k : Nat) (xs3 : List S131) (xs4 : List S131) (a5 : Int) : GoodL (f183.X k) (nthC 0 (loopsOf (bodyOf Try.f183))) (f183.l4.st xs3 xs4 a5) { α := (Bool ⊕ (Unit)), o := f183.l4 k k xs3 xs4 a5, w := f183.l4.w } :=
  loop_good (ι := (List S131) × (List S131) × Int) (α := (Bool ⊕ (Unit))) (fun i => f183.l4.st i.1 i.2.1 i.2.2) (fun j i => f183.l4 k j i.1 i.2.1 i.2.2) f183.l4.w (fun rec_ ret i => f183.l4.step k (fun xs3 xs4 a5 => rec_ (xs3, xs4, a5)) ret i.1 i.2.1 i.2.2)
    (fun _ => rfl) (fun _ _ => rfl) (fun rec_ g i => f183.l4.nat k _ g i.1 i.2.1 i.2.2) (fun {R} i0 i rec_ K => by kernel_rfl) k (xs3, xs4, a5)
theorem f183.l4.all (k : Nat) (S : St env) : GoodL (f183.X k) (nthC 0 (loopsOf (bodyOf Try.f183))) S (f183.l4.hd k S.ts S.m S.n) := by
  obtain ⟨ts_, m_, n_⟩ := S
  show GoodL _ _ _ (f183.l4.hd k ts_ m_ n_)
  unfold f183.l4.hd
  refine gTs_ok (p := GoodL _ _ _) goodL_no fun _ h => ?_
  subst h
  refine gV_ok (p := GoodL _ _ _) goodL_no fun _ _ h => ?_
  subst h
  refine rImm_ok (p := GoodL _ _ _) goodL_no fun _ h => ?_
  subst h
  refine gV_ok (p := GoodL _ _ _) goodL_no fun _ _ h => ?_
  subst h
  refine rImm_ok (p := GoodL _ _ _) goodL_no fun _ h => ?_
  subst h
  refine gV_ok (p := GoodL _ _ _) goodL_no fun _ _ h => ?_
  subst h
  refine rV_ok (p := GoodL _ _ _) goodL_no fun _ h => ?_
  subst h
  refine vI_ok (p := GoodL _ _ _) goodL_no fun _ h => ?_
  subst h
  refine gE_ok (p := GoodL _ _ _) goodL_no fun h => ?_
  subst h
  refine gE_ok (p := GoodL _ _ _) goodL_no fun h => ?_
  subst h
  refine gN_ok (p := GoodL _ _ _) goodL_no fun h => ?_
  subst h
  exact f183.l4.good k _ _ _
theorem f183.nat {R : Type} (k : Nat) (g : Bool → Option R) (xs1 : List S131) (xs2 : List S131) : f183.step k g xs1 xs2 = (f183 k xs1 xs2).bind g := by
  simp only [f183, f183.step, bind_ite, bind_sum, Option.bind_assoc, Option.bind_some, Option.bind_none]
theorem f183.ev (k : Nat) (xs1 : List S131) (xs2 : List S131) : evF (f183.X k) (bodyOf Try.f183) Try.f183.ntmps Try.f183.results.toList [.v (.c (.sl 131 xs1)), .v (.c (.sl 131 xs2))] = f183.step k (fun x => f183.w x some) xs1 xs2 := by kernel_rfl
theorem f183.hok (k : Nat) : HOK (f183.X k) (bodyOf Try.f183) where
  l := allP_mem (by exact ⟨ls_of (h0 := fun S => f183.l4.hd k S.ts S.m S.n) (by kernel_rfl) (f183.l4.all k), trivial⟩)
  j := allP_mem (by exact trivial)
theorem f183.sound (k : Nat) : SoundC env Try.prog 183 (f183.e k).F := by
  intro ps_
  show GoodC _ _ _ ps_ (f183.hd k ps_)
  unfold f183.hd
  refine gC_ok (p := GoodC env Try.prog 183 _) goodC_no fun _ _ h => ?_
  subst h
  refine qC_ok (p := GoodC env Try.prog 183 _) goodC_no fun _ h => ?_
  subst h
  refine qSl_ok (p := GoodC env Try.prog 183 _) goodC_no fun _ h => ?_
  subst h
  refine gC_ok (p := GoodC env Try.prog 183 _) goodC_no fun _ _ h => ?_
  subst h
  refine qC_ok (p := GoodC env Try.prog 183 _) goodC_no fun _ h => ?_
  subst h
  refine qSl_ok (p := GoodC env Try.prog 183 _) goodC_no fun _ h => ?_
  subst h
  refine gE_ok (p := GoodC env Try.prog 183 _) goodC_no fun h => ?_
  subst h
  exact fun_good (fun_sound envOK (cs_sound _ (by exact ⟨⟨f202.sound k, f202.fnok⟩, trivial⟩)) (f183.hok k) Try.func183 rfl) ((f183.ev k _ _).trans (f183.nat k _ _ _))
theorem f183.says (k : Nat) (xs1 : List S131) (xs2 : List S131) (t12 : Bool) (h_ : f183 k xs1 xs2 = some t12) : SoundAt env Try.prog 183 [.v (.c (.sl 131 xs1)), .v (.c (.sl 131 xs2))] ⟨.v (.c (.s (.bool t12))), [[], []]⟩ :=
  fun_sound envOK (cs_sound _ (by exact ⟨⟨f202.sound k, f202.fnok⟩, trivial⟩)) (f183.hok k) Try.func183 rfl _ _ (((f183.ev k xs1 xs2).trans (f183.nat k _ xs1 xs2)).trans (by rw [h_]; rfl))
theorem f183.fnok : FnOK Try.prog 183 := fn_ok Try.func183 (by kernel_rfl) rfl
def f147.step {R : Type} (k : Nat) (ret : Bool → Option R) (a1 : Int) (a2 : Int) (xs3 : List S131) (a4 : Int) (a5 : Int) (a6 : Int) (a7 : Int) (a8 : Int) (xs9 : List S131) (a10 : Int) (a11 : Int) (a12 : Int) : Option R :=
  if (decide (a1 ≠ a7)) = true then
    ret false
  else
    if (decide (a2 ≠ a8)) = true then
      ret false
    else
      (f183 k xs3 xs9).bind fun t13 => if (!t13) = true then
          ret false
        else
          if (decide (a4 ≠ a10)) = true then
            ret false
          else
            if (decide (a5 ≠ a11)) = true then
              ret false
            else
              if (decide (a6 ≠ a12)) = true then
                ret false
              else
                ret true
def f147 (k : Nat) (a1 : Int) (a2 : Int) (xs3 : List S131) (a4 : Int) (a5 : Int) (a6 : Int) (a7 : Int) (a8 : Int) (xs9 : List S131) (a10 : Int) (a11 : Int) (a12 : Int) : Option Bool := f147.step k some a1 a2 xs3 a4 a5 a6 a7 a8 xs9 a10 a11 a12
def f147.w {R : Type} : Bool → (Res env → Option R) → Option R := fun t14 K => K ⟨.v (.c (.s (.bool t14))), [[], []]⟩
theorem f147.wn (x : Bool) : ∃ res, ∀ {R : Type} (K : Res env → Option R), f147.w x K = K res := by
  exact ⟨_, fun _ => rfl⟩
def f147.hd (k : Nat) (ps_ : List (P2 env)) : Cl env :=
  gC Cl.no ps_ fun p_ ps_ => qG Cl.no p_ fun cs_ => gC Cl.no cs_ fun c_ cs_ => qS Cl.no c_ fun v_ => vI Cl.no .i64 v_ fun a1 => gC Cl.no cs_ fun c_ cs_ => qS Cl.no c_ fun v_ => vI Cl.no .i64 v_ fun a2 => gC Cl.no cs_ fun c_ cs_ => qSl Cl.no 131 c_ fun xs3 => gC Cl.no cs_ fun c_ cs_ => qS Cl.no c_ fun v_ => vI Cl.no .i64 v_ fun a4 => gC Cl.no cs_ fun c_ cs_ => qS Cl.no c_ fun v_ => vI Cl.no .i64 v_ fun a5 => gC Cl.no cs_ fun c_ cs_ => qS Cl.no c_ fun v_ => vI Cl.no .i64 v_ fun a6 => gE Cl.no cs_ <| gC Cl.no ps_ fun p_ ps_ => qG Cl.no p_ fun cs_ => gC Cl.no cs_ fun c_ cs_ => qS Cl.no c_ fun v_ => vI Cl.no .i64 v_ fun a7 => gC Cl.no cs_ fun c_ cs_ => qS Cl.no c_ fun v_ => vI Cl.no .i64 v_ fun a8 => gC Cl.no cs_ fun c_ cs_ => qSl Cl.no 131 c_ fun xs9 => gC Cl.no cs_ fun c_ cs_ => qS Cl.no c_ fun v_ => vI Cl.no .i64 v_ fun a10 => gC Cl.no cs_ fun c_ cs_ => qS Cl.no c_ fun v_ => vI Cl.no .i64 v_ fun a11 => gC Cl.no cs_ fun c_ cs_ => qS Cl.no c_ fun v_ => vI Cl.no .i64 v_ fun a12 => gE Cl.no cs_ <| gE Cl.no ps_ <| { α := Bool, o := f147 k a1 a2 xs3 a4 a5 a6 a7 a8 xs9 a10 a11 a12, w := f147.w, nat := fun x _ => f147.wn x }
def f147.e (k : Nat) : Entry env := ⟨f147.hd k⟩
def f147.X (k : Nat) : Ctx env := { C := lookE [(183, f183.e k)], L := lookE [], J := lookE [], keep := lookD [], keepX := lookD [], span := lookN [], eff := fun n => memN n [] }
theorem f147.nat {R : Type} (k : Nat) (g : Bool → Option R) (a1 : Int) (a2 : Int) (xs3 : List S131) (a4 : Int) (a5 : Int) (a6 : Int) (a7 : Int) (a8 : Int) (xs9 : List S131) (a10 : Int) (a11 : Int) (a12 : Int) : f147.step k g a1 a2 xs3 a4 a5 a6 a7 a8 xs9 a10 a11 a12 = (f147 k a1 a2 xs3 a4 a5 a6 a7 a8 xs9 a10 a11 a12).bind g := by
  simp only [f147, f147.step, bind_ite, bind_sum, Option.bind_assoc, Option.bind_some, Option.bind_none]
theorem f147.ev (k : Nat) (a1 : Int) (a2 : Int) (xs3 : List S131) (a4 : Int) (a5 : Int) (a6 : Int) (a7 : Int) (a8 : Int) (xs9 : List S131) (a10 : Int) (a11 : Int) (a12 : Int) : evF (f147.X k) (bodyOf Try.f147) Try.f147.ntmps Try.f147.results.toList [.g [.s (.int .i64 a1), .s (.int .i64 a2), .sl 131 xs3, .s (.int .i64 a4), .s (.int .i64 a5), .s (.int .i64 a6)], .g [.s (.int .i64 a7), .s (.int .i64 a8), .sl 131 xs9, .s (.int .i64 a10), .s (.int .i64 a11), .s (.int .i64 a12)]] = f147.step k (fun x => f147.w x some) a1 a2 xs3 a4 a5 a6 a7 a8 xs9 a10 a11 a12 := by kernel_rfl
theorem f147.hok (k : Nat) : HOK (f147.X k) (bodyOf Try.f147) where
  l := allP_mem (by exact trivial)
  j := allP_mem (by exact trivial)
theorem f147.sound (k : Nat) : SoundC env Try.prog 147 (f147.e k).F := by
  intro ps_
  show GoodC _ _ _ ps_ (f147.hd k ps_)
  unfold f147.hd
  refine gC_ok (p := GoodC env Try.prog 147 _) goodC_no fun _ _ h => ?_
  subst h
  refine qG_ok (p := GoodC env Try.prog 147 _) goodC_no fun _ h => ?_
  subst h
  refine gC_ok (p := GoodC env Try.prog 147 _) goodC_no fun _ _ h => ?_
  subst h
  refine qS_ok (p := GoodC env Try.prog 147 _) goodC_no fun _ h => ?_
  subst h
  refine vI_ok (p := GoodC env Try.prog 147 _) goodC_no fun _ h => ?_
  subst h
  refine gC_ok (p := GoodC env Try.prog 147 _) goodC_no fun _ _ h => ?_
  subst h
  refine qS_ok (p := GoodC env Try.prog 147 _) goodC_no fun _ h => ?_
  subst h
  refine vI_ok (p := GoodC env Try.prog 147 _) goodC_no fun _ h => ?_
  subst h
  refine gC_ok (p := GoodC env Try.prog 147 _) goodC_no fun _ _ h => ?_
  subst h
  refine qSl_ok (p := GoodC env Try.prog 147 _) goodC_no fun _ h => ?_
  subst h
  refine gC_ok (p := GoodC env Try.prog 147 _) goodC_no fun _ _ h => ?_
  subst h
  refine qS_ok (p := GoodC env Try.prog 147 _) goodC_no fun _ h => ?_
  subst h
  refine vI_ok (p := GoodC env Try.prog 147 _) goodC_no fun _ h => ?_
  subst h
  refine gC_ok (p := GoodC env Try.prog 147 _) goodC_no fun _ _ h => ?_
  subst h
  refine qS_ok (p := GoodC env Try.prog 147 _) goodC_no fun _ h => ?_
  subst h
  refine vI_ok (p := GoodC env Try.prog 147 _) goodC_no fun _ h => ?_
  subst h
  refine gC_ok (p := GoodC env Try.prog 147 _) goodC_no fun _ _ h => ?_
  subst h
  refine qS_ok (p := GoodC env Try.prog 147 _) goodC_no fun _ h => ?_
  subst h
  refine vI_ok (p := GoodC env Try.prog 147 _) goodC_no fun _ h => ?_
  subst h
  refine gE_ok (p := GoodC env Try.prog 147 _) goodC_no fun h => ?_
  subst h
  refine gC_ok (p := GoodC env Try.prog 147 _) goodC_no fun _ _ h => ?_
  subst h
  refine qG_ok (p := GoodC env Try.prog 147 _) goodC_no fun _ h => ?_
  subst h
  refine gC_ok (p := GoodC env Try.prog 147 _) goodC_no fun _ _ h => ?_
  subst h
  refine qS_ok (p := GoodC env Try.prog 147 _) goodC_no fun _ h => ?_
  subst h
  refine vI_ok (p := GoodC env Try.prog 147 _) goodC_no fun _ h => ?_
  subst h
  refine gC_ok (p := GoodC env Try.prog 147 _) goodC_no fun _ _ h => ?_
  subst h
  refine qS_ok (p := GoodC env Try.prog 147 _) goodC_no fun _ h => ?_
  subst h
  refine vI_ok (p := GoodC env Try.prog 147 _) goodC_no fun _ h => ?_
  subst h
  refine gC_ok (p := GoodC env Try.prog 147 _) goodC_no fun _ _ h => ?_
  subst h
  refine qSl_ok (p := GoodC env Try.prog 147 _) goodC_no fun _ h => ?_
  subst h
  refine gC_ok (p := GoodC env Try.prog 147 _) goodC_no fun _ _ h => ?_
  subst h
  refine qS_ok (p := GoodC env Try.prog 147 _) goodC_no fun _ h => ?_
  subst h
  refine vI_ok (p := GoodC env Try.prog 147 _) goodC_no fun _ h => ?_
  subst h
  refine gC_ok (p := GoodC env Try.prog 147 _) goodC_no fun _ _ h => ?_
  subst h
  refine qS_ok (p := GoodC env Try.prog 147 _) goodC_no fun _ h => ?_
  subst h
  refine vI_ok (p := GoodC env Try.prog 147 _) goodC_no fun _ h => ?_
  subst h
  refine gC_ok (p := GoodC env Try.prog 147 _) goodC_no fun _ _ h => ?_
  subst h
  refine qS_ok (p := GoodC env Try.prog 147 _) goodC_no fun _ h => ?_
  subst h
  refine vI_ok (p := GoodC env Try.prog 147 _) goodC_no fun _ h => ?_
  subst h
  refine gE_ok (p := GoodC env Try.prog 147 _) goodC_no fun h => ?_
  subst h
  refine gE_ok (p := GoodC env Try.prog 147 _) goodC_no fun h => ?_
  subst h
  exact fun_good (fun_sound envOK (cs_sound _ (by exact ⟨⟨f183.sound k, f183.fnok⟩, trivial⟩)) (f147.hok k) Try.func147 rfl) ((f147.ev k _ _ _ _ _ _ _ _ _ _ _ _).trans (f147.nat k _ _ _ _ _ _ _ _ _ _ _ _ _))
theorem f147.says (k : Nat) (a1 : Int) (a2 : Int) (xs3 : List S131) (a4 : Int) (a5 : Int) (a6 : Int) (a7 : Int) (a8 : Int) (xs9 : List S131) (a10 : Int) (a11 : Int) (a12 : Int) (t15 : Bool) (h_ : f147 k a1 a2 xs3 a4 a5 a6 a7 a8 xs9 a10 a11 a12 = some t15) : SoundAt env Try.prog 147 [.g [.s (.int .i64 a1), .s (.int .i64 a2), .sl 131 xs3, .s (.int .i64 a4), .s (.int .i64 a5), .s (.int .i64 a6)], .g [.s (.int .i64 a7), .s (.int .i64 a8), .sl 131 xs9, .s (.int .i64 a10), .s (.int .i64 a11), .s (.int .i64 a12)]] ⟨.v (.c (.s (.bool t15))), [[], []]⟩ :=
  fun_sound envOK (cs_sound _ (by exact ⟨⟨f183.sound k, f183.fnok⟩, trivial⟩)) (f147.hok k) Try.func147 rfl _ _ (((f147.ev k a1 a2 xs3 a4 a5 a6 a7 a8 xs9 a10 a11 a12).trans (f147.nat k _ a1 a2 xs3 a4 a5 a6 a7 a8 xs9 a10 a11 a12)).trans (by rw [h_]; rfl))
theorem f147.fnok : FnOK Try.prog 147 := fn_ok Try.func147 (by kernel_rfl) rfl
def f88.l4.step {R : Type} (k : Nat) (rec_ : (List S123) → (List S123) → Int → Option R) (ret : (Bool ⊕ (Unit)) → Option R) (xs3 : List S123) (xs4 : List S123) (a5 : Int) : Option R :=
  if (decide (a5 < (((List.length xs3) : Nat) : Int))) = true then
    if (0 : Int) ≤ a5 then
      if a5 < ((List.length xs3 : Nat) : Int) then
        if (0 : Int) ≤ a5 then
          if a5 < ((List.length xs4 : Nat) : Int) then
            (f147 k (List.getD xs3 (Int.toNat a5) (⟨(0 : Int), (0 : Int), [], (0 : Int), (0 : Int), (0 : Int)⟩ : S123)).f0 (List.getD xs3 (Int.toNat a5) (⟨(0 : Int), (0 : Int), [], (0 : Int), (0 : Int), (0 : Int)⟩ : S123)).f1 (List.getD xs3 (Int.toNat a5) (⟨(0 : Int), (0 : Int), [], (0 : Int), (0 : Int), (0 : Int)⟩ : S123)).f2 (List.getD xs3 (Int.toNat a5) (⟨(0 : Int), (0 : Int), [], (0 : Int), (0 : Int), (0 : Int)⟩ : S123)).f3 (List.getD xs3 (Int.toNat a5) (⟨(0 : Int), (0 : Int), [], (0 : Int), (0 : Int), (0 : Int)⟩ : S123)).f4 (List.getD xs3 (Int.toNat a5) (⟨(0 : Int), (0 : Int), [], (0 : Int), (0 : Int), (0 : Int)⟩ : S123)).f5 (List.getD xs4 (Int.toNat a5) (⟨(0 : Int), (0 : Int), [], (0 : Int), (0 : Int), (0 : Int)⟩ : S123)).f0 (List.getD xs4 (Int.toNat a5) (⟨(0 : Int), (0 : Int), [], (0 : Int), (0 : Int), (0 : Int)⟩ : S123)).f1 (List.getD xs4 (Int.toNat a5) (⟨(0 : Int), (0 : Int), [], (0 : Int), (0 : Int), (0 : Int)⟩ : S123)).f2 (List.getD xs4 (Int.toNat a5) (⟨(0 : Int), (0 : Int), [], (0 : Int), (0 : Int), (0 : Int)⟩ : S123)).f3 (List.getD xs4 (Int.toNat a5) (⟨(0 : Int), (0 : Int), [], (0 : Int), (0 : Int), (0 : Int)⟩ : S123)).f4 (List.getD xs4 (Int.toNat a5) (⟨(0 : Int), (0 : Int), [], (0 : Int), (0 : Int), (0 : Int)⟩ : S123)).f5).bind fun t6 => if (!t6) = true then
                ret (.inl false)
              else
                rec_ xs3 xs4 (IntKind.i64.wrap (a5 + (1 : Int)))
          else none
        else none
      else none
    else none
  else
    ret (.inr ())
def f88.l4 (k : Nat) : Nat → (List S123) → (List S123) → Int → Option (Bool ⊕ (Unit))
  | 0, _, _, _ => none
  | j + 1, xs3, xs4, a5 => f88.l4.step k (fun xs3 xs4 a5 => f88.l4 k j xs3 xs4 a5) some xs3 xs4 a5
def f88.l4.w {R : Type} : (Bool ⊕ (Unit)) → (Exit → St env → Option R) → Option R := fun x K => Sum.elim (fun t9 => K .ret ⟨fullT [4] 0 27 [.v (.c (.s (.bool t9)))], [], 402⟩) (fun t10 => K (.exit 0) ⟨fullT [] 0 27 [], [], 402⟩) x
def f88.l4.st (xs3 : List S123) (xs4 : List S123) (a5 : Int) : St env := ⟨fullT [0, 1, 5] 0 27 [.v (.c (.imm 123 xs3)), .v (.c (.imm 123 xs4)), .v (.c (.s (.int .i64 a5)))], [], 114⟩
def f88.l4.hd (k : Nat) (ts_ : List (AV env)) (mm_ : Mem env) (n_ : Nat) : LCl env :=
  gTs LCl.no [0, 1, 5] 27 ts_ fun l_ => gV LCl.no l_ fun a_ l_ => rImm LCl.no 123 a_ fun xs3 => gV LCl.no l_ fun a_ l_ => rImm LCl.no 123 a_ fun xs4 => gV LCl.no l_ fun a_ l_ => rV LCl.no a_ fun v_ => vI LCl.no .i64 v_ fun a5 => gE LCl.no l_ <| gE LCl.no mm_ <| gN LCl.no 114 n_ { α := Bool ⊕ (Unit), o := f88.l4 k k xs3 xs4 a5, w := f88.l4.w }
def f88.step {R : Type} (k : Nat) (ret : Bool → Option R) (xs1 : List S123) (xs2 : List S123) : Option R :=
  if (decide ((((List.length xs1) : Nat) : Int) ≠ (((List.length xs2) : Nat) : Int))) = true then
    ret false
  else
    (f88.l4 k k xs1 xs2 (0 : Int)).bind (Sum.elim (fun t7 => ret t7) (fun t8 => ret true))
def f88 (k : Nat) (xs1 : List S123) (xs2 : List S123) : Option Bool := f88.step k some xs1 xs2
def f88.w {R : Type} : Bool → (Res env → Option R) → Option R := fun t11 K => K ⟨.v (.c (.s (.bool t11))), [[], []]⟩
theorem f88.wn (x : Bool) : ∃ res, ∀ {R : Type} (K : Res env → Option R), f88.w x K = K res := by
  exact ⟨_, fun _ => rfl⟩
def f88.hd (k : Nat) (ps_ : List (P2 env)) : Cl env :=
  gC Cl.no ps_ fun p_ ps_ => qC Cl.no p_ fun c_ => qSl Cl.no 123 c_ fun xs1 => gC Cl.no ps_ fun p_ ps_ => qC Cl.no p_ fun c_ => qSl Cl.no 123 c_ fun xs2 => gE Cl.no ps_ <| { α := Bool, o := f88 k xs1 xs2, w := f88.w, nat := fun x _ => f88.wn x }
def f88.e (k : Nat) : Entry env := ⟨f88.hd k⟩
def f88.X (k : Nat) : Ctx env := { C := lookE [(147, f147.e k)], L := lookE [(4, fun S => f88.l4.hd k S.ts S.m S.n)], J := lookE [], keep := lookD [(4, [0, 1, 5])], keepX := lookD [(4, [4])], span := lookN [(4, 288)], eff := fun n => memN n [] }
theorem f88.l4.nat {R : Type} (k : Nat) (rec_ : (List S123) → (List S123) → Int → Option (Bool ⊕ (Unit))) (g : (Bool ⊕ (Unit)) → Option R) (xs3 : List S123) (xs4 : List S123) (a5 : Int) : (f88.l4.step k rec_ some xs3 xs4 a5).bind g = f88.l4.step k (fun xs3 xs4 a5 => (rec_ xs3 xs4 a5).bind g) g xs3 xs4 a5 := by
  simp only [f88.l4.step, bind_ite, bind_sum, Option.bind_assoc, Option.bind_some, Option.bind_none]
theorem f88.l4.good (k : Nat) (xs3 : List S123) (xs4 : List S123) (a5 : Int) : GoodL (f88.X k) (nthC 0 (loopsOf (bodyOf Try.f88))) (f88.l4.st xs3 xs4 a5) { α := (Bool ⊕ (Unit)), o := f88.l4 k k xs3 xs4 a5, w := f88.l4.w } :=
  loop_good (ι := (List S123) × (List S123) × Int) (α := (Bool ⊕ (Unit))) (fun i => f88.l4.st i.1 i.2.1 i.2.2) (fun j i => f88.l4 k j i.1 i.2.1 i.2.2) f88.l4.w (fun rec_ ret i => f88.l4.step k (fun xs3 xs4 a5 => rec_ (xs3, xs4, a5)) ret i.1 i.2.1 i.2.2)
    (fun _ => rfl) (fun _ _ => rfl) (fun rec_ g i => f88.l4.nat k _ g i.1 i.2.1 i.2.2) (fun {R} i0 i rec_ K => by kernel_rfl) k (xs3, xs4, a5)
theorem f88.l4.all (k : Nat) (S : St env) : GoodL (f88.X k) (nthC 0 (loopsOf (bodyOf Try.f88))) S (f88.l4.hd k S.ts S.m S.n) := by
  obtain ⟨ts_, m_, n_⟩ := S
  show GoodL _ _ _ (f88.l4.hd k ts_ m_ n_)
  unfold f88.l4.hd
  refine gTs_ok (p := GoodL _ _ _) goodL_no fun _ h => ?_
  subst h
  refine gV_ok (p := GoodL _ _ _) goodL_no fun _ _ h => ?_
  subst h
  refine rImm_ok (p := GoodL _ _ _) goodL_no fun _ h => ?_
  subst h
  refine gV_ok (p := GoodL _ _ _) goodL_no fun _ _ h => ?_
  subst h
  refine rImm_ok (p := GoodL _ _ _) goodL_no fun _ h => ?_
  subst h
  refine gV_ok (p := GoodL _ _ _) goodL_no fun _ _ h => ?_
  subst h
  refine rV_ok (p := GoodL _ _ _) goodL_no fun _ h => ?_
  subst h
  refine vI_ok (p := GoodL _ _ _) goodL_no fun _ h => ?_
  subst h
  refine gE_ok (p := GoodL _ _ _) goodL_no fun h => ?_
  subst h
  refine gE_ok (p := GoodL _ _ _) goodL_no fun h => ?_
  subst h
  refine gN_ok (p := GoodL _ _ _) goodL_no fun h => ?_
  subst h
  exact f88.l4.good k _ _ _
theorem f88.nat {R : Type} (k : Nat) (g : Bool → Option R) (xs1 : List S123) (xs2 : List S123) : f88.step k g xs1 xs2 = (f88 k xs1 xs2).bind g := by
  simp only [f88, f88.step, bind_ite, bind_sum, Option.bind_assoc, Option.bind_some, Option.bind_none]
theorem f88.ev (k : Nat) (xs1 : List S123) (xs2 : List S123) : evF (f88.X k) (bodyOf Try.f88) Try.f88.ntmps Try.f88.results.toList [.v (.c (.sl 123 xs1)), .v (.c (.sl 123 xs2))] = f88.step k (fun x => f88.w x some) xs1 xs2 := by kernel_rfl
theorem f88.hok (k : Nat) : HOK (f88.X k) (bodyOf Try.f88) where
  l := allP_mem (by exact ⟨ls_of (h0 := fun S => f88.l4.hd k S.ts S.m S.n) (by kernel_rfl) (f88.l4.all k), trivial⟩)
  j := allP_mem (by exact trivial)
theorem f88.sound (k : Nat) : SoundC env Try.prog 88 (f88.e k).F := by
  intro ps_
  show GoodC _ _ _ ps_ (f88.hd k ps_)
  unfold f88.hd
  refine gC_ok (p := GoodC env Try.prog 88 _) goodC_no fun _ _ h => ?_
  subst h
  refine qC_ok (p := GoodC env Try.prog 88 _) goodC_no fun _ h => ?_
  subst h
  refine qSl_ok (p := GoodC env Try.prog 88 _) goodC_no fun _ h => ?_
  subst h
  refine gC_ok (p := GoodC env Try.prog 88 _) goodC_no fun _ _ h => ?_
  subst h
  refine qC_ok (p := GoodC env Try.prog 88 _) goodC_no fun _ h => ?_
  subst h
  refine qSl_ok (p := GoodC env Try.prog 88 _) goodC_no fun _ h => ?_
  subst h
  refine gE_ok (p := GoodC env Try.prog 88 _) goodC_no fun h => ?_
  subst h
  exact fun_good (fun_sound envOK (cs_sound _ (by exact ⟨⟨f147.sound k, f147.fnok⟩, trivial⟩)) (f88.hok k) Try.func88 rfl) ((f88.ev k _ _).trans (f88.nat k _ _ _))
theorem f88.says (k : Nat) (xs1 : List S123) (xs2 : List S123) (t12 : Bool) (h_ : f88 k xs1 xs2 = some t12) : SoundAt env Try.prog 88 [.v (.c (.sl 123 xs1)), .v (.c (.sl 123 xs2))] ⟨.v (.c (.s (.bool t12))), [[], []]⟩ :=
  fun_sound envOK (cs_sound _ (by exact ⟨⟨f147.sound k, f147.fnok⟩, trivial⟩)) (f88.hok k) Try.func88 rfl _ _ (((f88.ev k xs1 xs2).trans (f88.nat k _ xs1 xs2)).trans (by rw [h_]; rfl))
theorem f88.fnok : FnOK Try.prog 88 := fn_ok Try.func88 (by kernel_rfl) rfl
def f25.l4.step {R : Type} (k : Nat) (rec_ : (List Int) → (List Int) → Int → Option R) (ret : (Bool ⊕ (Unit)) → Option R) (xs3 : List Int) (xs4 : List Int) (a5 : Int) : Option R :=
  if (decide (a5 < (((List.length xs3) : Nat) : Int))) = true then
    if (0 : Int) ≤ a5 then
      if a5 < ((List.length xs3 : Nat) : Int) then
        if (0 : Int) ≤ a5 then
          if a5 < ((List.length xs4 : Nat) : Int) then
            if (decide ((List.getD xs3 (Int.toNat a5) (0 : Int)) ≠ (List.getD xs4 (Int.toNat a5) (0 : Int)))) = true then
              ret (.inl false)
            else
              rec_ xs3 xs4 (IntKind.i64.wrap (a5 + (1 : Int)))
          else none
        else none
      else none
    else none
  else
    ret (.inr ())
def f25.l4 (k : Nat) : Nat → (List Int) → (List Int) → Int → Option (Bool ⊕ (Unit))
  | 0, _, _, _ => none
  | j + 1, xs3, xs4, a5 => f25.l4.step k (fun xs3 xs4 a5 => f25.l4 k j xs3 xs4 a5) some xs3 xs4 a5
def f25.l4.w {R : Type} : (Bool ⊕ (Unit)) → (Exit → St env → Option R) → Option R := fun x K => Sum.elim (fun t8 => K .ret ⟨fullT [4] 0 26 [.v (.c (.s (.bool t8)))], [], 386⟩) (fun t9 => K (.exit 0) ⟨fullT [] 0 26 [], [], 386⟩) x
def f25.l4.st (xs3 : List Int) (xs4 : List Int) (a5 : Int) : St env := ⟨fullT [0, 1, 5] 0 26 [.v (.c (.imm 3 xs3)), .v (.c (.imm 3 xs4)), .v (.c (.s (.int .i64 a5)))], [], 114⟩
def f25.l4.hd (k : Nat) (ts_ : List (AV env)) (mm_ : Mem env) (n_ : Nat) : LCl env :=
  gTs LCl.no [0, 1, 5] 26 ts_ fun l_ => gV LCl.no l_ fun a_ l_ => rImm LCl.no 3 a_ fun xs3 => gV LCl.no l_ fun a_ l_ => rImm LCl.no 3 a_ fun xs4 => gV LCl.no l_ fun a_ l_ => rV LCl.no a_ fun v_ => vI LCl.no .i64 v_ fun a5 => gE LCl.no l_ <| gE LCl.no mm_ <| gN LCl.no 114 n_ { α := Bool ⊕ (Unit), o := f25.l4 k k xs3 xs4 a5, w := f25.l4.w }
def f25.step {R : Type} (k : Nat) (ret : Bool → Option R) (xs1 : List Int) (xs2 : List Int) : Option R :=
  if (decide ((((List.length xs1) : Nat) : Int) ≠ (((List.length xs2) : Nat) : Int))) = true then
    ret false
  else
    (f25.l4 k k xs1 xs2 (0 : Int)).bind (Sum.elim (fun t6 => ret t6) (fun t7 => ret true))
def f25 (k : Nat) (xs1 : List Int) (xs2 : List Int) : Option Bool := f25.step k some xs1 xs2
def f25.w {R : Type} : Bool → (Res env → Option R) → Option R := fun t10 K => K ⟨.v (.c (.s (.bool t10))), [[], []]⟩
theorem f25.wn (x : Bool) : ∃ res, ∀ {R : Type} (K : Res env → Option R), f25.w x K = K res := by
  exact ⟨_, fun _ => rfl⟩
def f25.hd (k : Nat) (ps_ : List (P2 env)) : Cl env :=
  gC Cl.no ps_ fun p_ ps_ => qC Cl.no p_ fun c_ => qSl Cl.no 3 c_ fun xs1 => gC Cl.no ps_ fun p_ ps_ => qC Cl.no p_ fun c_ => qSl Cl.no 3 c_ fun xs2 => gE Cl.no ps_ <| { α := Bool, o := f25 k xs1 xs2, w := f25.w, nat := fun x _ => f25.wn x }
def f25.e (k : Nat) : Entry env := ⟨f25.hd k⟩
def f25.X (k : Nat) : Ctx env := { C := lookE [], L := lookE [(4, fun S => f25.l4.hd k S.ts S.m S.n)], J := lookE [], keep := lookD [(4, [0, 1, 5])], keepX := lookD [(4, [4])], span := lookN [(4, 272)], eff := fun n => memN n [] }
theorem f25.l4.nat {R : Type} (k : Nat) (rec_ : (List Int) → (List Int) → Int → Option (Bool ⊕ (Unit))) (g : (Bool ⊕ (Unit)) → Option R) (xs3 : List Int) (xs4 : List Int) (a5 : Int) : (f25.l4.step k rec_ some xs3 xs4 a5).bind g = f25.l4.step k (fun xs3 xs4 a5 => (rec_ xs3 xs4 a5).bind g) g xs3 xs4 a5 := by
  simp only [f25.l4.step, bind_ite, bind_sum, Option.bind_assoc, Option.bind_some, Option.bind_none]
theorem f25.l4.good (k : Nat) (xs3 : List Int) (xs4 : List Int) (a5 : Int) : GoodL (f25.X k) (nthC 0 (loopsOf (bodyOf Try.f25))) (f25.l4.st xs3 xs4 a5) { α := (Bool ⊕ (Unit)), o := f25.l4 k k xs3 xs4 a5, w := f25.l4.w } :=
  loop_good (ι := (List Int) × (List Int) × Int) (α := (Bool ⊕ (Unit))) (fun i => f25.l4.st i.1 i.2.1 i.2.2) (fun j i => f25.l4 k j i.1 i.2.1 i.2.2) f25.l4.w (fun rec_ ret i => f25.l4.step k (fun xs3 xs4 a5 => rec_ (xs3, xs4, a5)) ret i.1 i.2.1 i.2.2)
    (fun _ => rfl) (fun _ _ => rfl) (fun rec_ g i => f25.l4.nat k _ g i.1 i.2.1 i.2.2) (fun {R} i0 i rec_ K => by kernel_rfl) k (xs3, xs4, a5)
theorem f25.l4.all (k : Nat) (S : St env) : GoodL (f25.X k) (nthC 0 (loopsOf (bodyOf Try.f25))) S (f25.l4.hd k S.ts S.m S.n) := by
  obtain ⟨ts_, m_, n_⟩ := S
  show GoodL _ _ _ (f25.l4.hd k ts_ m_ n_)
  unfold f25.l4.hd
  refine gTs_ok (p := GoodL _ _ _) goodL_no fun _ h => ?_
  subst h
  refine gV_ok (p := GoodL _ _ _) goodL_no fun _ _ h => ?_
  subst h
  refine rImm_ok (p := GoodL _ _ _) goodL_no fun _ h => ?_
  subst h
  refine gV_ok (p := GoodL _ _ _) goodL_no fun _ _ h => ?_
  subst h
  refine rImm_ok (p := GoodL _ _ _) goodL_no fun _ h => ?_
  subst h
  refine gV_ok (p := GoodL _ _ _) goodL_no fun _ _ h => ?_
  subst h
  refine rV_ok (p := GoodL _ _ _) goodL_no fun _ h => ?_
  subst h
  refine vI_ok (p := GoodL _ _ _) goodL_no fun _ h => ?_
  subst h
  refine gE_ok (p := GoodL _ _ _) goodL_no fun h => ?_
  subst h
  refine gE_ok (p := GoodL _ _ _) goodL_no fun h => ?_
  subst h
  refine gN_ok (p := GoodL _ _ _) goodL_no fun h => ?_
  subst h
  exact f25.l4.good k _ _ _
theorem f25.nat {R : Type} (k : Nat) (g : Bool → Option R) (xs1 : List Int) (xs2 : List Int) : f25.step k g xs1 xs2 = (f25 k xs1 xs2).bind g := by
  simp only [f25, f25.step, bind_ite, bind_sum, Option.bind_assoc, Option.bind_some, Option.bind_none]
theorem f25.ev (k : Nat) (xs1 : List Int) (xs2 : List Int) : evF (f25.X k) (bodyOf Try.f25) Try.f25.ntmps Try.f25.results.toList [.v (.c (.sl 3 xs1)), .v (.c (.sl 3 xs2))] = f25.step k (fun x => f25.w x some) xs1 xs2 := by kernel_rfl
theorem f25.hok (k : Nat) : HOK (f25.X k) (bodyOf Try.f25) where
  l := allP_mem (by exact ⟨ls_of (h0 := fun S => f25.l4.hd k S.ts S.m S.n) (by kernel_rfl) (f25.l4.all k), trivial⟩)
  j := allP_mem (by exact trivial)
theorem f25.sound (k : Nat) : SoundC env Try.prog 25 (f25.e k).F := by
  intro ps_
  show GoodC _ _ _ ps_ (f25.hd k ps_)
  unfold f25.hd
  refine gC_ok (p := GoodC env Try.prog 25 _) goodC_no fun _ _ h => ?_
  subst h
  refine qC_ok (p := GoodC env Try.prog 25 _) goodC_no fun _ h => ?_
  subst h
  refine qSl_ok (p := GoodC env Try.prog 25 _) goodC_no fun _ h => ?_
  subst h
  refine gC_ok (p := GoodC env Try.prog 25 _) goodC_no fun _ _ h => ?_
  subst h
  refine qC_ok (p := GoodC env Try.prog 25 _) goodC_no fun _ h => ?_
  subst h
  refine qSl_ok (p := GoodC env Try.prog 25 _) goodC_no fun _ h => ?_
  subst h
  refine gE_ok (p := GoodC env Try.prog 25 _) goodC_no fun h => ?_
  subst h
  exact fun_good (fun_sound envOK (cs_sound _ (by exact trivial)) (f25.hok k) Try.func25 rfl) ((f25.ev k _ _).trans (f25.nat k _ _ _))
theorem f25.says (k : Nat) (xs1 : List Int) (xs2 : List Int) (t11 : Bool) (h_ : f25 k xs1 xs2 = some t11) : SoundAt env Try.prog 25 [.v (.c (.sl 3 xs1)), .v (.c (.sl 3 xs2))] ⟨.v (.c (.s (.bool t11))), [[], []]⟩ :=
  fun_sound envOK (cs_sound _ (by exact trivial)) (f25.hok k) Try.func25 rfl _ _ (((f25.ev k xs1 xs2).trans (f25.nat k _ xs1 xs2)).trans (by rw [h_]; rfl))
theorem f25.fnok : FnOK Try.prog 25 := fn_ok Try.func25 (by kernel_rfl) rfl
def f24.step {R : Type} (k : Nat) (ret : Bool → Option R) (xs1 : List S123) (xs2 : List Int) (b3 : Bool) (xs4 : List S123) (xs5 : List Int) (b6 : Bool) : Option R :=
  (f88 k xs1 xs4).bind fun t7 => if (!t7) = true then
      ret false
    else
      (f25 k xs2 xs5).bind fun t8 => if (!t8) = true then
          ret false
        else
          if (!(b3 == b6)) = true then
            ret false
          else
            ret true
def f24 (k : Nat) (xs1 : List S123) (xs2 : List Int) (b3 : Bool) (xs4 : List S123) (xs5 : List Int) (b6 : Bool) : Option Bool := f24.step k some xs1 xs2 b3 xs4 xs5 b6
def f24.w {R : Type} : Bool → (Res env → Option R) → Option R := fun t9 K => K ⟨.v (.c (.s (.bool t9))), [[], []]⟩
theorem f24.wn (x : Bool) : ∃ res, ∀ {R : Type} (K : Res env → Option R), f24.w x K = K res := by
  exact ⟨_, fun _ => rfl⟩
def f24.hd (k : Nat) (ps_ : List (P2 env)) : Cl env :=
  gC Cl.no ps_ fun p_ ps_ => qG Cl.no p_ fun cs_ => gC Cl.no cs_ fun c_ cs_ => qSl Cl.no 123 c_ fun xs1 => gC Cl.no cs_ fun c_ cs_ => qSl Cl.no 3 c_ fun xs2 => gC Cl.no cs_ fun c_ cs_ => qS Cl.no c_ fun v_ => vB Cl.no v_ fun b3 => gE Cl.no cs_ <| gC Cl.no ps_ fun p_ ps_ => qG Cl.no p_ fun cs_ => gC Cl.no cs_ fun c_ cs_ => qSl Cl.no 123 c_ fun xs4 => gC Cl.no cs_ fun c_ cs_ => qSl Cl.no 3 c_ fun xs5 => gC Cl.no cs_ fun c_ cs_ => qS Cl.no c_ fun v_ => vB Cl.no v_ fun b6 => gE Cl.no cs_ <| gE Cl.no ps_ <| { α := Bool, o := f24 k xs1 xs2 b3 xs4 xs5 b6, w := f24.w, nat := fun x _ => f24.wn x }
def f24.e (k : Nat) : Entry env := ⟨f24.hd k⟩
def f24.X (k : Nat) : Ctx env := { C := lookE [(25, f25.e k), (88, f88.e k)], L := lookE [], J := lookE [], keep := lookD [], keepX := lookD [], span := lookN [], eff := fun n => memN n [] }
theorem f24.nat {R : Type} (k : Nat) (g : Bool → Option R) (xs1 : List S123) (xs2 : List Int) (b3 : Bool) (xs4 : List S123) (xs5 : List Int) (b6 : Bool) : f24.step k g xs1 xs2 b3 xs4 xs5 b6 = (f24 k xs1 xs2 b3 xs4 xs5 b6).bind g := by
  simp only [f24, f24.step, bind_ite, bind_sum, Option.bind_assoc, Option.bind_some, Option.bind_none]
theorem f24.ev (k : Nat) (xs1 : List S123) (xs2 : List Int) (b3 : Bool) (xs4 : List S123) (xs5 : List Int) (b6 : Bool) : evF (f24.X k) (bodyOf Try.f24) Try.f24.ntmps Try.f24.results.toList [.g [.sl 123 xs1, .sl 3 xs2, .s (.bool b3)], .g [.sl 123 xs4, .sl 3 xs5, .s (.bool b6)]] = f24.step k (fun x => f24.w x some) xs1 xs2 b3 xs4 xs5 b6 := by kernel_rfl
theorem f24.hok (k : Nat) : HOK (f24.X k) (bodyOf Try.f24) where
  l := allP_mem (by exact trivial)
  j := allP_mem (by exact trivial)
theorem f24.sound (k : Nat) : SoundC env Try.prog 24 (f24.e k).F := by
  intro ps_
  show GoodC _ _ _ ps_ (f24.hd k ps_)
  unfold f24.hd
  refine gC_ok (p := GoodC env Try.prog 24 _) goodC_no fun _ _ h => ?_
  subst h
  refine qG_ok (p := GoodC env Try.prog 24 _) goodC_no fun _ h => ?_
  subst h
  refine gC_ok (p := GoodC env Try.prog 24 _) goodC_no fun _ _ h => ?_
  subst h
  refine qSl_ok (p := GoodC env Try.prog 24 _) goodC_no fun _ h => ?_
  subst h
  refine gC_ok (p := GoodC env Try.prog 24 _) goodC_no fun _ _ h => ?_
  subst h
  refine qSl_ok (p := GoodC env Try.prog 24 _) goodC_no fun _ h => ?_
  subst h
  refine gC_ok (p := GoodC env Try.prog 24 _) goodC_no fun _ _ h => ?_
  subst h
  refine qS_ok (p := GoodC env Try.prog 24 _) goodC_no fun _ h => ?_
  subst h
  refine vB_ok (p := GoodC env Try.prog 24 _) goodC_no fun _ h => ?_
  subst h
  refine gE_ok (p := GoodC env Try.prog 24 _) goodC_no fun h => ?_
  subst h
  refine gC_ok (p := GoodC env Try.prog 24 _) goodC_no fun _ _ h => ?_
  subst h
  refine qG_ok (p := GoodC env Try.prog 24 _) goodC_no fun _ h => ?_
  subst h
  refine gC_ok (p := GoodC env Try.prog 24 _) goodC_no fun _ _ h => ?_
  subst h
  refine qSl_ok (p := GoodC env Try.prog 24 _) goodC_no fun _ h => ?_
  subst h
  refine gC_ok (p := GoodC env Try.prog 24 _) goodC_no fun _ _ h => ?_
  subst h
  refine qSl_ok (p := GoodC env Try.prog 24 _) goodC_no fun _ h => ?_
  subst h
  refine gC_ok (p := GoodC env Try.prog 24 _) goodC_no fun _ _ h => ?_
  subst h
  refine qS_ok (p := GoodC env Try.prog 24 _) goodC_no fun _ h => ?_
  subst h
  refine vB_ok (p := GoodC env Try.prog 24 _) goodC_no fun _ h => ?_
  subst h
  refine gE_ok (p := GoodC env Try.prog 24 _) goodC_no fun h => ?_
  subst h
  refine gE_ok (p := GoodC env Try.prog 24 _) goodC_no fun h => ?_
  subst h
  exact fun_good (fun_sound envOK (cs_sound _ (by exact ⟨⟨f25.sound k, f25.fnok⟩, ⟨f88.sound k, f88.fnok⟩, trivial⟩)) (f24.hok k) Try.func24 rfl) ((f24.ev k _ _ _ _ _ _).trans (f24.nat k _ _ _ _ _ _ _))
theorem f24.says (k : Nat) (xs1 : List S123) (xs2 : List Int) (b3 : Bool) (xs4 : List S123) (xs5 : List Int) (b6 : Bool) (t10 : Bool) (h_ : f24 k xs1 xs2 b3 xs4 xs5 b6 = some t10) : SoundAt env Try.prog 24 [.g [.sl 123 xs1, .sl 3 xs2, .s (.bool b3)], .g [.sl 123 xs4, .sl 3 xs5, .s (.bool b6)]] ⟨.v (.c (.s (.bool t10))), [[], []]⟩ :=
  fun_sound envOK (cs_sound _ (by exact ⟨⟨f25.sound k, f25.fnok⟩, ⟨f88.sound k, f88.fnok⟩, trivial⟩)) (f24.hok k) Try.func24 rfl _ _ (((f24.ev k xs1 xs2 b3 xs4 xs5 b6).trans (f24.nat k _ xs1 xs2 b3 xs4 xs5 b6)).trans (by rw [h_]; rfl))
theorem f24.fnok : FnOK Try.prog 24 := fn_ok Try.func24 (by kernel_rfl) rfl
def f6.step {R : Type} (k : Nat) (ret : Bool → Option R) (xs1 : List S189) (xs2 : List Int) (b3 : Bool) : Option R :=
  (f37 k xs1 xs2 b3 (1048576 : Int)).bind fun t4 => if (decide (t4 < (0 : Int))) = true then
      ret true
    else
      (f39 k xs1 xs2 b3).bind fun t5 => (f38 k t5.1 t5.2.1 t5.2.2).bind fun t6 => (f39 k xs1 xs2 b3).bind fun t7 => (f40 k t7.1 t7.2.1 t7.2.2).bind fun t8 => if (!(t8 == t6)) = true then
                ret false
              else
                (f39 k xs1 xs2 b3).bind fun t9 => (f24 k t7.1 t7.2.1 t7.2.2 t9.1 t9.2.1 t9.2.2).bind fun t10 => if (!t10) = true then
                      ret false
                    else
                      ret true
def f6 (k : Nat) (xs1 : List S189) (xs2 : List Int) (b3 : Bool) : Option Bool := f6.step k some xs1 xs2 b3
def f6.w {R : Type} : Bool → (Res env → Option R) → Option R := fun t11 K => K ⟨.v (.c (.s (.bool t11))), [[]]⟩
theorem f6.wn (x : Bool) : ∃ res, ∀ {R : Type} (K : Res env → Option R), f6.w x K = K res := by
  exact ⟨_, fun _ => rfl⟩
def f6.hd (k : Nat) (ps_ : List (P2 env)) : Cl env :=
  gC Cl.no ps_ fun p_ ps_ => qG Cl.no p_ fun cs_ => gC Cl.no cs_ fun c_ cs_ => qSl Cl.no 189 c_ fun xs1 => gC Cl.no cs_ fun c_ cs_ => qSl Cl.no 3 c_ fun xs2 => gC Cl.no cs_ fun c_ cs_ => qS Cl.no c_ fun v_ => vB Cl.no v_ fun b3 => gE Cl.no cs_ <| gE Cl.no ps_ <| { α := Bool, o := f6 k xs1 xs2 b3, w := f6.w, nat := fun x _ => f6.wn x }
def f6.e (k : Nat) : Entry env := ⟨f6.hd k⟩
def f6.X (k : Nat) : Ctx env := { C := lookE [(24, f24.e k), (37, f37.e k), (38, f38.e k), (39, f39.e k), (40, f40.e k)], L := lookE [], J := lookE [], keep := lookD [], keepX := lookD [], span := lookN [], eff := fun n => memN n [10] }
theorem f6.nat {R : Type} (k : Nat) (g : Bool → Option R) (xs1 : List S189) (xs2 : List Int) (b3 : Bool) : f6.step k g xs1 xs2 b3 = (f6 k xs1 xs2 b3).bind g := by
  simp only [f6, f6.step, bind_ite, bind_sum, Option.bind_assoc, Option.bind_some, Option.bind_none]
theorem f6.ev (k : Nat) (xs1 : List S189) (xs2 : List Int) (b3 : Bool) : evF (f6.X k) (bodyOf Try.f6) Try.f6.ntmps Try.f6.results.toList [.g [.sl 189 xs1, .sl 3 xs2, .s (.bool b3)]] = f6.step k (fun x => f6.w x some) xs1 xs2 b3 := by kernel_rfl
theorem f6.hok (k : Nat) : HOK (f6.X k) (bodyOf Try.f6) where
  l := allP_mem (by exact trivial)
  j := allP_mem (by exact trivial)
theorem f6.sound (k : Nat) : SoundC env Try.prog 6 (f6.e k).F := by
  intro ps_
  show GoodC _ _ _ ps_ (f6.hd k ps_)
  unfold f6.hd
  refine gC_ok (p := GoodC env Try.prog 6 _) goodC_no fun _ _ h => ?_
  subst h
  refine qG_ok (p := GoodC env Try.prog 6 _) goodC_no fun _ h => ?_
  subst h
  refine gC_ok (p := GoodC env Try.prog 6 _) goodC_no fun _ _ h => ?_
  subst h
  refine qSl_ok (p := GoodC env Try.prog 6 _) goodC_no fun _ h => ?_
  subst h
  refine gC_ok (p := GoodC env Try.prog 6 _) goodC_no fun _ _ h => ?_
  subst h
  refine qSl_ok (p := GoodC env Try.prog 6 _) goodC_no fun _ h => ?_
  subst h
  refine gC_ok (p := GoodC env Try.prog 6 _) goodC_no fun _ _ h => ?_
  subst h
  refine qS_ok (p := GoodC env Try.prog 6 _) goodC_no fun _ h => ?_
  subst h
  refine vB_ok (p := GoodC env Try.prog 6 _) goodC_no fun _ h => ?_
  subst h
  refine gE_ok (p := GoodC env Try.prog 6 _) goodC_no fun h => ?_
  subst h
  refine gE_ok (p := GoodC env Try.prog 6 _) goodC_no fun h => ?_
  subst h
  exact fun_good (fun_sound envOK (cs_sound _ (by exact ⟨⟨f24.sound k, f24.fnok⟩, ⟨f37.sound k, f37.fnok⟩, ⟨f38.sound k, f38.fnok⟩, ⟨f39.sound k, f39.fnok⟩, ⟨f40.sound k, f40.fnok⟩, trivial⟩)) (f6.hok k) Try.func6 rfl) ((f6.ev k _ _ _).trans (f6.nat k _ _ _ _))
theorem f6.says (k : Nat) (xs1 : List S189) (xs2 : List Int) (b3 : Bool) (t12 : Bool) (h_ : f6 k xs1 xs2 b3 = some t12) : SoundAt env Try.prog 6 [.g [.sl 189 xs1, .sl 3 xs2, .s (.bool b3)]] ⟨.v (.c (.s (.bool t12))), [[]]⟩ :=
  fun_sound envOK (cs_sound _ (by exact ⟨⟨f24.sound k, f24.fnok⟩, ⟨f37.sound k, f37.fnok⟩, ⟨f38.sound k, f38.fnok⟩, ⟨f39.sound k, f39.fnok⟩, ⟨f40.sound k, f40.fnok⟩, trivial⟩)) (f6.hok k) Try.func6 rfl _ _ (((f6.ev k xs1 xs2 b3).trans (f6.nat k _ xs1 xs2 b3)).trans (by rw [h_]; rfl))
theorem f6.fnok : FnOK Try.prog 6 := fn_ok Try.func6 (by kernel_rfl) rfl
end Go.Proofs.Ytildepkogbcdpaa.B

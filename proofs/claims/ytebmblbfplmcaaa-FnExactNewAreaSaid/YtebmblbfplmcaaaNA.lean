/- Written by a program of this session. -/
import Derived.Test.YtebmblbfplmcaaaBEnv
import Derived.Test.YtebmblbfplmcaaaBHd
namespace Go.Proofs.Ytebmblbfplmcaaa.B
open Go Go.B
set_option linter.unusedVariables false
set_option linter.unusedSimpArgs false
def f24.step {R : Type} (k : Nat) (ret : Int → Option R) (xs1 : List S100) (a2 : Int) : Option R :=
  if (decide ((IntKind.i64.wrap (a2 - (((List.length xs1) : Nat) : Int))) < (0 : Int))) = true then
    ret (-1 : Int)
  else
    ret (IntKind.i64.wrap (a2 - (((List.length xs1) : Nat) : Int)))
def f24 (k : Nat) (xs1 : List S100) (a2 : Int) : Option Int := f24.step k some xs1 a2
def f24.w {R : Type} : Int → (Res env → Option R) → Option R := fun t3 K => K ⟨.v (.c (.s (.int .i64 t3))), [[], []]⟩
theorem f24.wn (x : Int) : ∃ res, ∀ {R : Type} (K : Res env → Option R), f24.w x K = K res := by
  exact ⟨_, fun _ => rfl⟩
def f24.hd (k : Nat) (ps_ : List (P2 env)) : Cl env :=
  gC Cl.no ps_ fun p_ ps_ => qC Cl.no p_ fun c_ => qSl Cl.no 100 c_ fun xs1 => gC Cl.no ps_ fun p_ ps_ => qC Cl.no p_ fun c_ => qS Cl.no c_ fun v_ => vI Cl.no .i64 v_ fun a2 => gE Cl.no ps_ <| { α := Int, o := f24 k xs1 a2, w := f24.w, nat := fun x _ => f24.wn x }
def f24.e (k : Nat) : Entry env := ⟨fun ps => f24.hd k (coer [[.rd 100], [.no]] ps), [], []⟩
def f24.X (k : Nat) : Ctx env := { C := lookE [], L := lookE [], J := lookE [], keep := lookD [], keepX := lookD [], span := lookN [], eff := fun n => memN n [], prep := lookP [], np := 0 }
theorem f24.nat {R : Type} (k : Nat) (g : Int → Option R) (xs1 : List S100) (a2 : Int) : f24.step k g xs1 a2 = (f24 k xs1 a2).bind g := by
  simp only [f24, f24.step, bind_ite, bind_sum, Option.bind_assoc, Option.bind_some, Option.bind_none]
theorem f24.ev (k : Nat) (xs1 : List S100) (a2 : Int) : evF (f24.X k) (bodyOf Try.f24) Try.f24.ntmps Try.f24.results.toList [.v (.c (.sl 100 xs1)), .v (.c (.s (.int .i64 a2)))] = f24.step k (fun x => f24.w x some) xs1 a2 := by kernel_rfl
theorem f24.hok (k : Nat) : HOK (f24.X k) (bodyOf Try.f24) where
  l := allP_mem (by exact trivial)
  j := allP_mem (by exact trivial)
theorem f24.sound0 (k : Nat) : SoundC env Try.prog 24 (f24.hd k) := by
  intro ps_
  show GoodC _ _ _ ps_ (f24.hd k ps_)
  unfold f24.hd
  refine gC_ok (p := GoodC env Try.prog 24 _) goodC_no fun _ _ h => ?_
  subst h
  refine qC_ok (p := GoodC env Try.prog 24 _) goodC_no fun _ h => ?_
  subst h
  refine qSl_ok (p := GoodC env Try.prog 24 _) goodC_no fun _ h => ?_
  subst h
  refine gC_ok (p := GoodC env Try.prog 24 _) goodC_no fun _ _ h => ?_
  subst h
  refine qC_ok (p := GoodC env Try.prog 24 _) goodC_no fun _ h => ?_
  subst h
  refine qS_ok (p := GoodC env Try.prog 24 _) goodC_no fun _ h => ?_
  subst h
  refine vI_ok (p := GoodC env Try.prog 24 _) goodC_no fun _ h => ?_
  subst h
  refine gE_ok (p := GoodC env Try.prog 24 _) goodC_no fun h => ?_
  subst h
  exact fun_good (fun_sound envOK (cs_sound _ (by exact trivial)) (f24.hok k) Try.func24 rfl) ((f24.ev k _ _).trans (f24.nat k _ _ _))
theorem f24.sound (k : Nat) : SoundC env Try.prog 24 (f24.e k).F := soundC_coer (f24.sound0 k) [[.rd 100], [.no]]
theorem f24.says (k : Nat) (xs1 : List S100) (a2 : Int) (t4 : Int) (h_ : f24 k xs1 a2 = some t4) : SoundAt env Try.prog 24 [.v (.c (.sl 100 xs1)), .v (.c (.s (.int .i64 a2)))] ⟨.v (.c (.s (.int .i64 t4))), [[], []]⟩ :=
  fun_sound envOK (cs_sound _ (by exact trivial)) (f24.hok k) Try.func24 rfl _ _ (((f24.ev k xs1 a2).trans (f24.nat k _ xs1 a2)).trans (by rw [h_]; rfl))
theorem f24.fnok : FnOK Try.prog 24 := fn_ok Try.func24 (by kernel_rfl) rfl
def f67.step {R : Type} (k : Nat) (ret : (Int × Int × Int × Bool) → Option R) (a1 : Int) (a2 : Int) (a3 : Int) (b4 : Bool) : Option R :=
  ret (a1, a2, a3, b4)
def f67 (k : Nat) (a1 : Int) (a2 : Int) (a3 : Int) (b4 : Bool) : Option (Int × Int × Int × Bool) := f67.step k some a1 a2 a3 b4
def f67.w {R : Type} : (Int × Int × Int × Bool) → (Res env → Option R) → Option R := fun t5 K => K ⟨.v (.g [.s (.int .i64 t5.1), .s (.int .i64 t5.2.1), .s (.int .i64 t5.2.2.1), .s (.bool t5.2.2.2)]), [[]]⟩
theorem f67.wn (x : (Int × Int × Int × Bool)) : ∃ res, ∀ {R : Type} (K : Res env → Option R), f67.w x K = K res := by
  exact ⟨_, fun _ => rfl⟩
def f67.hd (k : Nat) (ps_ : List (P2 env)) : Cl env :=
  gC Cl.no ps_ fun p_ ps_ => qG Cl.no p_ fun cs_ => gC Cl.no cs_ fun c_ cs_ => qS Cl.no c_ fun v_ => vI Cl.no .i64 v_ fun a1 => gC Cl.no cs_ fun c_ cs_ => qS Cl.no c_ fun v_ => vI Cl.no .i64 v_ fun a2 => gC Cl.no cs_ fun c_ cs_ => qS Cl.no c_ fun v_ => vI Cl.no .i64 v_ fun a3 => gC Cl.no cs_ fun c_ cs_ => qS Cl.no c_ fun v_ => vB Cl.no v_ fun b4 => gE Cl.no cs_ <| gE Cl.no ps_ <| { α := Int × Int × Int × Bool, o := f67 k a1 a2 a3 b4, w := f67.w, nat := fun x _ => f67.wn x }
def f67.e (k : Nat) : Entry env := ⟨f67.hd k, [], []⟩
def f67.X (k : Nat) : Ctx env := { C := lookE [], L := lookE [], J := lookE [], keep := lookD [], keepX := lookD [], span := lookN [], eff := fun n => memN n [], prep := lookP [], np := 0 }
theorem f67.nat {R : Type} (k : Nat) (g : (Int × Int × Int × Bool) → Option R) (a1 : Int) (a2 : Int) (a3 : Int) (b4 : Bool) : f67.step k g a1 a2 a3 b4 = (f67 k a1 a2 a3 b4).bind g := by
  simp only [f67, f67.step, bind_ite, bind_sum, Option.bind_assoc, Option.bind_some, Option.bind_none]
theorem f67.ev (k : Nat) (a1 : Int) (a2 : Int) (a3 : Int) (b4 : Bool) : evF (f67.X k) (bodyOf Try.f67) Try.f67.ntmps Try.f67.results.toList [.g [.s (.int .i64 a1), .s (.int .i64 a2), .s (.int .i64 a3), .s (.bool b4)]] = f67.step k (fun x => f67.w x some) a1 a2 a3 b4 := by kernel_rfl
theorem f67.hok (k : Nat) : HOK (f67.X k) (bodyOf Try.f67) where
  l := allP_mem (by exact trivial)
  j := allP_mem (by exact trivial)
theorem f67.sound (k : Nat) : SoundC env Try.prog 67 ((f67.e k).F) := by
  intro ps_
  show GoodC _ _ _ ps_ (f67.hd k ps_)
  unfold f67.hd
  refine gC_ok (p := GoodC env Try.prog 67 _) goodC_no fun _ _ h => ?_
  subst h
  refine qG_ok (p := GoodC env Try.prog 67 _) goodC_no fun _ h => ?_
  subst h
  refine gC_ok (p := GoodC env Try.prog 67 _) goodC_no fun _ _ h => ?_
  subst h
  refine qS_ok (p := GoodC env Try.prog 67 _) goodC_no fun _ h => ?_
  subst h
  refine vI_ok (p := GoodC env Try.prog 67 _) goodC_no fun _ h => ?_
  subst h
  refine gC_ok (p := GoodC env Try.prog 67 _) goodC_no fun _ _ h => ?_
  subst h
  refine qS_ok (p := GoodC env Try.prog 67 _) goodC_no fun _ h => ?_
  subst h
  refine vI_ok (p := GoodC env Try.prog 67 _) goodC_no fun _ h => ?_
  subst h
  refine gC_ok (p := GoodC env Try.prog 67 _) goodC_no fun _ _ h => ?_
  subst h
  refine qS_ok (p := GoodC env Try.prog 67 _) goodC_no fun _ h => ?_
  subst h
  refine vI_ok (p := GoodC env Try.prog 67 _) goodC_no fun _ h => ?_
  subst h
  refine gC_ok (p := GoodC env Try.prog 67 _) goodC_no fun _ _ h => ?_
  subst h
  refine qS_ok (p := GoodC env Try.prog 67 _) goodC_no fun _ h => ?_
  subst h
  refine vB_ok (p := GoodC env Try.prog 67 _) goodC_no fun _ h => ?_
  subst h
  refine gE_ok (p := GoodC env Try.prog 67 _) goodC_no fun h => ?_
  subst h
  refine gE_ok (p := GoodC env Try.prog 67 _) goodC_no fun h => ?_
  subst h
  exact fun_good (fun_sound envOK (cs_sound _ (by exact trivial)) (f67.hok k) Try.func67 rfl) ((f67.ev k _ _ _ _).trans (f67.nat k _ _ _ _ _))
theorem f67.says (k : Nat) (a1 : Int) (a2 : Int) (a3 : Int) (b4 : Bool) (t6 : Int × Int × Int × Bool) (h_ : f67 k a1 a2 a3 b4 = some t6) : SoundAt env Try.prog 67 [.g [.s (.int .i64 a1), .s (.int .i64 a2), .s (.int .i64 a3), .s (.bool b4)]] ⟨.v (.g [.s (.int .i64 t6.1), .s (.int .i64 t6.2.1), .s (.int .i64 t6.2.2.1), .s (.bool t6.2.2.2)]), [[]]⟩ :=
  fun_sound envOK (cs_sound _ (by exact trivial)) (f67.hok k) Try.func67 rfl _ _ (((f67.ev k a1 a2 a3 b4).trans (f67.nat k _ a1 a2 a3 b4)).trans (by rw [h_]; rfl))
theorem f67.fnok : FnOK Try.prog 67 := fn_ok Try.func67 (by kernel_rfl) rfl
def f26.l3.step {R : Type} (k : Nat) (rec_ : (List S100) → Int → (List S98) → Option R) (ret : ((List S98)) → Option R) (xs2 : List S100) (a3 : Int) (xs4 : List S98) : Option R :=
  if (decide (a3 < (((List.length xs2) : Nat) : Int))) = true then
    if (0 : Int) ≤ a3 then
      if a3 < ((List.length xs2 : Nat) : Int) then
        (f67 k (List.getD xs2 (Int.toNat a3) (⟨(0 : Int), (0 : Int), (0 : Int), false⟩ : S100)).f0 (List.getD xs2 (Int.toNat a3) (⟨(0 : Int), (0 : Int), (0 : Int), false⟩ : S100)).f1 (List.getD xs2 (Int.toNat a3) (⟨(0 : Int), (0 : Int), (0 : Int), false⟩ : S100)).f2 (List.getD xs2 (Int.toNat a3) (⟨(0 : Int), (0 : Int), (0 : Int), false⟩ : S100)).f3).bind fun t5 => if (0 : Int) ≤ a3 then
            if a3 < ((List.length xs4 : Nat) : Int) then
              rec_ xs2 (IntKind.i64.wrap (a3 + (1 : Int))) (List.set xs4 (Int.toNat a3) (⟨t5.1, t5.2.1, t5.2.2.1, t5.2.2.2⟩ : S98))
            else none
          else none
      else none
    else none
  else
    ret xs4
def f26.l3 (k : Nat) : Nat → (List S100) → Int → (List S98) → Option ((List S98))
  | 0, _, _, _ => none
  | j + 1, xs2, a3, xs4 => f26.l3.step k (fun xs2 a3 xs4 => f26.l3 k j xs2 a3 xs4) some xs2 a3 xs4
def f26.l3.w {R : Type} : ((List S98)) → (Exit → St env → Option R) → Option R := fun t7 K => K (.exit 0) ⟨fullT [3] 0 23 [.v (.c (.row 49))], [(49, .row true 98 t7)], 353⟩
def f26.l3.st (xs2 : List S100) (a3 : Int) (xs4 : List S98) : St env := ⟨fullT [0, 3, 4] 0 23 [.v (.c (.imm 100 xs2)), .v (.c (.row 49)), .v (.c (.s (.int .i64 a3)))], [(49, .row true 98 xs4)], 97⟩
def f26.l3.hd (k : Nat) (ts_ : List (AV env)) (mm_ : Mem env) (n_ : Nat) : LCl env :=
  gTs LCl.no [0, 3, 4] 23 ts_ fun l_ => gV LCl.no l_ fun a_ l_ => rImm LCl.no 100 a_ fun xs2 => gV LCl.no l_ fun a_ l_ => rRow LCl.no 49 a_ <| gV LCl.no l_ fun a_ l_ => rV LCl.no a_ fun v_ => vI LCl.no .i64 v_ fun a3 => gE LCl.no l_ <| mRow LCl.no 49 true 98 mm_ fun xs4 m_ => gE LCl.no m_ <| gN LCl.no 97 n_ { α := (List S98), o := f26.l3 k k xs2 a3 xs4, w := f26.l3.w }
def f26.step {R : Type} (k : Nat) (ret : ((List S98)) → Option R) (xs1 : List S100) : Option R :=
  if (0 : Int) ≤ (((List.length xs1) : Nat) : Int) then
    if (Int.toNat (((List.length xs1) : Nat) : Int)) * 32 ≤ maxN then
      (f26.l3 k k xs1 (0 : Int) (List.replicate (Int.toNat (((List.length xs1) : Nat) : Int)) (⟨(0 : Int), (0 : Int), (0 : Int), false⟩ : S98))).bind fun t6 => ret t6
    else none
  else none
def f26 (k : Nat) (xs1 : List S100) : Option ((List S98)) := f26.step k some xs1
def f26.w {R : Type} : ((List S98)) → (Res env → Option R) → Option R := fun t8 K => K ⟨.v (.c (.own true 98 t8)), [[]]⟩
theorem f26.wn (x : ((List S98))) : ∃ res, ∀ {R : Type} (K : Res env → Option R), f26.w x K = K res := by
  exact ⟨_, fun _ => rfl⟩
def f26.hd (k : Nat) (ps_ : List (P2 env)) : Cl env :=
  gC Cl.no ps_ fun p_ ps_ => qC Cl.no p_ fun c_ => qSl Cl.no 100 c_ fun xs1 => gE Cl.no ps_ <| { α := (List S98), o := f26 k xs1, w := f26.w, nat := fun x _ => f26.wn x }
def f26.e (k : Nat) : Entry env := ⟨fun ps => f26.hd k (coer [[.rd 100]] ps), [], []⟩
def f26.X (k : Nat) : Ctx env := { C := lookE [(67, f67.e k)], L := lookE [(3, fun S => f26.l3.hd k S.ts S.m S.n)], J := lookE [], keep := lookD [(3, [0, 3, 4])], keepX := lookD [(3, [3])], span := lookN [(3, 256)], eff := fun n => memN n [], prep := lookP [], np := 0 }
theorem f26.l3.nat {R : Type} (k : Nat) (rec_ : (List S100) → Int → (List S98) → Option ((List S98))) (g : ((List S98)) → Option R) (xs2 : List S100) (a3 : Int) (xs4 : List S98) : (f26.l3.step k rec_ some xs2 a3 xs4).bind g = f26.l3.step k (fun xs2 a3 xs4 => (rec_ xs2 a3 xs4).bind g) g xs2 a3 xs4 := by
  simp only [f26.l3.step, bind_ite, bind_sum, Option.bind_assoc, Option.bind_some, Option.bind_none]
theorem f26.l3.good (k : Nat) (xs2 : List S100) (a3 : Int) (xs4 : List S98) : GoodL (f26.X k) (nthC 0 (loopsOf (bodyOf Try.f26))) (f26.l3.st xs2 a3 xs4) { α := ((List S98)), o := f26.l3 k k xs2 a3 xs4, w := f26.l3.w } :=
  loop_good (ι := (List S100) × Int × (List S98)) (α := ((List S98))) (fun i => f26.l3.st i.1 i.2.1 i.2.2) (fun j i => f26.l3 k j i.1 i.2.1 i.2.2) f26.l3.w (fun rec_ ret i => f26.l3.step k (fun xs2 a3 xs4 => rec_ (xs2, a3, xs4)) ret i.1 i.2.1 i.2.2)
    (fun _ => rfl) (fun _ _ => rfl) (fun rec_ g i => f26.l3.nat k _ g i.1 i.2.1 i.2.2) (fun {R} i0 i rec_ K => by kernel_rfl) k (xs2, a3, xs4)
theorem f26.l3.all (k : Nat) (S : St env) : GoodL (f26.X k) (nthC 0 (loopsOf (bodyOf Try.f26))) S (f26.l3.hd k S.ts S.m S.n) := by
  obtain ⟨ts_, m_, n_⟩ := S
  show GoodL _ _ _ (f26.l3.hd k ts_ m_ n_)
  unfold f26.l3.hd
  refine gTs_ok (p := GoodL _ _ _) goodL_no fun _ h => ?_
  subst h
  refine gV_ok (p := GoodL _ _ _) goodL_no fun _ _ h => ?_
  subst h
  refine rImm_ok (p := GoodL _ _ _) goodL_no fun _ h => ?_
  subst h
  refine gV_ok (p := GoodL _ _ _) goodL_no fun _ _ h => ?_
  subst h
  refine rRow_ok (p := GoodL _ _ _) goodL_no fun h => ?_
  subst h
  refine gV_ok (p := GoodL _ _ _) goodL_no fun _ _ h => ?_
  subst h
  refine rV_ok (p := GoodL _ _ _) goodL_no fun _ h => ?_
  subst h
  refine vI_ok (p := GoodL _ _ _) goodL_no fun _ h => ?_
  subst h
  refine gE_ok (p := GoodL _ _ _) goodL_no fun h => ?_
  subst h
  refine mRow_ok (p := GoodL _ _ _) goodL_no fun _ _ h => ?_
  subst h
  refine gE_ok (p := GoodL _ _ _) goodL_no fun h => ?_
  subst h
  refine gN_ok (p := GoodL _ _ _) goodL_no fun h => ?_
  subst h
  exact f26.l3.good k _ _ _
theorem f26.nat {R : Type} (k : Nat) (g : ((List S98)) → Option R) (xs1 : List S100) : f26.step k g xs1 = (f26 k xs1).bind g := by
  simp only [f26, f26.step, bind_ite, bind_sum, Option.bind_assoc, Option.bind_some, Option.bind_none]
theorem f26.ev (k : Nat) (xs1 : List S100) : evF (f26.X k) (bodyOf Try.f26) Try.f26.ntmps Try.f26.results.toList [.v (.c (.sl 100 xs1))] = f26.step k (fun x => f26.w x some) xs1 := by kernel_rfl
theorem f26.hok (k : Nat) : HOK (f26.X k) (bodyOf Try.f26) where
  l := allP_mem (by exact ⟨ls_of (h0 := fun S => f26.l3.hd k S.ts S.m S.n) (by kernel_rfl) (f26.l3.all k), trivial⟩)
  j := allP_mem (by exact trivial)
theorem f26.sound0 (k : Nat) : SoundC env Try.prog 26 (f26.hd k) := by
  intro ps_
  show GoodC _ _ _ ps_ (f26.hd k ps_)
  unfold f26.hd
  refine gC_ok (p := GoodC env Try.prog 26 _) goodC_no fun _ _ h => ?_
  subst h
  refine qC_ok (p := GoodC env Try.prog 26 _) goodC_no fun _ h => ?_
  subst h
  refine qSl_ok (p := GoodC env Try.prog 26 _) goodC_no fun _ h => ?_
  subst h
  refine gE_ok (p := GoodC env Try.prog 26 _) goodC_no fun h => ?_
  subst h
  exact fun_good (fun_sound envOK (cs_sound _ (by exact ⟨⟨f67.sound k, f67.fnok⟩, trivial⟩)) (f26.hok k) Try.func26 rfl) ((f26.ev k _).trans (f26.nat k _ _))
theorem f26.sound (k : Nat) : SoundC env Try.prog 26 (f26.e k).F := soundC_coer (f26.sound0 k) [[.rd 100]]
theorem f26.says (k : Nat) (xs1 : List S100) (t9 : (List S98)) (h_ : f26 k xs1 = some t9) : SoundAt env Try.prog 26 [.v (.c (.sl 100 xs1))] ⟨.v (.c (.own true 98 t9)), [[]]⟩ :=
  fun_sound envOK (cs_sound _ (by exact ⟨⟨f67.sound k, f67.fnok⟩, trivial⟩)) (f26.hok k) Try.func26 rfl _ _ (((f26.ev k xs1).trans (f26.nat k _ xs1)).trans (by rw [h_]; rfl))
theorem f26.fnok : FnOK Try.prog 26 := fn_ok Try.func26 (by kernel_rfl) rfl
def f40.step {R : Type} (k : Nat) (ret : Bool → Option R) (a1 : Int) (a2 : Int) (a3 : Int) : Option R :=
  if (decide (a1 ≥ a2)) = true then
    ret (decide (a1 ≤ a3))
  else
    ret false
def f40 (k : Nat) (a1 : Int) (a2 : Int) (a3 : Int) : Option Bool := f40.step k some a1 a2 a3
def f40.w {R : Type} : Bool → (Res env → Option R) → Option R := fun t4 K => K ⟨.v (.c (.s (.bool t4))), [[], [], []]⟩
theorem f40.wn (x : Bool) : ∃ res, ∀ {R : Type} (K : Res env → Option R), f40.w x K = K res := by
  exact ⟨_, fun _ => rfl⟩
def f40.hd (k : Nat) (ps_ : List (P2 env)) : Cl env :=
  gC Cl.no ps_ fun p_ ps_ => qC Cl.no p_ fun c_ => qS Cl.no c_ fun v_ => vI Cl.no .i64 v_ fun a1 => gC Cl.no ps_ fun p_ ps_ => qC Cl.no p_ fun c_ => qS Cl.no c_ fun v_ => vI Cl.no .i64 v_ fun a2 => gC Cl.no ps_ fun p_ ps_ => qC Cl.no p_ fun c_ => qS Cl.no c_ fun v_ => vI Cl.no .i64 v_ fun a3 => gE Cl.no ps_ <| { α := Bool, o := f40 k a1 a2 a3, w := f40.w, nat := fun x _ => f40.wn x }
def f40.e (k : Nat) : Entry env := ⟨f40.hd k, [], []⟩
def f40.X (k : Nat) : Ctx env := { C := lookE [], L := lookE [], J := lookE [], keep := lookD [], keepX := lookD [], span := lookN [], eff := fun n => memN n [], prep := lookP [], np := 0 }
theorem f40.nat {R : Type} (k : Nat) (g : Bool → Option R) (a1 : Int) (a2 : Int) (a3 : Int) : f40.step k g a1 a2 a3 = (f40 k a1 a2 a3).bind g := by
  simp only [f40, f40.step, bind_ite, bind_sum, Option.bind_assoc, Option.bind_some, Option.bind_none]
theorem f40.ev (k : Nat) (a1 : Int) (a2 : Int) (a3 : Int) : evF (f40.X k) (bodyOf Try.f40) Try.f40.ntmps Try.f40.results.toList [.v (.c (.s (.int .i64 a1))), .v (.c (.s (.int .i64 a2))), .v (.c (.s (.int .i64 a3)))] = f40.step k (fun x => f40.w x some) a1 a2 a3 := by kernel_rfl
theorem f40.hok (k : Nat) : HOK (f40.X k) (bodyOf Try.f40) where
  l := allP_mem (by exact trivial)
  j := allP_mem (by exact trivial)
theorem f40.sound (k : Nat) : SoundC env Try.prog 40 ((f40.e k).F) := by
  intro ps_
  show GoodC _ _ _ ps_ (f40.hd k ps_)
  unfold f40.hd
  refine gC_ok (p := GoodC env Try.prog 40 _) goodC_no fun _ _ h => ?_
  subst h
  refine qC_ok (p := GoodC env Try.prog 40 _) goodC_no fun _ h => ?_
  subst h
  refine qS_ok (p := GoodC env Try.prog 40 _) goodC_no fun _ h => ?_
  subst h
  refine vI_ok (p := GoodC env Try.prog 40 _) goodC_no fun _ h => ?_
  subst h
  refine gC_ok (p := GoodC env Try.prog 40 _) goodC_no fun _ _ h => ?_
  subst h
  refine qC_ok (p := GoodC env Try.prog 40 _) goodC_no fun _ h => ?_
  subst h
  refine qS_ok (p := GoodC env Try.prog 40 _) goodC_no fun _ h => ?_
  subst h
  refine vI_ok (p := GoodC env Try.prog 40 _) goodC_no fun _ h => ?_
  subst h
  refine gC_ok (p := GoodC env Try.prog 40 _) goodC_no fun _ _ h => ?_
  subst h
  refine qC_ok (p := GoodC env Try.prog 40 _) goodC_no fun _ h => ?_
  subst h
  refine qS_ok (p := GoodC env Try.prog 40 _) goodC_no fun _ h => ?_
  subst h
  refine vI_ok (p := GoodC env Try.prog 40 _) goodC_no fun _ h => ?_
  subst h
  refine gE_ok (p := GoodC env Try.prog 40 _) goodC_no fun h => ?_
  subst h
  exact fun_good (fun_sound envOK (cs_sound _ (by exact trivial)) (f40.hok k) Try.func40 rfl) ((f40.ev k _ _ _).trans (f40.nat k _ _ _ _))
theorem f40.says (k : Nat) (a1 : Int) (a2 : Int) (a3 : Int) (t5 : Bool) (h_ : f40 k a1 a2 a3 = some t5) : SoundAt env Try.prog 40 [.v (.c (.s (.int .i64 a1))), .v (.c (.s (.int .i64 a2))), .v (.c (.s (.int .i64 a3)))] ⟨.v (.c (.s (.bool t5))), [[], [], []]⟩ :=
  fun_sound envOK (cs_sound _ (by exact trivial)) (f40.hok k) Try.func40 rfl _ _ (((f40.ev k a1 a2 a3).trans (f40.nat k _ a1 a2 a3)).trans (by rw [h_]; rfl))
theorem f40.fnok : FnOK Try.prog 40 := fn_ok Try.func40 (by kernel_rfl) rfl
def f97.l2.step {R : Type} (k : Nat) (rec_ : (List S98) → Int → Int → Int → Option R) (ret : (Int ⊕ (Unit)) → Option R) (xs4 : List S98) (a5 : Int) (a6 : Int) (a7 : Int) : Option R :=
  if (decide (a7 < (((List.length xs4) : Nat) : Int))) = true then
    if (0 : Int) ≤ a7 then
      if a7 < ((List.length xs4 : Nat) : Int) then
        if (decide ((List.getD xs4 (Int.toNat a7) (⟨(0 : Int), (0 : Int), (0 : Int), false⟩ : S98)).f0 = a5)) = true then
          if (0 : Int) ≤ a7 then
            if a7 < ((List.length xs4 : Nat) : Int) then
              if (decide ((List.getD xs4 (Int.toNat a7) (⟨(0 : Int), (0 : Int), (0 : Int), false⟩ : S98)).f1 = a6)) = false then
                if (0 : Int) ≤ a7 then
                  if a7 < ((List.length xs4 : Nat) : Int) then
                    if (decide ((List.getD xs4 (Int.toNat a7) (⟨(0 : Int), (0 : Int), (0 : Int), false⟩ : S98)).f0 = a6)) = true then
                      if (0 : Int) ≤ a7 then
                        if a7 < ((List.length xs4 : Nat) : Int) then
                          if (decide ((List.getD xs4 (Int.toNat a7) (⟨(0 : Int), (0 : Int), (0 : Int), false⟩ : S98)).f1 = a5)) = true then
                            ret (.inl a7)
                          else
                            rec_ xs4 a5 a6 (IntKind.i64.wrap (a7 + (1 : Int)))
                        else none
                      else none
                    else
                      rec_ xs4 a5 a6 (IntKind.i64.wrap (a7 + (1 : Int)))
                  else none
                else none
              else
                ret (.inl a7)
            else none
          else none
        else
          if (0 : Int) ≤ a7 then
            if a7 < ((List.length xs4 : Nat) : Int) then
              if (decide ((List.getD xs4 (Int.toNat a7) (⟨(0 : Int), (0 : Int), (0 : Int), false⟩ : S98)).f0 = a6)) = true then
                if (0 : Int) ≤ a7 then
                  if a7 < ((List.length xs4 : Nat) : Int) then
                    if (decide ((List.getD xs4 (Int.toNat a7) (⟨(0 : Int), (0 : Int), (0 : Int), false⟩ : S98)).f1 = a5)) = true then
                      ret (.inl a7)
                    else
                      rec_ xs4 a5 a6 (IntKind.i64.wrap (a7 + (1 : Int)))
                  else none
                else none
              else
                rec_ xs4 a5 a6 (IntKind.i64.wrap (a7 + (1 : Int)))
            else none
          else none
      else none
    else none
  else
    ret (.inr ())
def f97.l2 (k : Nat) : Nat → (List S98) → Int → Int → Int → Option (Int ⊕ (Unit))
  | 0, _, _, _, _ => none
  | j + 1, xs4, a5, a6, a7 => f97.l2.step k (fun xs4 a5 a6 a7 => f97.l2 k j xs4 a5 a6 a7) some xs4 a5 a6 a7
def f97.l2.w {R : Type} : (Int ⊕ (Unit)) → (Exit → St env → Option R) → Option R := fun x K => Sum.elim (fun t10 => K .ret ⟨fullT [6] 0 49 [.v (.c (.s (.int .i64 t10)))], [], 723⟩) (fun t11 => K (.exit 0) ⟨fullT [] 0 49 [], [], 723⟩) x
def f97.l2.st (xs4 : List S98) (a5 : Int) (a6 : Int) (a7 : Int) : St env := ⟨fullT [0, 1, 2, 7] 0 49 [.v (.c (.imm 98 xs4)), .v (.c (.s (.int .i64 a5))), .v (.c (.s (.int .i64 a6))), .v (.c (.s (.int .i64 a7)))], [], 35⟩
def f97.l2.hd (k : Nat) (ts_ : List (AV env)) (mm_ : Mem env) (n_ : Nat) : LCl env :=
  gTs LCl.no [0, 1, 2, 7] 49 ts_ fun l_ => gV LCl.no l_ fun a_ l_ => rImm LCl.no 98 a_ fun xs4 => gV LCl.no l_ fun a_ l_ => rV LCl.no a_ fun v_ => vI LCl.no .i64 v_ fun a5 => gV LCl.no l_ fun a_ l_ => rV LCl.no a_ fun v_ => vI LCl.no .i64 v_ fun a6 => gV LCl.no l_ fun a_ l_ => rV LCl.no a_ fun v_ => vI LCl.no .i64 v_ fun a7 => gE LCl.no l_ <| gE LCl.no mm_ <| gN LCl.no 35 n_ { α := Int ⊕ (Unit), o := f97.l2 k k xs4 a5 a6 a7, w := f97.l2.w }
def f97.step {R : Type} (k : Nat) (ret : Int → Option R) (xs1 : List S98) (a2 : Int) (a3 : Int) : Option R :=
  (f97.l2 k k xs1 a2 a3 (0 : Int)).bind (Sum.elim (fun t8 => ret t8) (fun t9 => ret (-1 : Int)))
def f97 (k : Nat) (xs1 : List S98) (a2 : Int) (a3 : Int) : Option Int := f97.step k some xs1 a2 a3
def f97.w {R : Type} : Int → (Res env → Option R) → Option R := fun t12 K => K ⟨.v (.c (.s (.int .i64 t12))), [[], [], []]⟩
theorem f97.wn (x : Int) : ∃ res, ∀ {R : Type} (K : Res env → Option R), f97.w x K = K res := by
  exact ⟨_, fun _ => rfl⟩
def f97.hd (k : Nat) (ps_ : List (P2 env)) : Cl env :=
  gC Cl.no ps_ fun p_ ps_ => qC Cl.no p_ fun c_ => qSl Cl.no 98 c_ fun xs1 => gC Cl.no ps_ fun p_ ps_ => qC Cl.no p_ fun c_ => qS Cl.no c_ fun v_ => vI Cl.no .i64 v_ fun a2 => gC Cl.no ps_ fun p_ ps_ => qC Cl.no p_ fun c_ => qS Cl.no c_ fun v_ => vI Cl.no .i64 v_ fun a3 => gE Cl.no ps_ <| { α := Int, o := f97 k xs1 a2 a3, w := f97.w, nat := fun x _ => f97.wn x }
def f97.e (k : Nat) : Entry env := ⟨fun ps => f97.hd k (coer [[.rd 98], [.no], [.no]] ps), [], []⟩
def f97.X (k : Nat) : Ctx env := { C := lookE [], L := lookE [(2, fun S => f97.l2.hd k S.ts S.m S.n)], J := lookE [], keep := lookD [(2, [0, 1, 2, 7])], keepX := lookD [(2, [6])], span := lookN [(2, 688)], eff := fun n => memN n [], prep := lookP [], np := 0 }
theorem f97.l2.nat {R : Type} (k : Nat) (rec_ : (List S98) → Int → Int → Int → Option (Int ⊕ (Unit))) (g : (Int ⊕ (Unit)) → Option R) (xs4 : List S98) (a5 : Int) (a6 : Int) (a7 : Int) : (f97.l2.step k rec_ some xs4 a5 a6 a7).bind g = f97.l2.step k (fun xs4 a5 a6 a7 => (rec_ xs4 a5 a6 a7).bind g) g xs4 a5 a6 a7 := by
  simp only [f97.l2.step, bind_ite, bind_sum, Option.bind_assoc, Option.bind_some, Option.bind_none]
theorem f97.l2.good (k : Nat) (xs4 : List S98) (a5 : Int) (a6 : Int) (a7 : Int) : GoodL (f97.X k) (nthC 0 (loopsOf (bodyOf Try.f97))) (f97.l2.st xs4 a5 a6 a7) { α := (Int ⊕ (Unit)), o := f97.l2 k k xs4 a5 a6 a7, w := f97.l2.w } :=
  loop_good (ι := (List S98) × Int × Int × Int) (α := (Int ⊕ (Unit))) (fun i => f97.l2.st i.1 i.2.1 i.2.2.1 i.2.2.2) (fun j i => f97.l2 k j i.1 i.2.1 i.2.2.1 i.2.2.2) f97.l2.w (fun rec_ ret i => f97.l2.step k (fun xs4 a5 a6 a7 => rec_ (xs4, a5, a6, a7)) ret i.1 i.2.1 i.2.2.1 i.2.2.2)
    (fun _ => rfl) (fun _ _ => rfl) (fun rec_ g i => f97.l2.nat k _ g i.1 i.2.1 i.2.2.1 i.2.2.2) (fun {R} i0 i rec_ K => by kernel_rfl) k (xs4, a5, a6, a7)
theorem f97.l2.all (k : Nat) (S : St env) : GoodL (f97.X k) (nthC 0 (loopsOf (bodyOf Try.f97))) S (f97.l2.hd k S.ts S.m S.n) := by
  obtain ⟨ts_, m_, n_⟩ := S
  show GoodL _ _ _ (f97.l2.hd k ts_ m_ n_)
  unfold f97.l2.hd
  refine gTs_ok (p := GoodL _ _ _) goodL_no fun _ h => ?_
  subst h
  refine gV_ok (p := GoodL _ _ _) goodL_no fun _ _ h => ?_
  subst h
  refine rImm_ok (p := GoodL _ _ _) goodL_no fun _ h => ?_
  subst h
  refine gV_ok (p := GoodL _ _ _) goodL_no fun _ _ h => ?_
  subst h
  refine rV_ok (p := GoodL _ _ _) goodL_no fun _ h => ?_
  subst h
  refine vI_ok (p := GoodL _ _ _) goodL_no fun _ h => ?_
  subst h
  refine gV_ok (p := GoodL _ _ _) goodL_no fun _ _ h => ?_
  subst h
  refine rV_ok (p := GoodL _ _ _) goodL_no fun _ h => ?_
  subst h
  refine vI_ok (p := GoodL _ _ _) goodL_no fun _ h => ?_
  subst h
  refine gV_ok (p := GoodL _ _ _) goodL_no fun _ _ h => ?_
  subst h
  refine rV_ok (p := GoodL _ _ _) goodL_no fun _ h => ?_
  subst h
  refine vI_ok (p := GoodL _ _ _) goodL_no fun _ h => ?_
  subst h
  refine gE_ok (p := GoodL _ _ _) goodL_no fun h => ?_
  subst h
  refine gE_ok (p := GoodL _ _ _) goodL_no fun h => ?_
  subst h
  refine gN_ok (p := GoodL _ _ _) goodL_no fun h => ?_
  subst h
  exact f97.l2.good k _ _ _ _
theorem f97.nat {R : Type} (k : Nat) (g : Int → Option R) (xs1 : List S98) (a2 : Int) (a3 : Int) : f97.step k g xs1 a2 a3 = (f97 k xs1 a2 a3).bind g := by
  simp only [f97, f97.step, bind_ite, bind_sum, Option.bind_assoc, Option.bind_some, Option.bind_none]
theorem f97.ev (k : Nat) (xs1 : List S98) (a2 : Int) (a3 : Int) : evF (f97.X k) (bodyOf Try.f97) Try.f97.ntmps Try.f97.results.toList [.v (.c (.sl 98 xs1)), .v (.c (.s (.int .i64 a2))), .v (.c (.s (.int .i64 a3)))] = f97.step k (fun x => f97.w x some) xs1 a2 a3 := by kernel_rfl
theorem f97.hok (k : Nat) : HOK (f97.X k) (bodyOf Try.f97) where
  l := allP_mem (by exact ⟨ls_of (h0 := fun S => f97.l2.hd k S.ts S.m S.n) (by kernel_rfl) (f97.l2.all k), trivial⟩)
  j := allP_mem (by exact trivial)
theorem f97.sound0 (k : Nat) : SoundC env Try.prog 97 (f97.hd k) := by
  intro ps_
  show GoodC _ _ _ ps_ (f97.hd k ps_)
  unfold f97.hd
  refine gC_ok (p := GoodC env Try.prog 97 _) goodC_no fun _ _ h => ?_
  subst h
  refine qC_ok (p := GoodC env Try.prog 97 _) goodC_no fun _ h => ?_
  subst h
  refine qSl_ok (p := GoodC env Try.prog 97 _) goodC_no fun _ h => ?_
  subst h
  refine gC_ok (p := GoodC env Try.prog 97 _) goodC_no fun _ _ h => ?_
  subst h
  refine qC_ok (p := GoodC env Try.prog 97 _) goodC_no fun _ h => ?_
  subst h
  refine qS_ok (p := GoodC env Try.prog 97 _) goodC_no fun _ h => ?_
  subst h
  refine vI_ok (p := GoodC env Try.prog 97 _) goodC_no fun _ h => ?_
  subst h
  refine gC_ok (p := GoodC env Try.prog 97 _) goodC_no fun _ _ h => ?_
  subst h
  refine qC_ok (p := GoodC env Try.prog 97 _) goodC_no fun _ h => ?_
  subst h
  refine qS_ok (p := GoodC env Try.prog 97 _) goodC_no fun _ h => ?_
  subst h
  refine vI_ok (p := GoodC env Try.prog 97 _) goodC_no fun _ h => ?_
  subst h
  refine gE_ok (p := GoodC env Try.prog 97 _) goodC_no fun h => ?_
  subst h
  exact fun_good (fun_sound envOK (cs_sound _ (by exact trivial)) (f97.hok k) Try.func97 rfl) ((f97.ev k _ _ _).trans (f97.nat k _ _ _ _))
theorem f97.sound (k : Nat) : SoundC env Try.prog 97 (f97.e k).F := soundC_coer (f97.sound0 k) [[.rd 98], [.no], [.no]]
theorem f97.says (k : Nat) (xs1 : List S98) (a2 : Int) (a3 : Int) (t13 : Int) (h_ : f97 k xs1 a2 a3 = some t13) : SoundAt env Try.prog 97 [.v (.c (.sl 98 xs1)), .v (.c (.s (.int .i64 a2))), .v (.c (.s (.int .i64 a3)))] ⟨.v (.c (.s (.int .i64 t13))), [[], [], []]⟩ :=
  fun_sound envOK (cs_sound _ (by exact trivial)) (f97.hok k) Try.func97 rfl _ _ (((f97.ev k xs1 a2 a3).trans (f97.nat k _ xs1 a2 a3)).trans (by rw [h_]; rfl))
theorem f97.fnok : FnOK Try.prog 97 := fn_ok Try.func97 (by kernel_rfl) rfl
def f65.l4.step {R : Type} (k : Nat) (rec_ : Int → (List S98) → Int → Option R) (ret : (Bool ⊕ (Unit)) → Option R) (a4 : Int) (xs5 : List S98) (a6 : Int) : Option R :=
  if (decide (a6 < (((List.length xs5) : Nat) : Int))) = true then
    if (0 : Int) ≤ a6 then
      if a6 < ((List.length xs5 : Nat) : Int) then
        (f40 k (List.getD xs5 (Int.toNat a6) (⟨(0 : Int), (0 : Int), (0 : Int), false⟩ : S98)).f0 (0 : Int) (IntKind.i64.wrap (a4 - (1 : Int)))).bind fun t7 => if (!t7) = false then
            (f40 k (List.getD xs5 (Int.toNat a6) (⟨(0 : Int), (0 : Int), (0 : Int), false⟩ : S98)).f1 (0 : Int) (IntKind.i64.wrap (a4 - (1 : Int)))).bind fun t8 => if (!t8) = false then
                if (decide ((List.getD xs5 (Int.toNat a6) (⟨(0 : Int), (0 : Int), (0 : Int), false⟩ : S98)).f0 = (List.getD xs5 (Int.toNat a6) (⟨(0 : Int), (0 : Int), (0 : Int), false⟩ : S98)).f1)) = false then
                  (f40 k (List.getD xs5 (Int.toNat a6) (⟨(0 : Int), (0 : Int), (0 : Int), false⟩ : S98)).f2 (1 : Int) (16 : Int)).bind fun t9 => if (!t9) = false then
                      if (0 : Int) ≤ a6 then
                        if a6 ≤ ((List.length xs5 : Nat) : Int) then
                          (f97 k (List.drop 0 (List.take (Int.toNat a6) xs5)) (List.getD xs5 (Int.toNat a6) (⟨(0 : Int), (0 : Int), (0 : Int), false⟩ : S98)).f0 (List.getD xs5 (Int.toNat a6) (⟨(0 : Int), (0 : Int), (0 : Int), false⟩ : S98)).f1).bind fun t10 => if (decide (t10 ≥ (0 : Int))) = true then
                              ret (.inl false)
                            else
                              rec_ a4 xs5 (IntKind.i64.wrap (a6 + (1 : Int)))
                        else none
                      else none
                    else
                      ret (.inl false)
                else
                  ret (.inl false)
              else
                ret (.inl false)
          else
            ret (.inl false)
      else none
    else none
  else
    ret (.inr ())
def f65.l4 (k : Nat) : Nat → Int → (List S98) → Int → Option (Bool ⊕ (Unit))
  | 0, _, _, _ => none
  | j + 1, a4, xs5, a6 => f65.l4.step k (fun a4 xs5 a6 => f65.l4 k j a4 xs5 a6) some a4 xs5 a6
def f65.l4.w {R : Type} : (Bool ⊕ (Unit)) → (Exit → St env → Option R) → Option R := fun x K => Sum.elim (fun t13 => K .ret ⟨fullT [4] 0 63 [.v (.c (.s (.bool t13)))], [], 994⟩) (fun t14 => K (.exit 0) ⟨fullT [] 0 63 [], [], 994⟩) x
def f65.l4.st (a4 : Int) (xs5 : List S98) (a6 : Int) : St env := ⟨fullT [0, 1, 5] 0 63 [.v (.c (.s (.int .i64 a4))), .v (.c (.imm 98 xs5)), .v (.c (.s (.int .i64 a6)))], [], 162⟩
def f65.l4.hd (k : Nat) (ts_ : List (AV env)) (mm_ : Mem env) (n_ : Nat) : LCl env :=
  gTs LCl.no [0, 1, 5] 63 ts_ fun l_ => gV LCl.no l_ fun a_ l_ => rV LCl.no a_ fun v_ => vI LCl.no .i64 v_ fun a4 => gV LCl.no l_ fun a_ l_ => rImm LCl.no 98 a_ fun xs5 => gV LCl.no l_ fun a_ l_ => rV LCl.no a_ fun v_ => vI LCl.no .i64 v_ fun a6 => gE LCl.no l_ <| gE LCl.no mm_ <| gN LCl.no 162 n_ { α := Bool ⊕ (Unit), o := f65.l4 k k a4 xs5 a6, w := f65.l4.w }
def f65.step {R : Type} (k : Nat) (ret : Bool → Option R) (a1 : Int) (xs2 : List S98) : Option R :=
  (f40 k a1 (1 : Int) (5 : Int)).bind fun t3 => if (!t3) = false then
      if (decide ((((List.length xs2) : Nat) : Int) > (8 : Int))) = true then
        ret false
      else
        (f65.l4 k k a1 xs2 (0 : Int)).bind (Sum.elim (fun t11 => ret t11) (fun t12 => ret true))
    else
      ret false
def f65 (k : Nat) (a1 : Int) (xs2 : List S98) : Option Bool := f65.step k some a1 xs2
def f65.w {R : Type} : Bool → (Res env → Option R) → Option R := fun t15 K => K ⟨.v (.c (.s (.bool t15))), [[], []]⟩
theorem f65.wn (x : Bool) : ∃ res, ∀ {R : Type} (K : Res env → Option R), f65.w x K = K res := by
  exact ⟨_, fun _ => rfl⟩
def f65.hd (k : Nat) (ps_ : List (P2 env)) : Cl env :=
  gC Cl.no ps_ fun p_ ps_ => qC Cl.no p_ fun c_ => qS Cl.no c_ fun v_ => vI Cl.no .i64 v_ fun a1 => gC Cl.no ps_ fun p_ ps_ => qC Cl.no p_ fun c_ => qSl Cl.no 98 c_ fun xs2 => gE Cl.no ps_ <| { α := Bool, o := f65 k a1 xs2, w := f65.w, nat := fun x _ => f65.wn x }
def f65.e (k : Nat) : Entry env := ⟨fun ps => f65.hd k (coer [[.no], [.rd 98]] ps), [], []⟩
def f65.X (k : Nat) : Ctx env := { C := lookE [(40, f40.e k), (97, f97.e k)], L := lookE [(4, fun S => f65.l4.hd k S.ts S.m S.n)], J := lookE [], keep := lookD [(4, [0, 1, 5])], keepX := lookD [(4, [4])], span := lookN [(4, 832)], eff := fun n => memN n [], prep := lookP [], np := 0 }
theorem f65.l4.nat {R : Type} (k : Nat) (rec_ : Int → (List S98) → Int → Option (Bool ⊕ (Unit))) (g : (Bool ⊕ (Unit)) → Option R) (a4 : Int) (xs5 : List S98) (a6 : Int) : (f65.l4.step k rec_ some a4 xs5 a6).bind g = f65.l4.step k (fun a4 xs5 a6 => (rec_ a4 xs5 a6).bind g) g a4 xs5 a6 := by
  simp only [f65.l4.step, bind_ite, bind_sum, Option.bind_assoc, Option.bind_some, Option.bind_none]
theorem f65.l4.good (k : Nat) (a4 : Int) (xs5 : List S98) (a6 : Int) : GoodL (f65.X k) (nthC 0 (loopsOf (bodyOf Try.f65))) (f65.l4.st a4 xs5 a6) { α := (Bool ⊕ (Unit)), o := f65.l4 k k a4 xs5 a6, w := f65.l4.w } :=
  loop_good (ι := Int × (List S98) × Int) (α := (Bool ⊕ (Unit))) (fun i => f65.l4.st i.1 i.2.1 i.2.2) (fun j i => f65.l4 k j i.1 i.2.1 i.2.2) f65.l4.w (fun rec_ ret i => f65.l4.step k (fun a4 xs5 a6 => rec_ (a4, xs5, a6)) ret i.1 i.2.1 i.2.2)
    (fun _ => rfl) (fun _ _ => rfl) (fun rec_ g i => f65.l4.nat k _ g i.1 i.2.1 i.2.2) (fun {R} i0 i rec_ K => by kernel_rfl) k (a4, xs5, a6)
theorem f65.l4.all (k : Nat) (S : St env) : GoodL (f65.X k) (nthC 0 (loopsOf (bodyOf Try.f65))) S (f65.l4.hd k S.ts S.m S.n) := by
  obtain ⟨ts_, m_, n_⟩ := S
  show GoodL _ _ _ (f65.l4.hd k ts_ m_ n_)
  unfold f65.l4.hd
  refine gTs_ok (p := GoodL _ _ _) goodL_no fun _ h => ?_
  subst h
  refine gV_ok (p := GoodL _ _ _) goodL_no fun _ _ h => ?_
  subst h
  refine rV_ok (p := GoodL _ _ _) goodL_no fun _ h => ?_
  subst h
  refine vI_ok (p := GoodL _ _ _) goodL_no fun _ h => ?_
  subst h
  refine gV_ok (p := GoodL _ _ _) goodL_no fun _ _ h => ?_
  subst h
  refine rImm_ok (p := GoodL _ _ _) goodL_no fun _ h => ?_
  subst h
  refine gV_ok (p := GoodL _ _ _) goodL_no fun _ _ h => ?_
  subst h
  refine rV_ok (p := GoodL _ _ _) goodL_no fun _ h => ?_
  subst h
  refine vI_ok (p := GoodL _ _ _) goodL_no fun _ h => ?_
  subst h
  refine gE_ok (p := GoodL _ _ _) goodL_no fun h => ?_
  subst h
  refine gE_ok (p := GoodL _ _ _) goodL_no fun h => ?_
  subst h
  refine gN_ok (p := GoodL _ _ _) goodL_no fun h => ?_
  subst h
  exact f65.l4.good k _ _ _
theorem f65.nat {R : Type} (k : Nat) (g : Bool → Option R) (a1 : Int) (xs2 : List S98) : f65.step k g a1 xs2 = (f65 k a1 xs2).bind g := by
  simp only [f65, f65.step, bind_ite, bind_sum, Option.bind_assoc, Option.bind_some, Option.bind_none]
theorem f65.ev (k : Nat) (a1 : Int) (xs2 : List S98) : evF (f65.X k) (bodyOf Try.f65) Try.f65.ntmps Try.f65.results.toList [.v (.c (.s (.int .i64 a1))), .v (.c (.sl 98 xs2))] = f65.step k (fun x => f65.w x some) a1 xs2 := by kernel_rfl
theorem f65.hok (k : Nat) : HOK (f65.X k) (bodyOf Try.f65) where
  l := allP_mem (by exact ⟨ls_of (h0 := fun S => f65.l4.hd k S.ts S.m S.n) (by kernel_rfl) (f65.l4.all k), trivial⟩)
  j := allP_mem (by exact trivial)
theorem f65.sound0 (k : Nat) : SoundC env Try.prog 65 (f65.hd k) := by
  intro ps_
  show GoodC _ _ _ ps_ (f65.hd k ps_)
  unfold f65.hd
  refine gC_ok (p := GoodC env Try.prog 65 _) goodC_no fun _ _ h => ?_
  subst h
  refine qC_ok (p := GoodC env Try.prog 65 _) goodC_no fun _ h => ?_
  subst h
  refine qS_ok (p := GoodC env Try.prog 65 _) goodC_no fun _ h => ?_
  subst h
  refine vI_ok (p := GoodC env Try.prog 65 _) goodC_no fun _ h => ?_
  subst h
  refine gC_ok (p := GoodC env Try.prog 65 _) goodC_no fun _ _ h => ?_
  subst h
  refine qC_ok (p := GoodC env Try.prog 65 _) goodC_no fun _ h => ?_
  subst h
  refine qSl_ok (p := GoodC env Try.prog 65 _) goodC_no fun _ h => ?_
  subst h
  refine gE_ok (p := GoodC env Try.prog 65 _) goodC_no fun h => ?_
  subst h
  exact fun_good (fun_sound envOK (cs_sound _ (by exact ⟨⟨f40.sound k, f40.fnok⟩, ⟨f97.sound k, f97.fnok⟩, trivial⟩)) (f65.hok k) Try.func65 rfl) ((f65.ev k _ _).trans (f65.nat k _ _ _))
theorem f65.sound (k : Nat) : SoundC env Try.prog 65 (f65.e k).F := soundC_coer (f65.sound0 k) [[.no], [.rd 98]]
theorem f65.says (k : Nat) (a1 : Int) (xs2 : List S98) (t16 : Bool) (h_ : f65 k a1 xs2 = some t16) : SoundAt env Try.prog 65 [.v (.c (.s (.int .i64 a1))), .v (.c (.sl 98 xs2))] ⟨.v (.c (.s (.bool t16))), [[], []]⟩ :=
  fun_sound envOK (cs_sound _ (by exact ⟨⟨f40.sound k, f40.fnok⟩, ⟨f97.sound k, f97.fnok⟩, trivial⟩)) (f65.hok k) Try.func65 rfl _ _ (((f65.ev k a1 xs2).trans (f65.nat k _ a1 xs2)).trans (by rw [h_]; rfl))
theorem f65.fnok : FnOK Try.prog 65 := fn_ok Try.func65 (by kernel_rfl) rfl
def f66.step {R : Type} (k : Nat) (ret : (Int × Int × Int) → Option R) (a1 : Int) (a2 : Int) : Option R :=
  if (decide (a1 = a2)) = true then
    ret ((0 : Int), a1, (0 : Int))
  else
    ret ((16 : Int), (-1 : Int), (0 : Int))
def f66 (k : Nat) (a1 : Int) (a2 : Int) : Option (Int × Int × Int) := f66.step k some a1 a2
def f66.w {R : Type} : (Int × Int × Int) → (Res env → Option R) → Option R := fun t3 K => K ⟨.v (.g [.s (.int .i64 t3.1), .s (.int .i64 t3.2.1), .s (.int .i64 t3.2.2)]), [[], []]⟩
theorem f66.wn (x : (Int × Int × Int)) : ∃ res, ∀ {R : Type} (K : Res env → Option R), f66.w x K = K res := by
  exact ⟨_, fun _ => rfl⟩
def f66.hd (k : Nat) (ps_ : List (P2 env)) : Cl env :=
  gC Cl.no ps_ fun p_ ps_ => qC Cl.no p_ fun c_ => qS Cl.no c_ fun v_ => vI Cl.no .i64 v_ fun a1 => gC Cl.no ps_ fun p_ ps_ => qC Cl.no p_ fun c_ => qS Cl.no c_ fun v_ => vI Cl.no .i64 v_ fun a2 => gE Cl.no ps_ <| { α := Int × Int × Int, o := f66 k a1 a2, w := f66.w, nat := fun x _ => f66.wn x }
def f66.e (k : Nat) : Entry env := ⟨f66.hd k, [], []⟩
def f66.X (k : Nat) : Ctx env := { C := lookE [], L := lookE [], J := lookE [], keep := lookD [], keepX := lookD [], span := lookN [], eff := fun n => memN n [], prep := lookP [], np := 0 }
theorem f66.nat {R : Type} (k : Nat) (g : (Int × Int × Int) → Option R) (a1 : Int) (a2 : Int) : f66.step k g a1 a2 = (f66 k a1 a2).bind g := by
  simp only [f66, f66.step, bind_ite, bind_sum, Option.bind_assoc, Option.bind_some, Option.bind_none]
theorem f66.ev (k : Nat) (a1 : Int) (a2 : Int) : evF (f66.X k) (bodyOf Try.f66) Try.f66.ntmps Try.f66.results.toList [.v (.c (.s (.int .i64 a1))), .v (.c (.s (.int .i64 a2)))] = f66.step k (fun x => f66.w x some) a1 a2 := by kernel_rfl
theorem f66.hok (k : Nat) : HOK (f66.X k) (bodyOf Try.f66) where
  l := allP_mem (by exact trivial)
  j := allP_mem (by exact trivial)
theorem f66.sound (k : Nat) : SoundC env Try.prog 66 ((f66.e k).F) := by
  intro ps_
  show GoodC _ _ _ ps_ (f66.hd k ps_)
  unfold f66.hd
  refine gC_ok (p := GoodC env Try.prog 66 _) goodC_no fun _ _ h => ?_
  subst h
  refine qC_ok (p := GoodC env Try.prog 66 _) goodC_no fun _ h => ?_
  subst h
  refine qS_ok (p := GoodC env Try.prog 66 _) goodC_no fun _ h => ?_
  subst h
  refine vI_ok (p := GoodC env Try.prog 66 _) goodC_no fun _ h => ?_
  subst h
  refine gC_ok (p := GoodC env Try.prog 66 _) goodC_no fun _ _ h => ?_
  subst h
  refine qC_ok (p := GoodC env Try.prog 66 _) goodC_no fun _ h => ?_
  subst h
  refine qS_ok (p := GoodC env Try.prog 66 _) goodC_no fun _ h => ?_
  subst h
  refine vI_ok (p := GoodC env Try.prog 66 _) goodC_no fun _ h => ?_
  subst h
  refine gE_ok (p := GoodC env Try.prog 66 _) goodC_no fun h => ?_
  subst h
  exact fun_good (fun_sound envOK (cs_sound _ (by exact trivial)) (f66.hok k) Try.func66 rfl) ((f66.ev k _ _).trans (f66.nat k _ _ _))
theorem f66.says (k : Nat) (a1 : Int) (a2 : Int) (t4 : Int × Int × Int) (h_ : f66 k a1 a2 = some t4) : SoundAt env Try.prog 66 [.v (.c (.s (.int .i64 a1))), .v (.c (.s (.int .i64 a2)))] ⟨.v (.g [.s (.int .i64 t4.1), .s (.int .i64 t4.2.1), .s (.int .i64 t4.2.2)]), [[], []]⟩ :=
  fun_sound envOK (cs_sound _ (by exact trivial)) (f66.hok k) Try.func66 rfl _ _ (((f66.ev k a1 a2).trans (f66.nat k _ a1 a2)).trans (by rw [h_]; rfl))
theorem f66.fnok : FnOK Try.prog 66 := fn_ok Try.func66 (by kernel_rfl) rfl
def f25.l11.step {R : Type} (k : Nat) (rec_ : Int → Int → Int → Int → (List S98) → Int → (List (List S95)) → (List S95) → Option R) (ret : (Int × Int × Int × (List S98) × Int × (List (List S95)) × (List S95)) → Option R) (a10 : Int) (a11 : Int) (a12 : Int) (a13 : Int) (xs14 : List S98) (a15 : Int) (xs16 : List (List S95)) (xs17 : List S95) : Option R :=
  if (decide (a12 < a10)) = true then
    (f66 k a11 a12).bind fun t18 => if (List.length xs17 + List.length ([(⟨t18.1, t18.2.1, t18.2.2⟩ : S95)] : List S95)) * 24 ≤ maxN then
        rec_ a10 a11 (IntKind.i64.wrap (a12 + (1 : Int))) a13 xs14 a15 xs16 (xs17 ++ ([(⟨t18.1, t18.2.1, t18.2.2⟩ : S95)] : List S95))
      else none
  else
    ret (a10, a11, a13, xs14, a15, xs16, xs17)
def f25.l11 (k : Nat) : Nat → Int → Int → Int → Int → (List S98) → Int → (List (List S95)) → (List S95) → Option (Int × Int × Int × (List S98) × Int × (List (List S95)) × (List S95))
  | 0, _, _, _, _, _, _, _, _ => none
  | j + 1, a10, a11, a12, a13, xs14, a15, xs16, xs17 => f25.l11.step k (fun a10 a11 a12 a13 xs14 a15 xs16 xs17 => f25.l11 k j a10 a11 a12 a13 xs14 a15 xs16 xs17) some a10 a11 a12 a13 xs14 a15 xs16 xs17
def f25.l11.w {R : Type} : (Int × Int × Int × (List S98) × Int × (List (List S95)) × (List S95)) → (Exit → St env → Option R) → Option R := fun t21 K => K (.exit 2) ⟨fullT [0, 4, 6, 7, 8] 0 48 [.v (.c (.s (.int .i64 t21.1))), .v (.c (.bp 2 0)), .v (.c (.bp 226 0)), .v (.c (.s (.int .i64 t21.2.1))), .v (.c (.row 338))], [(2, .box [.s (.slice none 0 0), .s (.slice none 0 0), .s (.int .i64 t21.2.2.1)]), (178, .row true 98 t21.2.2.2.1), (226, .box [.row 178, .row 274, .s (.int .i64 t21.2.2.2.2.1)]), (274, .row true 93 t21.2.2.2.2.2.1), (338, .row true 95 t21.2.2.2.2.2.2)], 594⟩
def f25.l11.st (a10 : Int) (a11 : Int) (a12 : Int) (a13 : Int) (xs14 : List S98) (a15 : Int) (xs16 : List (List S95)) (xs17 : List S95) : St env := ⟨fullT [0, 4, 6, 7, 8, 9] 0 48 [.v (.c (.s (.int .i64 a10))), .v (.c (.bp 2 0)), .v (.c (.bp 226 0)), .v (.c (.s (.int .i64 a11))), .v (.c (.row 338)), .v (.c (.s (.int .i64 a12)))], [(2, .box [.s (.slice none 0 0), .s (.slice none 0 0), .s (.int .i64 a13)]), (178, .row true 98 xs14), (226, .box [.row 178, .row 274, .s (.int .i64 a15)]), (274, .row true 93 xs16), (338, .row true 95 xs17)], 386⟩
def f25.l7.step {R : Type} (k : Nat) (rec_ : Int → Int → Int → (List S98) → Int → (List (List S95)) → Option R) (ret : (Int × (List S98) × Int × (List (List S95))) → Option R) (a4 : Int) (a5 : Int) (a6 : Int) (xs7 : List S98) (a8 : Int) (xs9 : List (List S95)) : Option R :=
  if (decide (a5 < a4)) = true then
    (f25.l11 k k a4 a5 (0 : Int) a6 xs7 a8 xs9 ([] : List S95)).bind fun t19 => if (List.length t19.2.2.2.2.2.1 + List.length ([t19.2.2.2.2.2.2] : List (List S95))) * 24 ≤ maxN then
        rec_ t19.1 (IntKind.i64.wrap (t19.2.1 + (1 : Int))) t19.2.2.1 t19.2.2.2.1 t19.2.2.2.2.1 (t19.2.2.2.2.2.1 ++ ([t19.2.2.2.2.2.2] : List (List S95)))
      else none
  else
    ret (a6, xs7, a8, xs9)
def f25.l7 (k : Nat) : Nat → Int → Int → Int → (List S98) → Int → (List (List S95)) → Option (Int × (List S98) × Int × (List (List S95)))
  | 0, _, _, _, _, _, _ => none
  | j + 1, a4, a5, a6, xs7, a8, xs9 => f25.l7.step k (fun a4 a5 a6 xs7 a8 xs9 => f25.l7 k j a4 a5 a6 xs7 a8 xs9) some a4 a5 a6 xs7 a8 xs9
def f25.l7.w {R : Type} : (Int × (List S98) × Int × (List (List S95))) → (Exit → St env → Option R) → Option R := fun t22 K => K (.exit 0) ⟨fullT [4, 6] 0 48 [.v (.c (.bp 2 0)), .v (.c (.bp 226 0))], [(2, .box [.s (.slice none 0 0), .s (.slice none 0 0), .s (.int .i64 t22.1)]), (178, .row true 98 t22.2.1), (226, .box [.row 178, .row 274, .s (.int .i64 t22.2.2.1)]), (274, .row true 93 t22.2.2.2)], 754⟩
def f25.l7.st (a4 : Int) (a5 : Int) (a6 : Int) (xs7 : List S98) (a8 : Int) (xs9 : List (List S95)) : St env := ⟨fullT [0, 4, 6, 7] 0 48 [.v (.c (.s (.int .i64 a4))), .v (.c (.bp 2 0)), .v (.c (.bp 226 0)), .v (.c (.s (.int .i64 a5)))], [(2, .box [.s (.slice none 0 0), .s (.slice none 0 0), .s (.int .i64 a6)]), (178, .row true 98 xs7), (226, .box [.row 178, .row 274, .s (.int .i64 a8)]), (274, .row true 93 xs9)], 290⟩
def f25.l11.hd (k : Nat) (ts_ : List (AV env)) (mm_ : Mem env) (n_ : Nat) : LCl env :=
  gTs LCl.no [0, 4, 6, 7, 8, 9] 48 ts_ fun l_ => gV LCl.no l_ fun a_ l_ => rV LCl.no a_ fun v_ => vI LCl.no .i64 v_ fun a10 => gV LCl.no l_ fun a_ l_ => rBp LCl.no 2 0 a_ <| gV LCl.no l_ fun a_ l_ => rBp LCl.no 226 0 a_ <| gV LCl.no l_ fun a_ l_ => rV LCl.no a_ fun v_ => vI LCl.no .i64 v_ fun a11 => gV LCl.no l_ fun a_ l_ => rRow LCl.no 338 a_ <| gV LCl.no l_ fun a_ l_ => rV LCl.no a_ fun v_ => vI LCl.no .i64 v_ fun a12 => gE LCl.no l_ <| mBox LCl.no 2 mm_ fun c_ m_ => gC LCl.no c_ fun a_ c_ => rV LCl.no a_ fun v_ => vNil LCl.no v_ <| gC LCl.no c_ fun a_ c_ => rV LCl.no a_ fun v_ => vNil LCl.no v_ <| gC LCl.no c_ fun a_ c_ => rV LCl.no a_ fun v_ => vI LCl.no .i64 v_ fun a13 => gE LCl.no c_ <| mRow LCl.no 178 true 98 m_ fun xs14 m_ => mBox LCl.no 226 m_ fun c_ m_ => gC LCl.no c_ fun a_ c_ => rRow LCl.no 178 a_ <| gC LCl.no c_ fun a_ c_ => rRow LCl.no 274 a_ <| gC LCl.no c_ fun a_ c_ => rV LCl.no a_ fun v_ => vI LCl.no .i64 v_ fun a15 => gE LCl.no c_ <| mRow LCl.no 274 true 93 m_ fun xs16 m_ => mRow LCl.no 338 true 95 m_ fun xs17 m_ => gE LCl.no m_ <| gN LCl.no 386 n_ { α := Int × Int × Int × (List S98) × Int × (List (List S95)) × (List S95), o := f25.l11 k k a10 a11 a12 a13 xs14 a15 xs16 xs17, w := f25.l11.w }
def f25.l7.hd (k : Nat) (ts_ : List (AV env)) (mm_ : Mem env) (n_ : Nat) : LCl env :=
  gTs LCl.no [0, 4, 6, 7] 48 ts_ fun l_ => gV LCl.no l_ fun a_ l_ => rV LCl.no a_ fun v_ => vI LCl.no .i64 v_ fun a4 => gV LCl.no l_ fun a_ l_ => rBp LCl.no 2 0 a_ <| gV LCl.no l_ fun a_ l_ => rBp LCl.no 226 0 a_ <| gV LCl.no l_ fun a_ l_ => rV LCl.no a_ fun v_ => vI LCl.no .i64 v_ fun a5 => gE LCl.no l_ <| mBox LCl.no 2 mm_ fun c_ m_ => gC LCl.no c_ fun a_ c_ => rV LCl.no a_ fun v_ => vNil LCl.no v_ <| gC LCl.no c_ fun a_ c_ => rV LCl.no a_ fun v_ => vNil LCl.no v_ <| gC LCl.no c_ fun a_ c_ => rV LCl.no a_ fun v_ => vI LCl.no .i64 v_ fun a6 => gE LCl.no c_ <| mRow LCl.no 178 true 98 m_ fun xs7 m_ => mBox LCl.no 226 m_ fun c_ m_ => gC LCl.no c_ fun a_ c_ => rRow LCl.no 178 a_ <| gC LCl.no c_ fun a_ c_ => rRow LCl.no 274 a_ <| gC LCl.no c_ fun a_ c_ => rV LCl.no a_ fun v_ => vI LCl.no .i64 v_ fun a8 => gE LCl.no c_ <| mRow LCl.no 274 true 93 m_ fun xs9 m_ => gE LCl.no m_ <| gN LCl.no 290 n_ { α := Int × (List S98) × Int × (List (List S95)), o := f25.l7 k k a4 a5 a6 xs7 a8 xs9, w := f25.l7.w }
def f25.step {R : Type} (k : Nat) (ret : ((Int × Int) ⊕ ((List S98) × (List (List S95)) × Int × Int)) → Option R) (a1 : Int) (xs2 : List S98) : Option R :=
  if (decide ((((List.length xs2) : Nat) : Int) > (4096 : Int))) = true then
    ret (.inl ((0 : Int), (2 : Int)))
  else
    (f65 k a1 xs2).bind fun t3 => if (!t3) = true then
        ret (.inl ((0 : Int), (1 : Int)))
      else
        if (List.length ([] : List S98) + List.length xs2) * 32 ≤ maxN then
          (f25.l7 k k a1 (0 : Int) (0 : Int) (([] : List S98) ++ xs2) a1 ([] : List (List S95))).bind fun t20 => ret (.inr (t20.2.1, t20.2.2.2, t20.2.2.1, (0 : Int)))
        else none
def f25 (k : Nat) (a1 : Int) (xs2 : List S98) : Option ((Int × Int) ⊕ ((List S98) × (List (List S95)) × Int × Int)) := f25.step k some a1 xs2
def f25.w {R : Type} : ((Int × Int) ⊕ ((List S98) × (List (List S95)) × Int × Int)) → (Res env → Option R) → Option R := fun x K => Sum.elim (fun t23 => K ⟨.tup [.g [.s (.slice none 0 0), .s (.slice none 0 0), .s (.int .i64 t23.1)], .c (.s (.int .i64 t23.2))], [[], []]⟩) (fun t24 => K ⟨.tup [.g [.own true 98 t24.1, .own true 93 t24.2.1, .s (.int .i64 t24.2.2.1)], .c (.s (.int .i64 t24.2.2.2))], [[], []]⟩) x
theorem f25.wn (x : ((Int × Int) ⊕ ((List S98) × (List (List S95)) × Int × Int))) : ∃ res, ∀ {R : Type} (K : Res env → Option R), f25.w x K = K res := by
  rcases x with x | x <;> exact ⟨_, fun _ => rfl⟩
def f25.hd (k : Nat) (ps_ : List (P2 env)) : Cl env :=
  gC Cl.no ps_ fun p_ ps_ => qC Cl.no p_ fun c_ => qS Cl.no c_ fun v_ => vI Cl.no .i64 v_ fun a1 => gC Cl.no ps_ fun p_ ps_ => qC Cl.no p_ fun c_ => qSl Cl.no 98 c_ fun xs2 => gE Cl.no ps_ <| { α := (Int × Int) ⊕ ((List S98) × (List (List S95)) × Int × Int), o := f25 k a1 xs2, w := f25.w, nat := fun x _ => f25.wn x }
def f25.e (k : Nat) : Entry env := ⟨fun ps => f25.hd k (coer [[.no], [.rd 98]] ps), [], []⟩
def f25.X (k : Nat) : Ctx env := { C := lookE [(65, f65.e k), (66, f66.e k)], L := lookE [(11, fun S => f25.l11.hd k S.ts S.m S.n), (7, fun S => f25.l7.hd k S.ts S.m S.n)], J := lookE [], keep := lookD [(11, [0, 4, 6, 7, 8, 9]), (7, [0, 4, 6, 7])], keepX := lookD [(11, [0, 4, 6, 7, 8]), (7, [4, 6])], span := lookN [(11, 208), (7, 464)], eff := fun n => memN n [], prep := lookP [(7, [.nilB 226 1 93])], np := 0 }
theorem f25.l11.nat {R : Type} (k : Nat) (rec_ : Int → Int → Int → Int → (List S98) → Int → (List (List S95)) → (List S95) → Option (Int × Int × Int × (List S98) × Int × (List (List S95)) × (List S95))) (g : (Int × Int × Int × (List S98) × Int × (List (List S95)) × (List S95)) → Option R) (a10 : Int) (a11 : Int) (a12 : Int) (a13 : Int) (xs14 : List S98) (a15 : Int) (xs16 : List (List S95)) (xs17 : List S95) : (f25.l11.step k rec_ some a10 a11 a12 a13 xs14 a15 xs16 xs17).bind g = f25.l11.step k (fun a10 a11 a12 a13 xs14 a15 xs16 xs17 => (rec_ a10 a11 a12 a13 xs14 a15 xs16 xs17).bind g) g a10 a11 a12 a13 xs14 a15 xs16 xs17 := by
  simp only [f25.l11.step, bind_ite, bind_sum, Option.bind_assoc, Option.bind_some, Option.bind_none]
theorem f25.l11.good (k : Nat) (a10 : Int) (a11 : Int) (a12 : Int) (a13 : Int) (xs14 : List S98) (a15 : Int) (xs16 : List (List S95)) (xs17 : List S95) : GoodL (f25.X k) (nthC 1 (loopsOf (bodyOf Try.f25))) (f25.l11.st a10 a11 a12 a13 xs14 a15 xs16 xs17) { α := (Int × Int × Int × (List S98) × Int × (List (List S95)) × (List S95)), o := f25.l11 k k a10 a11 a12 a13 xs14 a15 xs16 xs17, w := f25.l11.w } :=
  loop_good (ι := Int × Int × Int × Int × (List S98) × Int × (List (List S95)) × (List S95)) (α := (Int × Int × Int × (List S98) × Int × (List (List S95)) × (List S95))) (fun i => f25.l11.st i.1 i.2.1 i.2.2.1 i.2.2.2.1 i.2.2.2.2.1 i.2.2.2.2.2.1 i.2.2.2.2.2.2.1 i.2.2.2.2.2.2.2) (fun j i => f25.l11 k j i.1 i.2.1 i.2.2.1 i.2.2.2.1 i.2.2.2.2.1 i.2.2.2.2.2.1 i.2.2.2.2.2.2.1 i.2.2.2.2.2.2.2) f25.l11.w (fun rec_ ret i => f25.l11.step k (fun a10 a11 a12 a13 xs14 a15 xs16 xs17 => rec_ (a10, a11, a12, a13, xs14, a15, xs16, xs17)) ret i.1 i.2.1 i.2.2.1 i.2.2.2.1 i.2.2.2.2.1 i.2.2.2.2.2.1 i.2.2.2.2.2.2.1 i.2.2.2.2.2.2.2)
    (fun _ => rfl) (fun _ _ => rfl) (fun rec_ g i => f25.l11.nat k _ g i.1 i.2.1 i.2.2.1 i.2.2.2.1 i.2.2.2.2.1 i.2.2.2.2.2.1 i.2.2.2.2.2.2.1 i.2.2.2.2.2.2.2) (fun {R} i0 i rec_ K => by kernel_rfl) k (a10, a11, a12, a13, xs14, a15, xs16, xs17)
theorem f25.l11.all (k : Nat) (S : St env) : GoodL (f25.X k) (nthC 1 (loopsOf (bodyOf Try.f25))) S (f25.l11.hd k S.ts S.m S.n) := by
  obtain ⟨ts_, m_, n_⟩ := S
  show GoodL _ _ _ (f25.l11.hd k ts_ m_ n_)
  unfold f25.l11.hd
  refine gTs_ok (p := GoodL _ _ _) goodL_no fun _ h => ?_
  subst h
  refine gV_ok (p := GoodL _ _ _) goodL_no fun _ _ h => ?_
  subst h
  refine rV_ok (p := GoodL _ _ _) goodL_no fun _ h => ?_
  subst h
  refine vI_ok (p := GoodL _ _ _) goodL_no fun _ h => ?_
  subst h
  refine gV_ok (p := GoodL _ _ _) goodL_no fun _ _ h => ?_
  subst h
  refine rBp_ok (p := GoodL _ _ _) goodL_no fun h => ?_
  subst h
  refine gV_ok (p := GoodL _ _ _) goodL_no fun _ _ h => ?_
  subst h
  refine rBp_ok (p := GoodL _ _ _) goodL_no fun h => ?_
  subst h
  refine gV_ok (p := GoodL _ _ _) goodL_no fun _ _ h => ?_
  subst h
  refine rV_ok (p := GoodL _ _ _) goodL_no fun _ h => ?_
  subst h
  refine vI_ok (p := GoodL _ _ _) goodL_no fun _ h => ?_
  subst h
  refine gV_ok (p := GoodL _ _ _) goodL_no fun _ _ h => ?_
  subst h
  refine rRow_ok (p := GoodL _ _ _) goodL_no fun h => ?_
  subst h
  refine gV_ok (p := GoodL _ _ _) goodL_no fun _ _ h => ?_
  subst h
  refine rV_ok (p := GoodL _ _ _) goodL_no fun _ h => ?_
  subst h
  refine vI_ok (p := GoodL _ _ _) goodL_no fun _ h => ?_
  subst h
  refine gE_ok (p := GoodL _ _ _) goodL_no fun h => ?_
  subst h
  refine mBox_ok (p := GoodL _ _ _) goodL_no fun _ _ h => ?_
  subst h
  refine gC_ok (p := GoodL _ _ _) goodL_no fun _ _ h => ?_
  subst h
  refine rV_ok (p := GoodL _ _ _) goodL_no fun _ h => ?_
  subst h
  refine vNil_ok (p := GoodL _ _ _) goodL_no fun h => ?_
  subst h
  refine gC_ok (p := GoodL _ _ _) goodL_no fun _ _ h => ?_
  subst h
  refine rV_ok (p := GoodL _ _ _) goodL_no fun _ h => ?_
  subst h
  refine vNil_ok (p := GoodL _ _ _) goodL_no fun h => ?_
  subst h
  refine gC_ok (p := GoodL _ _ _) goodL_no fun _ _ h => ?_
  subst h
  refine rV_ok (p := GoodL _ _ _) goodL_no fun _ h => ?_
  subst h
  refine vI_ok (p := GoodL _ _ _) goodL_no fun _ h => ?_
  subst h
  refine gE_ok (p := GoodL _ _ _) goodL_no fun h => ?_
  subst h
  refine mRow_ok (p := GoodL _ _ _) goodL_no fun _ _ h => ?_
  subst h
  refine mBox_ok (p := GoodL _ _ _) goodL_no fun _ _ h => ?_
  subst h
  refine gC_ok (p := GoodL _ _ _) goodL_no fun _ _ h => ?_
  subst h
  refine rRow_ok (p := GoodL _ _ _) goodL_no fun h => ?_
  subst h
  refine gC_ok (p := GoodL _ _ _) goodL_no fun _ _ h => ?_
  subst h
  refine rRow_ok (p := GoodL _ _ _) goodL_no fun h => ?_
  subst h
  refine gC_ok (p := GoodL _ _ _) goodL_no fun _ _ h => ?_
  subst h
  refine rV_ok (p := GoodL _ _ _) goodL_no fun _ h => ?_
  subst h
  refine vI_ok (p := GoodL _ _ _) goodL_no fun _ h => ?_
  subst h
  refine gE_ok (p := GoodL _ _ _) goodL_no fun h => ?_
  subst h
  refine mRow_ok (p := GoodL _ _ _) goodL_no fun _ _ h => ?_
  subst h
  refine mRow_ok (p := GoodL _ _ _) goodL_no fun _ _ h => ?_
  subst h
  refine gE_ok (p := GoodL _ _ _) goodL_no fun h => ?_
  subst h
  refine gN_ok (p := GoodL _ _ _) goodL_no fun h => ?_
  subst h
  exact f25.l11.good k _ _ _ _ _ _ _ _
theorem f25.l7.nat {R : Type} (k : Nat) (rec_ : Int → Int → Int → (List S98) → Int → (List (List S95)) → Option (Int × (List S98) × Int × (List (List S95)))) (g : (Int × (List S98) × Int × (List (List S95))) → Option R) (a4 : Int) (a5 : Int) (a6 : Int) (xs7 : List S98) (a8 : Int) (xs9 : List (List S95)) : (f25.l7.step k rec_ some a4 a5 a6 xs7 a8 xs9).bind g = f25.l7.step k (fun a4 a5 a6 xs7 a8 xs9 => (rec_ a4 a5 a6 xs7 a8 xs9).bind g) g a4 a5 a6 xs7 a8 xs9 := by
  simp only [f25.l7.step, bind_ite, bind_sum, Option.bind_assoc, Option.bind_some, Option.bind_none]
theorem f25.l7.good (k : Nat) (a4 : Int) (a5 : Int) (a6 : Int) (xs7 : List S98) (a8 : Int) (xs9 : List (List S95)) : GoodL (f25.X k) (nthC 0 (loopsOf (bodyOf Try.f25))) (f25.l7.st a4 a5 a6 xs7 a8 xs9) { α := (Int × (List S98) × Int × (List (List S95))), o := f25.l7 k k a4 a5 a6 xs7 a8 xs9, w := f25.l7.w } :=
  loop_good (ι := Int × Int × Int × (List S98) × Int × (List (List S95))) (α := (Int × (List S98) × Int × (List (List S95)))) (fun i => f25.l7.st i.1 i.2.1 i.2.2.1 i.2.2.2.1 i.2.2.2.2.1 i.2.2.2.2.2) (fun j i => f25.l7 k j i.1 i.2.1 i.2.2.1 i.2.2.2.1 i.2.2.2.2.1 i.2.2.2.2.2) f25.l7.w (fun rec_ ret i => f25.l7.step k (fun a4 a5 a6 xs7 a8 xs9 => rec_ (a4, a5, a6, xs7, a8, xs9)) ret i.1 i.2.1 i.2.2.1 i.2.2.2.1 i.2.2.2.2.1 i.2.2.2.2.2)
    (fun _ => rfl) (fun _ _ => rfl) (fun rec_ g i => f25.l7.nat k _ g i.1 i.2.1 i.2.2.1 i.2.2.2.1 i.2.2.2.2.1 i.2.2.2.2.2) (fun {R} i0 i rec_ K => by kernel_rfl) k (a4, a5, a6, xs7, a8, xs9)
theorem f25.l7.all (k : Nat) (S : St env) : GoodL (f25.X k) (nthC 0 (loopsOf (bodyOf Try.f25))) S (f25.l7.hd k S.ts S.m S.n) := by
  obtain ⟨ts_, m_, n_⟩ := S
  show GoodL _ _ _ (f25.l7.hd k ts_ m_ n_)
  unfold f25.l7.hd
  refine gTs_ok (p := GoodL _ _ _) goodL_no fun _ h => ?_
  subst h
  refine gV_ok (p := GoodL _ _ _) goodL_no fun _ _ h => ?_
  subst h
  refine rV_ok (p := GoodL _ _ _) goodL_no fun _ h => ?_
  subst h
  refine vI_ok (p := GoodL _ _ _) goodL_no fun _ h => ?_
  subst h
  refine gV_ok (p := GoodL _ _ _) goodL_no fun _ _ h => ?_
  subst h
  refine rBp_ok (p := GoodL _ _ _) goodL_no fun h => ?_
  subst h
  refine gV_ok (p := GoodL _ _ _) goodL_no fun _ _ h => ?_
  subst h
  refine rBp_ok (p := GoodL _ _ _) goodL_no fun h => ?_
  subst h
  refine gV_ok (p := GoodL _ _ _) goodL_no fun _ _ h => ?_
  subst h
  refine rV_ok (p := GoodL _ _ _) goodL_no fun _ h => ?_
  subst h
  refine vI_ok (p := GoodL _ _ _) goodL_no fun _ h => ?_
  subst h
  refine gE_ok (p := GoodL _ _ _) goodL_no fun h => ?_
  subst h
  refine mBox_ok (p := GoodL _ _ _) goodL_no fun _ _ h => ?_
  subst h
  refine gC_ok (p := GoodL _ _ _) goodL_no fun _ _ h => ?_
  subst h
  refine rV_ok (p := GoodL _ _ _) goodL_no fun _ h => ?_
  subst h
  refine vNil_ok (p := GoodL _ _ _) goodL_no fun h => ?_
  subst h
  refine gC_ok (p := GoodL _ _ _) goodL_no fun _ _ h => ?_
  subst h
  refine rV_ok (p := GoodL _ _ _) goodL_no fun _ h => ?_
  subst h
  refine vNil_ok (p := GoodL _ _ _) goodL_no fun h => ?_
  subst h
  refine gC_ok (p := GoodL _ _ _) goodL_no fun _ _ h => ?_
  subst h
  refine rV_ok (p := GoodL _ _ _) goodL_no fun _ h => ?_
  subst h
  refine vI_ok (p := GoodL _ _ _) goodL_no fun _ h => ?_
  subst h
  refine gE_ok (p := GoodL _ _ _) goodL_no fun h => ?_
  subst h
  refine mRow_ok (p := GoodL _ _ _) goodL_no fun _ _ h => ?_
  subst h
  refine mBox_ok (p := GoodL _ _ _) goodL_no fun _ _ h => ?_
  subst h
  refine gC_ok (p := GoodL _ _ _) goodL_no fun _ _ h => ?_
  subst h
  refine rRow_ok (p := GoodL _ _ _) goodL_no fun h => ?_
  subst h
  refine gC_ok (p := GoodL _ _ _) goodL_no fun _ _ h => ?_
  subst h
  refine rRow_ok (p := GoodL _ _ _) goodL_no fun h => ?_
  subst h
  refine gC_ok (p := GoodL _ _ _) goodL_no fun _ _ h => ?_
  subst h
  refine rV_ok (p := GoodL _ _ _) goodL_no fun _ h => ?_
  subst h
  refine vI_ok (p := GoodL _ _ _) goodL_no fun _ h => ?_
  subst h
  refine gE_ok (p := GoodL _ _ _) goodL_no fun h => ?_
  subst h
  refine mRow_ok (p := GoodL _ _ _) goodL_no fun _ _ h => ?_
  subst h
  refine gE_ok (p := GoodL _ _ _) goodL_no fun h => ?_
  subst h
  refine gN_ok (p := GoodL _ _ _) goodL_no fun h => ?_
  subst h
  exact f25.l7.good k _ _ _ _ _ _
theorem f25.nat {R : Type} (k : Nat) (g : ((Int × Int) ⊕ ((List S98) × (List (List S95)) × Int × Int)) → Option R) (a1 : Int) (xs2 : List S98) : f25.step k g a1 xs2 = (f25 k a1 xs2).bind g := by
  simp only [f25, f25.step, bind_ite, bind_sum, Option.bind_assoc, Option.bind_some, Option.bind_none]
theorem f25.ev (k : Nat) (a1 : Int) (xs2 : List S98) : evF (f25.X k) (bodyOf Try.f25) Try.f25.ntmps Try.f25.results.toList [.v (.c (.s (.int .i64 a1))), .v (.c (.sl 98 xs2))] = f25.step k (fun x => f25.w x some) a1 xs2 := by kernel_rfl
theorem f25.hok (k : Nat) : HOK (f25.X k) (bodyOf Try.f25) where
  l := allP_mem (by exact ⟨ls_of (h0 := fun S => f25.l7.hd k S.ts S.m S.n) (by kernel_rfl) (f25.l7.all k), ls_of (h0 := fun S => f25.l11.hd k S.ts S.m S.n) (by kernel_rfl) (f25.l11.all k), trivial⟩)
  j := allP_mem (by exact trivial)
theorem f25.sound0 (k : Nat) : SoundC env Try.prog 25 (f25.hd k) := by
  intro ps_
  show GoodC _ _ _ ps_ (f25.hd k ps_)
  unfold f25.hd
  refine gC_ok (p := GoodC env Try.prog 25 _) goodC_no fun _ _ h => ?_
  subst h
  refine qC_ok (p := GoodC env Try.prog 25 _) goodC_no fun _ h => ?_
  subst h
  refine qS_ok (p := GoodC env Try.prog 25 _) goodC_no fun _ h => ?_
  subst h
  refine vI_ok (p := GoodC env Try.prog 25 _) goodC_no fun _ h => ?_
  subst h
  refine gC_ok (p := GoodC env Try.prog 25 _) goodC_no fun _ _ h => ?_
  subst h
  refine qC_ok (p := GoodC env Try.prog 25 _) goodC_no fun _ h => ?_
  subst h
  refine qSl_ok (p := GoodC env Try.prog 25 _) goodC_no fun _ h => ?_
  subst h
  refine gE_ok (p := GoodC env Try.prog 25 _) goodC_no fun h => ?_
  subst h
  exact fun_good (fun_sound envOK (cs_sound _ (by exact ⟨⟨f65.sound k, f65.fnok⟩, ⟨f66.sound k, f66.fnok⟩, trivial⟩)) (f25.hok k) Try.func25 rfl) ((f25.ev k _ _).trans (f25.nat k _ _ _))
theorem f25.sound (k : Nat) : SoundC env Try.prog 25 (f25.e k).F := soundC_coer (f25.sound0 k) [[.no], [.rd 98]]
theorem f25.fnok : FnOK Try.prog 25 := fn_ok Try.func25 (by kernel_rfl) rfl
def f43.step {R : Type} (k : Nat) (ret : Bool → Option R) (a1 : Int) (a2 : Int) (a3 : Int) : Option R :=
  if (decide (a1 ≥ a2)) = true then
    ret (decide (a1 ≤ a3))
  else
    ret false
def f43 (k : Nat) (a1 : Int) (a2 : Int) (a3 : Int) : Option Bool := f43.step k some a1 a2 a3
def f43.w {R : Type} : Bool → (Res env → Option R) → Option R := fun t4 K => K ⟨.v (.c (.s (.bool t4))), [[], [], []]⟩
theorem f43.wn (x : Bool) : ∃ res, ∀ {R : Type} (K : Res env → Option R), f43.w x K = K res := by
  exact ⟨_, fun _ => rfl⟩
def f43.hd (k : Nat) (ps_ : List (P2 env)) : Cl env :=
  gC Cl.no ps_ fun p_ ps_ => qC Cl.no p_ fun c_ => qS Cl.no c_ fun v_ => vI Cl.no .i64 v_ fun a1 => gC Cl.no ps_ fun p_ ps_ => qC Cl.no p_ fun c_ => qS Cl.no c_ fun v_ => vI Cl.no .i64 v_ fun a2 => gC Cl.no ps_ fun p_ ps_ => qC Cl.no p_ fun c_ => qS Cl.no c_ fun v_ => vI Cl.no .i64 v_ fun a3 => gE Cl.no ps_ <| { α := Bool, o := f43 k a1 a2 a3, w := f43.w, nat := fun x _ => f43.wn x }
def f43.e (k : Nat) : Entry env := ⟨f43.hd k, [], []⟩
def f43.X (k : Nat) : Ctx env := { C := lookE [], L := lookE [], J := lookE [], keep := lookD [], keepX := lookD [], span := lookN [], eff := fun n => memN n [], prep := lookP [], np := 0 }
theorem f43.nat {R : Type} (k : Nat) (g : Bool → Option R) (a1 : Int) (a2 : Int) (a3 : Int) : f43.step k g a1 a2 a3 = (f43 k a1 a2 a3).bind g := by
  simp only [f43, f43.step, bind_ite, bind_sum, Option.bind_assoc, Option.bind_some, Option.bind_none]
theorem f43.ev (k : Nat) (a1 : Int) (a2 : Int) (a3 : Int) : evF (f43.X k) (bodyOf Try.f43) Try.f43.ntmps Try.f43.results.toList [.v (.c (.s (.int .i64 a1))), .v (.c (.s (.int .i64 a2))), .v (.c (.s (.int .i64 a3)))] = f43.step k (fun x => f43.w x some) a1 a2 a3 := by kernel_rfl
theorem f43.hok (k : Nat) : HOK (f43.X k) (bodyOf Try.f43) where
  l := allP_mem (by exact trivial)
  j := allP_mem (by exact trivial)
theorem f43.sound (k : Nat) : SoundC env Try.prog 43 ((f43.e k).F) := by
  intro ps_
  show GoodC _ _ _ ps_ (f43.hd k ps_)
  unfold f43.hd
  refine gC_ok (p := GoodC env Try.prog 43 _) goodC_no fun _ _ h => ?_
  subst h
  refine qC_ok (p := GoodC env Try.prog 43 _) goodC_no fun _ h => ?_
  subst h
  refine qS_ok (p := GoodC env Try.prog 43 _) goodC_no fun _ h => ?_
  subst h
  refine vI_ok (p := GoodC env Try.prog 43 _) goodC_no fun _ h => ?_
  subst h
  refine gC_ok (p := GoodC env Try.prog 43 _) goodC_no fun _ _ h => ?_
  subst h
  refine qC_ok (p := GoodC env Try.prog 43 _) goodC_no fun _ h => ?_
  subst h
  refine qS_ok (p := GoodC env Try.prog 43 _) goodC_no fun _ h => ?_
  subst h
  refine vI_ok (p := GoodC env Try.prog 43 _) goodC_no fun _ h => ?_
  subst h
  refine gC_ok (p := GoodC env Try.prog 43 _) goodC_no fun _ _ h => ?_
  subst h
  refine qC_ok (p := GoodC env Try.prog 43 _) goodC_no fun _ h => ?_
  subst h
  refine qS_ok (p := GoodC env Try.prog 43 _) goodC_no fun _ h => ?_
  subst h
  refine vI_ok (p := GoodC env Try.prog 43 _) goodC_no fun _ h => ?_
  subst h
  refine gE_ok (p := GoodC env Try.prog 43 _) goodC_no fun h => ?_
  subst h
  exact fun_good (fun_sound envOK (cs_sound _ (by exact trivial)) (f43.hok k) Try.func43 rfl) ((f43.ev k _ _ _).trans (f43.nat k _ _ _ _))
theorem f43.says (k : Nat) (a1 : Int) (a2 : Int) (a3 : Int) (t5 : Bool) (h_ : f43 k a1 a2 a3 = some t5) : SoundAt env Try.prog 43 [.v (.c (.s (.int .i64 a1))), .v (.c (.s (.int .i64 a2))), .v (.c (.s (.int .i64 a3)))] ⟨.v (.c (.s (.bool t5))), [[], [], []]⟩ :=
  fun_sound envOK (cs_sound _ (by exact trivial)) (f43.hok k) Try.func43 rfl _ _ (((f43.ev k a1 a2 a3).trans (f43.nat k _ a1 a2 a3)).trans (by rw [h_]; rfl))
theorem f43.fnok : FnOK Try.prog 43 := fn_ok Try.func43 (by kernel_rfl) rfl
def f68.l5.step {R : Type} (k : Nat) (rec_ : Int → (List S98) → Int → Int → Bool → Bool → Bool → Bool → Bool → Bool → Bool → Bool → Bool → Bool → Bool → Bool → Bool → Bool → Bool → Bool → Bool → Bool → Bool → Bool → Bool → Bool → Bool → Bool → Bool → Option R) (ret : (Bool ⊕ (Unit)) → Option R) (a4 : Int) (xs5 : List S98) (a6 : Int) (a7 : Int) (b8 : Bool) (b9 : Bool) (b10 : Bool) (b11 : Bool) (b12 : Bool) (b13 : Bool) (b14 : Bool) (b15 : Bool) (b16 : Bool) (b17 : Bool) (b18 : Bool) (b19 : Bool) (b20 : Bool) (b21 : Bool) (b22 : Bool) (b23 : Bool) (b24 : Bool) (b25 : Bool) (b26 : Bool) (b27 : Bool) (b28 : Bool) (b29 : Bool) (b30 : Bool) (b31 : Bool) (b32 : Bool) : Option R :=
  if (decide (a7 < a6)) = true then
    if (0 : Int) ≤ a7 then
      if a7 < ((List.length xs5 : Nat) : Int) then
        (f43 k (List.getD xs5 (Int.toNat a7) (⟨(0 : Int), (0 : Int), (0 : Int), false⟩ : S98)).f0 (0 : Int) (IntKind.i64.wrap (a4 - (1 : Int)))).bind fun t33 => if (!t33) = false then
            (f43 k (List.getD xs5 (Int.toNat a7) (⟨(0 : Int), (0 : Int), (0 : Int), false⟩ : S98)).f1 (0 : Int) (IntKind.i64.wrap (a4 - (1 : Int)))).bind fun t34 => if (!t34) = false then
                if (decide ((List.getD xs5 (Int.toNat a7) (⟨(0 : Int), (0 : Int), (0 : Int), false⟩ : S98)).f0 = (List.getD xs5 (Int.toNat a7) (⟨(0 : Int), (0 : Int), (0 : Int), false⟩ : S98)).f1)) = false then
                  (f43 k (List.getD xs5 (Int.toNat a7) (⟨(0 : Int), (0 : Int), (0 : Int), false⟩ : S98)).f2 (1 : Int) (16 : Int)).bind fun t35 => if (!t35) = false then
                      if (0 : Int) ≤ (List.getD xs5 (Int.toNat a7) (⟨(0 : Int), (0 : Int), (0 : Int), false⟩ : S98)).f0 then
                        if (List.getD xs5 (Int.toNat a7) (⟨(0 : Int), (0 : Int), (0 : Int), false⟩ : S98)).f0 < (5 : Int) then
                          if (0 : Int) ≤ (List.getD xs5 (Int.toNat a7) (⟨(0 : Int), (0 : Int), (0 : Int), false⟩ : S98)).f1 then
                            if (List.getD xs5 (Int.toNat a7) (⟨(0 : Int), (0 : Int), (0 : Int), false⟩ : S98)).f1 < (5 : Int) then
                              if (((Int.toNat (List.getD xs5 (Int.toNat a7) (⟨(0 : Int), (0 : Int), (0 : Int), false⟩ : S98)).f0) * 5) + ((Int.toNat (List.getD xs5 (Int.toNat a7) (⟨(0 : Int), (0 : Int), (0 : Int), false⟩ : S98)).f1) * 1)) < 25 then
                                if (List.getD [b8, b9, b10, b11, b12, b13, b14, b15, b16, b17, b18, b19, b20, b21, b22, b23, b24, b25, b26, b27, b28, b29, b30, b31, b32] (((Int.toNat (List.getD xs5 (Int.toNat a7) (⟨(0 : Int), (0 : Int), (0 : Int), false⟩ : S98)).f0) * 5) + ((Int.toNat (List.getD xs5 (Int.toNat a7) (⟨(0 : Int), (0 : Int), (0 : Int), false⟩ : S98)).f1) * 1)) false) = true then
                                  ret (.inl false)
                                else
                                  if (0 : Int) ≤ (List.getD xs5 (Int.toNat a7) (⟨(0 : Int), (0 : Int), (0 : Int), false⟩ : S98)).f0 then
                                    if (List.getD xs5 (Int.toNat a7) (⟨(0 : Int), (0 : Int), (0 : Int), false⟩ : S98)).f0 < (5 : Int) then
                                      if (0 : Int) ≤ (List.getD xs5 (Int.toNat a7) (⟨(0 : Int), (0 : Int), (0 : Int), false⟩ : S98)).f1 then
                                        if (List.getD xs5 (Int.toNat a7) (⟨(0 : Int), (0 : Int), (0 : Int), false⟩ : S98)).f1 < (5 : Int) then
                                          if (((Int.toNat (List.getD xs5 (Int.toNat a7) (⟨(0 : Int), (0 : Int), (0 : Int), false⟩ : S98)).f0) * 5) + ((Int.toNat (List.getD xs5 (Int.toNat a7) (⟨(0 : Int), (0 : Int), (0 : Int), false⟩ : S98)).f1) * 1)) < 25 then
                                            if (0 : Int) ≤ (List.getD xs5 (Int.toNat a7) (⟨(0 : Int), (0 : Int), (0 : Int), false⟩ : S98)).f1 then
                                              if (List.getD xs5 (Int.toNat a7) (⟨(0 : Int), (0 : Int), (0 : Int), false⟩ : S98)).f1 < (5 : Int) then
                                                if (0 : Int) ≤ (List.getD xs5 (Int.toNat a7) (⟨(0 : Int), (0 : Int), (0 : Int), false⟩ : S98)).f0 then
                                                  if (List.getD xs5 (Int.toNat a7) (⟨(0 : Int), (0 : Int), (0 : Int), false⟩ : S98)).f0 < (5 : Int) then
                                                    if (((Int.toNat (List.getD xs5 (Int.toNat a7) (⟨(0 : Int), (0 : Int), (0 : Int), false⟩ : S98)).f1) * 5) + ((Int.toNat (List.getD xs5 (Int.toNat a7) (⟨(0 : Int), (0 : Int), (0 : Int), false⟩ : S98)).f0) * 1)) < 25 then
                                                      (let l1_ := (List.set [b8, b9, b10, b11, b12, b13, b14, b15, b16, b17, b18, b19, b20, b21, b22, b23, b24, b25, b26, b27, b28, b29, b30, b31, b32] (((Int.toNat (List.getD xs5 (Int.toNat a7) (⟨(0 : Int), (0 : Int), (0 : Int), false⟩ : S98)).f0) * 5) + ((Int.toNat (List.getD xs5 (Int.toNat a7) (⟨(0 : Int), (0 : Int), (0 : Int), false⟩ : S98)).f1) * 1)) true); let l2_ := (List.set [(List.getD l1_ 0 false), (List.getD l1_ 1 false), (List.getD l1_ 2 false), (List.getD l1_ 3 false), (List.getD l1_ 4 false), (List.getD l1_ 5 false), (List.getD l1_ 6 false), (List.getD l1_ 7 false), (List.getD l1_ 8 false), (List.getD l1_ 9 false), (List.getD l1_ 10 false), (List.getD l1_ 11 false), (List.getD l1_ 12 false), (List.getD l1_ 13 false), (List.getD l1_ 14 false), (List.getD l1_ 15 false), (List.getD l1_ 16 false), (List.getD l1_ 17 false), (List.getD l1_ 18 false), (List.getD l1_ 19 false), (List.getD l1_ 20 false), (List.getD l1_ 21 false), (List.getD l1_ 22 false), (List.getD l1_ 23 false), (List.getD l1_ 24 false)] (((Int.toNat (List.getD xs5 (Int.toNat a7) (⟨(0 : Int), (0 : Int), (0 : Int), false⟩ : S98)).f1) * 5) + ((Int.toNat (List.getD xs5 (Int.toNat a7) (⟨(0 : Int), (0 : Int), (0 : Int), false⟩ : S98)).f0) * 1)) true); rec_ a4 xs5 a6 (IntKind.i64.wrap (a7 + (1 : Int))) (List.getD l2_ 0 false) (List.getD l2_ 1 false) (List.getD l2_ 2 false) (List.getD l2_ 3 false) (List.getD l2_ 4 false) (List.getD l2_ 5 false) (List.getD l2_ 6 false) (List.getD l2_ 7 false) (List.getD l2_ 8 false) (List.getD l2_ 9 false) (List.getD l2_ 10 false) (List.getD l2_ 11 false) (List.getD l2_ 12 false) (List.getD l2_ 13 false) (List.getD l2_ 14 false) (List.getD l2_ 15 false) (List.getD l2_ 16 false) (List.getD l2_ 17 false) (List.getD l2_ 18 false) (List.getD l2_ 19 false) (List.getD l2_ 20 false) (List.getD l2_ 21 false) (List.getD l2_ 22 false) (List.getD l2_ 23 false) (List.getD l2_ 24 false))
                                                    else none
                                                  else none
                                                else none
                                              else none
                                            else none
                                          else none
                                        else none
                                      else none
                                    else none
                                  else none
                              else none
                            else none
                          else none
                        else none
                      else none
                    else
                      ret (.inl false)
                else
                  ret (.inl false)
              else
                ret (.inl false)
          else
            ret (.inl false)
      else none
    else none
  else
    ret (.inr ())
def f68.l5 (k : Nat) : Nat → Int → (List S98) → Int → Int → Bool → Bool → Bool → Bool → Bool → Bool → Bool → Bool → Bool → Bool → Bool → Bool → Bool → Bool → Bool → Bool → Bool → Bool → Bool → Bool → Bool → Bool → Bool → Bool → Bool → Option (Bool ⊕ (Unit))
  | 0, _, _, _, _, _, _, _, _, _, _, _, _, _, _, _, _, _, _, _, _, _, _, _, _, _, _, _, _, _ => none
  | j + 1, a4, xs5, a6, a7, b8, b9, b10, b11, b12, b13, b14, b15, b16, b17, b18, b19, b20, b21, b22, b23, b24, b25, b26, b27, b28, b29, b30, b31, b32 => f68.l5.step k (fun a4 xs5 a6 a7 b8 b9 b10 b11 b12 b13 b14 b15 b16 b17 b18 b19 b20 b21 b22 b23 b24 b25 b26 b27 b28 b29 b30 b31 b32 => f68.l5 k j a4 xs5 a6 a7 b8 b9 b10 b11 b12 b13 b14 b15 b16 b17 b18 b19 b20 b21 b22 b23 b24 b25 b26 b27 b28 b29 b30 b31 b32) some a4 xs5 a6 a7 b8 b9 b10 b11 b12 b13 b14 b15 b16 b17 b18 b19 b20 b21 b22 b23 b24 b25 b26 b27 b28 b29 b30 b31 b32
def f68.l5.w {R : Type} : (Bool ⊕ (Unit)) → (Exit → St env → Option R) → Option R := fun x K => Sum.elim (fun t38 => K .ret ⟨fullT [4] 0 71 [.v (.c (.s (.bool t38)))], [], 1138⟩) (fun t39 => K (.exit 0) ⟨fullT [] 0 71 [], [], 1138⟩) x
def f68.l5.st (a4 : Int) (xs5 : List S98) (a6 : Int) (a7 : Int) (b8 : Bool) (b9 : Bool) (b10 : Bool) (b11 : Bool) (b12 : Bool) (b13 : Bool) (b14 : Bool) (b15 : Bool) (b16 : Bool) (b17 : Bool) (b18 : Bool) (b19 : Bool) (b20 : Bool) (b21 : Bool) (b22 : Bool) (b23 : Bool) (b24 : Bool) (b25 : Bool) (b26 : Bool) (b27 : Bool) (b28 : Bool) (b29 : Bool) (b30 : Bool) (b31 : Bool) (b32 : Bool) : St env := ⟨fullT [0, 5, 16, 17, 18] 0 71 [.v (.c (.s (.int .i64 a4))), .v (.c (.bp 146 0)), .v (.c (.imm 98 xs5)), .v (.c (.s (.int .i64 a6))), .v (.c (.s (.int .i64 a7)))], [(146, .box [.s (.bool b8), .s (.bool b9), .s (.bool b10), .s (.bool b11), .s (.bool b12), .s (.bool b13), .s (.bool b14), .s (.bool b15), .s (.bool b16), .s (.bool b17), .s (.bool b18), .s (.bool b19), .s (.bool b20), .s (.bool b21), .s (.bool b22), .s (.bool b23), .s (.bool b24), .s (.bool b25), .s (.bool b26), .s (.bool b27), .s (.bool b28), .s (.bool b29), .s (.bool b30), .s (.bool b31), .s (.bool b32)])], 210⟩
def f68.l5.hd (k : Nat) (ts_ : List (AV env)) (mm_ : Mem env) (n_ : Nat) : LCl env :=
  gTs LCl.no [0, 5, 16, 17, 18] 71 ts_ fun l_ => gV LCl.no l_ fun a_ l_ => rV LCl.no a_ fun v_ => vI LCl.no .i64 v_ fun a4 => gV LCl.no l_ fun a_ l_ => rBp LCl.no 146 0 a_ <| gV LCl.no l_ fun a_ l_ => rImm LCl.no 98 a_ fun xs5 => gV LCl.no l_ fun a_ l_ => rV LCl.no a_ fun v_ => vI LCl.no .i64 v_ fun a6 => gV LCl.no l_ fun a_ l_ => rV LCl.no a_ fun v_ => vI LCl.no .i64 v_ fun a7 => gE LCl.no l_ <| mBox LCl.no 146 mm_ fun c_ m_ => gC LCl.no c_ fun a_ c_ => rV LCl.no a_ fun v_ => vB LCl.no v_ fun b8 => gC LCl.no c_ fun a_ c_ => rV LCl.no a_ fun v_ => vB LCl.no v_ fun b9 => gC LCl.no c_ fun a_ c_ => rV LCl.no a_ fun v_ => vB LCl.no v_ fun b10 => gC LCl.no c_ fun a_ c_ => rV LCl.no a_ fun v_ => vB LCl.no v_ fun b11 => gC LCl.no c_ fun a_ c_ => rV LCl.no a_ fun v_ => vB LCl.no v_ fun b12 => gC LCl.no c_ fun a_ c_ => rV LCl.no a_ fun v_ => vB LCl.no v_ fun b13 => gC LCl.no c_ fun a_ c_ => rV LCl.no a_ fun v_ => vB LCl.no v_ fun b14 => gC LCl.no c_ fun a_ c_ => rV LCl.no a_ fun v_ => vB LCl.no v_ fun b15 => gC LCl.no c_ fun a_ c_ => rV LCl.no a_ fun v_ => vB LCl.no v_ fun b16 => gC LCl.no c_ fun a_ c_ => rV LCl.no a_ fun v_ => vB LCl.no v_ fun b17 => gC LCl.no c_ fun a_ c_ => rV LCl.no a_ fun v_ => vB LCl.no v_ fun b18 => gC LCl.no c_ fun a_ c_ => rV LCl.no a_ fun v_ => vB LCl.no v_ fun b19 => gC LCl.no c_ fun a_ c_ => rV LCl.no a_ fun v_ => vB LCl.no v_ fun b20 => gC LCl.no c_ fun a_ c_ => rV LCl.no a_ fun v_ => vB LCl.no v_ fun b21 => gC LCl.no c_ fun a_ c_ => rV LCl.no a_ fun v_ => vB LCl.no v_ fun b22 => gC LCl.no c_ fun a_ c_ => rV LCl.no a_ fun v_ => vB LCl.no v_ fun b23 => gC LCl.no c_ fun a_ c_ => rV LCl.no a_ fun v_ => vB LCl.no v_ fun b24 => gC LCl.no c_ fun a_ c_ => rV LCl.no a_ fun v_ => vB LCl.no v_ fun b25 => gC LCl.no c_ fun a_ c_ => rV LCl.no a_ fun v_ => vB LCl.no v_ fun b26 => gC LCl.no c_ fun a_ c_ => rV LCl.no a_ fun v_ => vB LCl.no v_ fun b27 => gC LCl.no c_ fun a_ c_ => rV LCl.no a_ fun v_ => vB LCl.no v_ fun b28 => gC LCl.no c_ fun a_ c_ => rV LCl.no a_ fun v_ => vB LCl.no v_ fun b29 => gC LCl.no c_ fun a_ c_ => rV LCl.no a_ fun v_ => vB LCl.no v_ fun b30 => gC LCl.no c_ fun a_ c_ => rV LCl.no a_ fun v_ => vB LCl.no v_ fun b31 => gC LCl.no c_ fun a_ c_ => rV LCl.no a_ fun v_ => vB LCl.no v_ fun b32 => gE LCl.no c_ <| gE LCl.no m_ <| gN LCl.no 210 n_ { α := Bool ⊕ (Unit), o := f68.l5 k k a4 xs5 a6 a7 b8 b9 b10 b11 b12 b13 b14 b15 b16 b17 b18 b19 b20 b21 b22 b23 b24 b25 b26 b27 b28 b29 b30 b31 b32, w := f68.l5.w }
def f68.step {R : Type} (k : Nat) (ret : Bool → Option R) (a1 : Int) (xs2 : List S98) : Option R :=
  (f43 k a1 (1 : Int) (5 : Int)).bind fun t3 => if (!t3) = false then
      if (decide ((((List.length xs2) : Nat) : Int) > (8 : Int))) = true then
        ret false
      else
        (f68.l5 k k a1 xs2 (((List.length xs2) : Nat) : Int) (0 : Int) false false false false false false false false false false false false false false false false false false false false false false false false false).bind (Sum.elim (fun t36 => ret t36) (fun t37 => ret true))
    else
      ret false
def f68 (k : Nat) (a1 : Int) (xs2 : List S98) : Option Bool := f68.step k some a1 xs2
def f68.w {R : Type} : Bool → (Res env → Option R) → Option R := fun t40 K => K ⟨.v (.c (.s (.bool t40))), [[], []]⟩
theorem f68.wn (x : Bool) : ∃ res, ∀ {R : Type} (K : Res env → Option R), f68.w x K = K res := by
  exact ⟨_, fun _ => rfl⟩
def f68.hd (k : Nat) (ps_ : List (P2 env)) : Cl env :=
  gC Cl.no ps_ fun p_ ps_ => qC Cl.no p_ fun c_ => qS Cl.no c_ fun v_ => vI Cl.no .i64 v_ fun a1 => gC Cl.no ps_ fun p_ ps_ => qC Cl.no p_ fun c_ => qSl Cl.no 98 c_ fun xs2 => gE Cl.no ps_ <| { α := Bool, o := f68 k a1 xs2, w := f68.w, nat := fun x _ => f68.wn x }
def f68.e (k : Nat) : Entry env := ⟨fun ps => f68.hd k (coer [[.no], [.rd 98]] ps), [], []⟩
def f68.X (k : Nat) : Ctx env := { C := lookE [(43, f43.e k)], L := lookE [(5, fun S => f68.l5.hd k S.ts S.m S.n)], J := lookE [], keep := lookD [(5, [0, 5, 16, 17, 18])], keepX := lookD [(5, [4])], span := lookN [(5, 928)], eff := fun n => memN n [9], prep := lookP [], np := 0 }
theorem f68.l5.nat {R : Type} (k : Nat) (rec_ : Int → (List S98) → Int → Int → Bool → Bool → Bool → Bool → Bool → Bool → Bool → Bool → Bool → Bool → Bool → Bool → Bool → Bool → Bool → Bool → Bool → Bool → Bool → Bool → Bool → Bool → Bool → Bool → Bool → Option (Bool ⊕ (Unit))) (g : (Bool ⊕ (Unit)) → Option R) (a4 : Int) (xs5 : List S98) (a6 : Int) (a7 : Int) (b8 : Bool) (b9 : Bool) (b10 : Bool) (b11 : Bool) (b12 : Bool) (b13 : Bool) (b14 : Bool) (b15 : Bool) (b16 : Bool) (b17 : Bool) (b18 : Bool) (b19 : Bool) (b20 : Bool) (b21 : Bool) (b22 : Bool) (b23 : Bool) (b24 : Bool) (b25 : Bool) (b26 : Bool) (b27 : Bool) (b28 : Bool) (b29 : Bool) (b30 : Bool) (b31 : Bool) (b32 : Bool) : (f68.l5.step k rec_ some a4 xs5 a6 a7 b8 b9 b10 b11 b12 b13 b14 b15 b16 b17 b18 b19 b20 b21 b22 b23 b24 b25 b26 b27 b28 b29 b30 b31 b32).bind g = f68.l5.step k (fun a4 xs5 a6 a7 b8 b9 b10 b11 b12 b13 b14 b15 b16 b17 b18 b19 b20 b21 b22 b23 b24 b25 b26 b27 b28 b29 b30 b31 b32 => (rec_ a4 xs5 a6 a7 b8 b9 b10 b11 b12 b13 b14 b15 b16 b17 b18 b19 b20 b21 b22 b23 b24 b25 b26 b27 b28 b29 b30 b31 b32).bind g) g a4 xs5 a6 a7 b8 b9 b10 b11 b12 b13 b14 b15 b16 b17 b18 b19 b20 b21 b22 b23 b24 b25 b26 b27 b28 b29 b30 b31 b32 := by
  simp only [f68.l5.step, bind_ite, bind_sum, Option.bind_assoc, Option.bind_some, Option.bind_none]
theorem f68.l5.good (k : Nat) (a4 : Int) (xs5 : List S98) (a6 : Int) (a7 : Int) (b8 : Bool) (b9 : Bool) (b10 : Bool) (b11 : Bool) (b12 : Bool) (b13 : Bool) (b14 : Bool) (b15 : Bool) (b16 : Bool) (b17 : Bool) (b18 : Bool) (b19 : Bool) (b20 : Bool) (b21 : Bool) (b22 : Bool) (b23 : Bool) (b24 : Bool) (b25 : Bool) (b26 : Bool) (b27 : Bool) (b28 : Bool) (b29 : Bool) (b30 : Bool) (b31 : Bool) (b32 : Bool) : GoodL (f68.X k) (nthC 0 (loopsOf (bodyOf Try.f68))) (f68.l5.st a4 xs5 a6 a7 b8 b9 b10 b11 b12 b13 b14 b15 b16 b17 b18 b19 b20 b21 b22 b23 b24 b25 b26 b27 b28 b29 b30 b31 b32) { α := (Bool ⊕ (Unit)), o := f68.l5 k k a4 xs5 a6 a7 b8 b9 b10 b11 b12 b13 b14 b15 b16 b17 b18 b19 b20 b21 b22 b23 b24 b25 b26 b27 b28 b29 b30 b31 b32, w := f68.l5.w } :=
  loop_good (ι := Int × (List S98) × Int × Int × Bool × Bool × Bool × Bool × Bool × Bool × Bool × Bool × Bool × Bool × Bool × Bool × Bool × Bool × Bool × Bool × Bool × Bool × Bool × Bool × Bool × Bool × Bool × Bool × Bool) (α := (Bool ⊕ (Unit))) (fun i => f68.l5.st i.1 i.2.1 i.2.2.1 i.2.2.2.1 i.2.2.2.2.1 i.2.2.2.2.2.1 i.2.2.2.2.2.2.1 i.2.2.2.2.2.2.2.1 i.2.2.2.2.2.2.2.2.1 i.2.2.2.2.2.2.2.2.2.1 i.2.2.2.2.2.2.2.2.2.2.1 i.2.2.2.2.2.2.2.2.2.2.2.1 i.2.2.2.2.2.2.2.2.2.2.2.2.1 i.2.2.2.2.2.2.2.2.2.2.2.2.2.1 i.2.2.2.2.2.2.2.2.2.2.2.2.2.2.1 i.2.2.2.2.2.2.2.2.2.2.2.2.2.2.2.1 i.2.2.2.2.2.2.2.2.2.2.2.2.2.2.2.2.1 i.2.2.2.2.2.2.2.2.2.2.2.2.2.2.2.2.2.1 i.2.2.2.2.2.2.2.2.2.2.2.2.2.2.2.2.2.2.1 i.2.2.2.2.2.2.2.2.2.2.2.2.2.2.2.2.2.2.2.1 i.2.2.2.2.2.2.2.2.2.2.2.2.2.2.2.2.2.2.2.2.1 i.2.2.2.2.2.2.2.2.2.2.2.2.2.2.2.2.2.2.2.2.2.1 i.2.2.2.2.2.2.2.2.2.2.2.2.2.2.2.2.2.2.2.2.2.2.1 i.2.2.2.2.2.2.2.2.2.2.2.2.2.2.2.2.2.2.2.2.2.2.2.1 i.2.2.2.2.2.2.2.2.2.2.2.2.2.2.2.2.2.2.2.2.2.2.2.2.1 i.2.2.2.2.2.2.2.2.2.2.2.2.2.2.2.2.2.2.2.2.2.2.2.2.2.1 i.2.2.2.2.2.2.2.2.2.2.2.2.2.2.2.2.2.2.2.2.2.2.2.2.2.2.1 i.2.2.2.2.2.2.2.2.2.2.2.2.2.2.2.2.2.2.2.2.2.2.2.2.2.2.2.1 i.2.2.2.2.2.2.2.2.2.2.2.2.2.2.2.2.2.2.2.2.2.2.2.2.2.2.2.2) (fun j i => f68.l5 k j i.1 i.2.1 i.2.2.1 i.2.2.2.1 i.2.2.2.2.1 i.2.2.2.2.2.1 i.2.2.2.2.2.2.1 i.2.2.2.2.2.2.2.1 i.2.2.2.2.2.2.2.2.1 i.2.2.2.2.2.2.2.2.2.1 i.2.2.2.2.2.2.2.2.2.2.1 i.2.2.2.2.2.2.2.2.2.2.2.1 i.2.2.2.2.2.2.2.2.2.2.2.2.1 i.2.2.2.2.2.2.2.2.2.2.2.2.2.1 i.2.2.2.2.2.2.2.2.2.2.2.2.2.2.1 i.2.2.2.2.2.2.2.2.2.2.2.2.2.2.2.1 i.2.2.2.2.2.2.2.2.2.2.2.2.2.2.2.2.1 i.2.2.2.2.2.2.2.2.2.2.2.2.2.2.2.2.2.1 i.2.2.2.2.2.2.2.2.2.2.2.2.2.2.2.2.2.2.1 i.2.2.2.2.2.2.2.2.2.2.2.2.2.2.2.2.2.2.2.1 i.2.2.2.2.2.2.2.2.2.2.2.2.2.2.2.2.2.2.2.2.1 i.2.2.2.2.2.2.2.2.2.2.2.2.2.2.2.2.2.2.2.2.2.1 i.2.2.2.2.2.2.2.2.2.2.2.2.2.2.2.2.2.2.2.2.2.2.1 i.2.2.2.2.2.2.2.2.2.2.2.2.2.2.2.2.2.2.2.2.2.2.2.1 i.2.2.2.2.2.2.2.2.2.2.2.2.2.2.2.2.2.2.2.2.2.2.2.2.1 i.2.2.2.2.2.2.2.2.2.2.2.2.2.2.2.2.2.2.2.2.2.2.2.2.2.1 i.2.2.2.2.2.2.2.2.2.2.2.2.2.2.2.2.2.2.2.2.2.2.2.2.2.2.1 i.2.2.2.2.2.2.2.2.2.2.2.2.2.2.2.2.2.2.2.2.2.2.2.2.2.2.2.1 i.2.2.2.2.2.2.2.2.2.2.2.2.2.2.2.2.2.2.2.2.2.2.2.2.2.2.2.2) f68.l5.w (fun rec_ ret i => f68.l5.step k (fun a4 xs5 a6 a7 b8 b9 b10 b11 b12 b13 b14 b15 b16 b17 b18 b19 b20 b21 b22 b23 b24 b25 b26 b27 b28 b29 b30 b31 b32 => rec_ (a4, xs5, a6, a7, b8, b9, b10, b11, b12, b13, b14, b15, b16, b17, b18, b19, b20, b21, b22, b23, b24, b25, b26, b27, b28, b29, b30, b31, b32)) ret i.1 i.2.1 i.2.2.1 i.2.2.2.1 i.2.2.2.2.1 i.2.2.2.2.2.1 i.2.2.2.2.2.2.1 i.2.2.2.2.2.2.2.1 i.2.2.2.2.2.2.2.2.1 i.2.2.2.2.2.2.2.2.2.1 i.2.2.2.2.2.2.2.2.2.2.1 i.2.2.2.2.2.2.2.2.2.2.2.1 i.2.2.2.2.2.2.2.2.2.2.2.2.1 i.2.2.2.2.2.2.2.2.2.2.2.2.2.1 i.2.2.2.2.2.2.2.2.2.2.2.2.2.2.1 i.2.2.2.2.2.2.2.2.2.2.2.2.2.2.2.1 i.2.2.2.2.2.2.2.2.2.2.2.2.2.2.2.2.1 i.2.2.2.2.2.2.2.2.2.2.2.2.2.2.2.2.2.1 i.2.2.2.2.2.2.2.2.2.2.2.2.2.2.2.2.2.2.1 i.2.2.2.2.2.2.2.2.2.2.2.2.2.2.2.2.2.2.2.1 i.2.2.2.2.2.2.2.2.2.2.2.2.2.2.2.2.2.2.2.2.1 i.2.2.2.2.2.2.2.2.2.2.2.2.2.2.2.2.2.2.2.2.2.1 i.2.2.2.2.2.2.2.2.2.2.2.2.2.2.2.2.2.2.2.2.2.2.1 i.2.2.2.2.2.2.2.2.2.2.2.2.2.2.2.2.2.2.2.2.2.2.2.1 i.2.2.2.2.2.2.2.2.2.2.2.2.2.2.2.2.2.2.2.2.2.2.2.2.1 i.2.2.2.2.2.2.2.2.2.2.2.2.2.2.2.2.2.2.2.2.2.2.2.2.2.1 i.2.2.2.2.2.2.2.2.2.2.2.2.2.2.2.2.2.2.2.2.2.2.2.2.2.2.1 i.2.2.2.2.2.2.2.2.2.2.2.2.2.2.2.2.2.2.2.2.2.2.2.2.2.2.2.1 i.2.2.2.2.2.2.2.2.2.2.2.2.2.2.2.2.2.2.2.2.2.2.2.2.2.2.2.2)
    (fun _ => rfl) (fun _ _ => rfl) (fun rec_ g i => f68.l5.nat k _ g i.1 i.2.1 i.2.2.1 i.2.2.2.1 i.2.2.2.2.1 i.2.2.2.2.2.1 i.2.2.2.2.2.2.1 i.2.2.2.2.2.2.2.1 i.2.2.2.2.2.2.2.2.1 i.2.2.2.2.2.2.2.2.2.1 i.2.2.2.2.2.2.2.2.2.2.1 i.2.2.2.2.2.2.2.2.2.2.2.1 i.2.2.2.2.2.2.2.2.2.2.2.2.1 i.2.2.2.2.2.2.2.2.2.2.2.2.2.1 i.2.2.2.2.2.2.2.2.2.2.2.2.2.2.1 i.2.2.2.2.2.2.2.2.2.2.2.2.2.2.2.1 i.2.2.2.2.2.2.2.2.2.2.2.2.2.2.2.2.1 i.2.2.2.2.2.2.2.2.2.2.2.2.2.2.2.2.2.1 i.2.2.2.2.2.2.2.2.2.2.2.2.2.2.2.2.2.2.1 i.2.2.2.2.2.2.2.2.2.2.2.2.2.2.2.2.2.2.2.1 i.2.2.2.2.2.2.2.2.2.2.2.2.2.2.2.2.2.2.2.2.1 i.2.2.2.2.2.2.2.2.2.2.2.2.2.2.2.2.2.2.2.2.2.1 i.2.2.2.2.2.2.2.2.2.2.2.2.2.2.2.2.2.2.2.2.2.2.1 i.2.2.2.2.2.2.2.2.2.2.2.2.2.2.2.2.2.2.2.2.2.2.2.1 i.2.2.2.2.2.2.2.2.2.2.2.2.2.2.2.2.2.2.2.2.2.2.2.2.1 i.2.2.2.2.2.2.2.2.2.2.2.2.2.2.2.2.2.2.2.2.2.2.2.2.2.1 i.2.2.2.2.2.2.2.2.2.2.2.2.2.2.2.2.2.2.2.2.2.2.2.2.2.2.1 i.2.2.2.2.2.2.2.2.2.2.2.2.2.2.2.2.2.2.2.2.2.2.2.2.2.2.2.1 i.2.2.2.2.2.2.2.2.2.2.2.2.2.2.2.2.2.2.2.2.2.2.2.2.2.2.2.2) (fun {R} i0 i rec_ K => by kernel_rfl) k (a4, xs5, a6, a7, b8, b9, b10, b11, b12, b13, b14, b15, b16, b17, b18, b19, b20, b21, b22, b23, b24, b25, b26, b27, b28, b29, b30, b31, b32)
theorem f68.l5.all (k : Nat) (S : St env) : GoodL (f68.X k) (nthC 0 (loopsOf (bodyOf Try.f68))) S (f68.l5.hd k S.ts S.m S.n) := by
  obtain ⟨ts_, m_, n_⟩ := S
  show GoodL _ _ _ (f68.l5.hd k ts_ m_ n_)
  unfold f68.l5.hd
  refine gTs_ok (p := GoodL _ _ _) goodL_no fun _ h => ?_
  subst h
  refine gV_ok (p := GoodL _ _ _) goodL_no fun _ _ h => ?_
  subst h
  refine rV_ok (p := GoodL _ _ _) goodL_no fun _ h => ?_
  subst h
  refine vI_ok (p := GoodL _ _ _) goodL_no fun _ h => ?_
  subst h
  refine gV_ok (p := GoodL _ _ _) goodL_no fun _ _ h => ?_
  subst h
  refine rBp_ok (p := GoodL _ _ _) goodL_no fun h => ?_
  subst h
  refine gV_ok (p := GoodL _ _ _) goodL_no fun _ _ h => ?_
  subst h
  refine rImm_ok (p := GoodL _ _ _) goodL_no fun _ h => ?_
  subst h
  refine gV_ok (p := GoodL _ _ _) goodL_no fun _ _ h => ?_
  subst h
  refine rV_ok (p := GoodL _ _ _) goodL_no fun _ h => ?_
  subst h
  refine vI_ok (p := GoodL _ _ _) goodL_no fun _ h => ?_
  subst h
  refine gV_ok (p := GoodL _ _ _) goodL_no fun _ _ h => ?_
  subst h
  refine rV_ok (p := GoodL _ _ _) goodL_no fun _ h => ?_
  subst h
  refine vI_ok (p := GoodL _ _ _) goodL_no fun _ h => ?_
  subst h
  refine gE_ok (p := GoodL _ _ _) goodL_no fun h => ?_
  subst h
  refine mBox_ok (p := GoodL _ _ _) goodL_no fun _ _ h => ?_
  subst h
  refine gC_ok (p := GoodL _ _ _) goodL_no fun _ _ h => ?_
  subst h
  refine rV_ok (p := GoodL _ _ _) goodL_no fun _ h => ?_
  subst h
  refine vB_ok (p := GoodL _ _ _) goodL_no fun _ h => ?_
  subst h
  refine gC_ok (p := GoodL _ _ _) goodL_no fun _ _ h => ?_
  subst h
  refine rV_ok (p := GoodL _ _ _) goodL_no fun _ h => ?_
  subst h
  refine vB_ok (p := GoodL _ _ _) goodL_no fun _ h => ?_
  subst h
  refine gC_ok (p := GoodL _ _ _) goodL_no fun _ _ h => ?_
  subst h
  refine rV_ok (p := GoodL _ _ _) goodL_no fun _ h => ?_
  subst h
  refine vB_ok (p := GoodL _ _ _) goodL_no fun _ h => ?_
  subst h
  refine gC_ok (p := GoodL _ _ _) goodL_no fun _ _ h => ?_
  subst h
  refine rV_ok (p := GoodL _ _ _) goodL_no fun _ h => ?_
  subst h
  refine vB_ok (p := GoodL _ _ _) goodL_no fun _ h => ?_
  subst h
  refine gC_ok (p := GoodL _ _ _) goodL_no fun _ _ h => ?_
  subst h
  refine rV_ok (p := GoodL _ _ _) goodL_no fun _ h => ?_
  subst h
  refine vB_ok (p := GoodL _ _ _) goodL_no fun _ h => ?_
  subst h
  refine gC_ok (p := GoodL _ _ _) goodL_no fun _ _ h => ?_
  subst h
  refine rV_ok (p := GoodL _ _ _) goodL_no fun _ h => ?_
  subst h
  refine vB_ok (p := GoodL _ _ _) goodL_no fun _ h => ?_
  subst h
  refine gC_ok (p := GoodL _ _ _) goodL_no fun _ _ h => ?_
  subst h
  refine rV_ok (p := GoodL _ _ _) goodL_no fun _ h => ?_
  subst h
  refine vB_ok (p := GoodL _ _ _) goodL_no fun _ h => ?_
  subst h
  refine gC_ok (p := GoodL _ _ _) goodL_no fun _ _ h => ?_
  subst h
  refine rV_ok (p := GoodL _ _ _) goodL_no fun _ h => ?_
  subst h
  refine vB_ok (p := GoodL _ _ _) goodL_no fun _ h => ?_
  subst h
  refine gC_ok (p := GoodL _ _ _) goodL_no fun _ _ h => ?_
  subst h
  refine rV_ok (p := GoodL _ _ _) goodL_no fun _ h => ?_
  subst h
  refine vB_ok (p := GoodL _ _ _) goodL_no fun _ h => ?_
  subst h
  refine gC_ok (p := GoodL _ _ _) goodL_no fun _ _ h => ?_
  subst h
  refine rV_ok (p := GoodL _ _ _) goodL_no fun _ h => ?_
  subst h
  refine vB_ok (p := GoodL _ _ _) goodL_no fun _ h => ?_
  subst h
  refine gC_ok (p := GoodL _ _ _) goodL_no fun _ _ h => ?_
  subst h
  refine rV_ok (p := GoodL _ _ _) goodL_no fun _ h => ?_
  subst h
  refine vB_ok (p := GoodL _ _ _) goodL_no fun _ h => ?_
  subst h
  refine gC_ok (p := GoodL _ _ _) goodL_no fun _ _ h => ?_
  subst h
  refine rV_ok (p := GoodL _ _ _) goodL_no fun _ h => ?_
  subst h
  refine vB_ok (p := GoodL _ _ _) goodL_no fun _ h => ?_
  subst h
  refine gC_ok (p := GoodL _ _ _) goodL_no fun _ _ h => ?_
  subst h
  refine rV_ok (p := GoodL _ _ _) goodL_no fun _ h => ?_
  subst h
  refine vB_ok (p := GoodL _ _ _) goodL_no fun _ h => ?_
  subst h
  refine gC_ok (p := GoodL _ _ _) goodL_no fun _ _ h => ?_
  subst h
  refine rV_ok (p := GoodL _ _ _) goodL_no fun _ h => ?_
  subst h
  refine vB_ok (p := GoodL _ _ _) goodL_no fun _ h => ?_
  subst h
  refine gC_ok (p := GoodL _ _ _) goodL_no fun _ _ h => ?_
  subst h
  refine rV_ok (p := GoodL _ _ _) goodL_no fun _ h => ?_
  subst h
  refine vB_ok (p := GoodL _ _ _) goodL_no fun _ h => ?_
  subst h
  refine gC_ok (p := GoodL _ _ _) goodL_no fun _ _ h => ?_
  subst h
  refine rV_ok (p := GoodL _ _ _) goodL_no fun _ h => ?_
  subst h
  refine vB_ok (p := GoodL _ _ _) goodL_no fun _ h => ?_
  subst h
  refine gC_ok (p := GoodL _ _ _) goodL_no fun _ _ h => ?_
  subst h
  refine rV_ok (p := GoodL _ _ _) goodL_no fun _ h => ?_
  subst h
  refine vB_ok (p := GoodL _ _ _) goodL_no fun _ h => ?_
  subst h
  refine gC_ok (p := GoodL _ _ _) goodL_no fun _ _ h => ?_
  subst h
  refine rV_ok (p := GoodL _ _ _) goodL_no fun _ h => ?_
  subst h
  refine vB_ok (p := GoodL _ _ _) goodL_no fun _ h => ?_
  subst h
  refine gC_ok (p := GoodL _ _ _) goodL_no fun _ _ h => ?_
  subst h
  refine rV_ok (p := GoodL _ _ _) goodL_no fun _ h => ?_
  subst h
  refine vB_ok (p := GoodL _ _ _) goodL_no fun _ h => ?_
  subst h
  refine gC_ok (p := GoodL _ _ _) goodL_no fun _ _ h => ?_
  subst h
  refine rV_ok (p := GoodL _ _ _) goodL_no fun _ h => ?_
  subst h
  refine vB_ok (p := GoodL _ _ _) goodL_no fun _ h => ?_
  subst h
  refine gC_ok (p := GoodL _ _ _) goodL_no fun _ _ h => ?_
  subst h
  refine rV_ok (p := GoodL _ _ _) goodL_no fun _ h => ?_
  subst h
  refine vB_ok (p := GoodL _ _ _) goodL_no fun _ h => ?_
  subst h
  refine gC_ok (p := GoodL _ _ _) goodL_no fun _ _ h => ?_
  subst h
  refine rV_ok (p := GoodL _ _ _) goodL_no fun _ h => ?_
  subst h
  refine vB_ok (p := GoodL _ _ _) goodL_no fun _ h => ?_
  subst h
  refine gC_ok (p := GoodL _ _ _) goodL_no fun _ _ h => ?_
  subst h
  refine rV_ok (p := GoodL _ _ _) goodL_no fun _ h => ?_
  subst h
  refine vB_ok (p := GoodL _ _ _) goodL_no fun _ h => ?_
  subst h
  refine gC_ok (p := GoodL _ _ _) goodL_no fun _ _ h => ?_
  subst h
  refine rV_ok (p := GoodL _ _ _) goodL_no fun _ h => ?_
  subst h
  refine vB_ok (p := GoodL _ _ _) goodL_no fun _ h => ?_
  subst h
  refine gC_ok (p := GoodL _ _ _) goodL_no fun _ _ h => ?_
  subst h
  refine rV_ok (p := GoodL _ _ _) goodL_no fun _ h => ?_
  subst h
  refine vB_ok (p := GoodL _ _ _) goodL_no fun _ h => ?_
  subst h
  refine gE_ok (p := GoodL _ _ _) goodL_no fun h => ?_
  subst h
  refine gE_ok (p := GoodL _ _ _) goodL_no fun h => ?_
  subst h
  refine gN_ok (p := GoodL _ _ _) goodL_no fun h => ?_
  subst h
  exact f68.l5.good k _ _ _ _ _ _ _ _ _ _ _ _ _ _ _ _ _ _ _ _ _ _ _ _ _ _ _ _ _
theorem f68.nat {R : Type} (k : Nat) (g : Bool → Option R) (a1 : Int) (xs2 : List S98) : f68.step k g a1 xs2 = (f68 k a1 xs2).bind g := by
  simp only [f68, f68.step, bind_ite, bind_sum, Option.bind_assoc, Option.bind_some, Option.bind_none]
theorem f68.ev (k : Nat) (a1 : Int) (xs2 : List S98) : evF (f68.X k) (bodyOf Try.f68) Try.f68.ntmps Try.f68.results.toList [.v (.c (.s (.int .i64 a1))), .v (.c (.sl 98 xs2))] = f68.step k (fun x => f68.w x some) a1 xs2 := by kernel_rfl
theorem f68.hok (k : Nat) : HOK (f68.X k) (bodyOf Try.f68) where
  l := allP_mem (by exact ⟨ls_of (h0 := fun S => f68.l5.hd k S.ts S.m S.n) (by kernel_rfl) (f68.l5.all k), trivial⟩)
  j := allP_mem (by exact trivial)
theorem f68.sound0 (k : Nat) : SoundC env Try.prog 68 (f68.hd k) := by
  intro ps_
  show GoodC _ _ _ ps_ (f68.hd k ps_)
  unfold f68.hd
  refine gC_ok (p := GoodC env Try.prog 68 _) goodC_no fun _ _ h => ?_
  subst h
  refine qC_ok (p := GoodC env Try.prog 68 _) goodC_no fun _ h => ?_
  subst h
  refine qS_ok (p := GoodC env Try.prog 68 _) goodC_no fun _ h => ?_
  subst h
  refine vI_ok (p := GoodC env Try.prog 68 _) goodC_no fun _ h => ?_
  subst h
  refine gC_ok (p := GoodC env Try.prog 68 _) goodC_no fun _ _ h => ?_
  subst h
  refine qC_ok (p := GoodC env Try.prog 68 _) goodC_no fun _ h => ?_
  subst h
  refine qSl_ok (p := GoodC env Try.prog 68 _) goodC_no fun _ h => ?_
  subst h
  refine gE_ok (p := GoodC env Try.prog 68 _) goodC_no fun h => ?_
  subst h
  exact fun_good (fun_sound envOK (cs_sound _ (by exact ⟨⟨f43.sound k, f43.fnok⟩, trivial⟩)) (f68.hok k) Try.func68 rfl) ((f68.ev k _ _).trans (f68.nat k _ _ _))
theorem f68.sound (k : Nat) : SoundC env Try.prog 68 (f68.e k).F := soundC_coer (f68.sound0 k) [[.no], [.rd 98]]
theorem f68.says (k : Nat) (a1 : Int) (xs2 : List S98) (t41 : Bool) (h_ : f68 k a1 xs2 = some t41) : SoundAt env Try.prog 68 [.v (.c (.s (.int .i64 a1))), .v (.c (.sl 98 xs2))] ⟨.v (.c (.s (.bool t41))), [[], []]⟩ :=
  fun_sound envOK (cs_sound _ (by exact ⟨⟨f43.sound k, f43.fnok⟩, trivial⟩)) (f68.hok k) Try.func68 rfl _ _ (((f68.ev k a1 xs2).trans (f68.nat k _ a1 xs2)).trans (by rw [h_]; rfl))
theorem f68.fnok : FnOK Try.prog 68 := fn_ok Try.func68 (by kernel_rfl) rfl
def f27.l11.step {R : Type} (k : Nat) (rec_ : Int → Int → Int → Int → Int → Int → Int → (List S98) → (List (List S95)) → Int → Option R) (ret : (Int × Int × Int × Int × Int × (List S98) × (List (List S95)) × Int) → Option R) (a11 : Int) (a12 : Int) (a13 : Int) (a14 : Int) (a15 : Int) (a16 : Int) (a17 : Int) (xs18 : List S98) (xs19 : List (List S95)) (a20 : Int) : Option R :=
  if (decide (a16 < a15)) = true then
    if (0 : Int) ≤ a12 then
      if a12 < ((List.length xs19 : Nat) : Int) then
        if (0 : Int) ≤ a16 then
          if a16 < ((List.length (List.getD xs19 (Int.toNat a12) []) : Nat) : Int) then
            if (Int.toNat a16) < List.length (List.getD xs19 (Int.toNat a12) []) then
              rec_ a11 a12 a13 a14 a15 (IntKind.i64.wrap (a16 + (1 : Int))) a17 xs18 (List.set xs19 (Int.toNat a12) (List.set (List.getD xs19 (Int.toNat a12) []) (Int.toNat a16) (⟨(16 : Int), (-1 : Int), (0 : Int)⟩ : S95))) a20
            else none
          else none
        else none
      else none
    else none
  else
    ret (a11, a12, a13, a14, a17, xs18, xs19, a20)
def f27.l11 (k : Nat) : Nat → Int → Int → Int → Int → Int → Int → Int → (List S98) → (List (List S95)) → Int → Option (Int × Int × Int × Int × Int × (List S98) × (List (List S95)) × Int)
  | 0, _, _, _, _, _, _, _, _, _, _ => none
  | j + 1, a11, a12, a13, a14, a15, a16, a17, xs18, xs19, a20 => f27.l11.step k (fun a11 a12 a13 a14 a15 a16 a17 xs18 xs19 a20 => f27.l11 k j a11 a12 a13 a14 a15 a16 a17 xs18 xs19 a20) some a11 a12 a13 a14 a15 a16 a17 xs18 xs19 a20
def f27.l11.w {R : Type} : (Int × Int × Int × Int × Int × (List S98) × (List (List S95)) × Int) → (Exit → St env → Option R) → Option R := fun t23 K => K (.exit 2) ⟨fullT [0, 4, 6, 7, 27, 28] 0 66 [.v (.c (.s (.int .i64 t23.1))), .v (.c (.bp 2 0)), .v (.c (.bp 194 0)), .v (.c (.s (.int .i64 t23.2.1))), .v (.c (.s (.int .i64 t23.2.2.1))), .v (.c (.s (.int .i64 t23.2.2.2.1)))], [(2, .box [.s (.slice none 0 0), .s (.slice none 0 0), .s (.int .i64 t23.2.2.2.2.1)]), (162, .row true 98 t23.2.2.2.2.2.1), (178, .row true 93 t23.2.2.2.2.2.2.1), (194, .box [.row 162, .row 178, .s (.int .i64 t23.2.2.2.2.2.2.2)])], 706⟩
def f27.l11.st (a11 : Int) (a12 : Int) (a13 : Int) (a14 : Int) (a15 : Int) (a16 : Int) (a17 : Int) (xs18 : List S98) (xs19 : List (List S95)) (a20 : Int) : St env := ⟨fullT [0, 4, 6, 7, 27, 28, 42, 43] 0 66 [.v (.c (.s (.int .i64 a11))), .v (.c (.bp 2 0)), .v (.c (.bp 194 0)), .v (.c (.s (.int .i64 a12))), .v (.c (.s (.int .i64 a13))), .v (.c (.s (.int .i64 a14))), .v (.c (.s (.int .i64 a15))), .v (.c (.s (.int .i64 a16)))], [(2, .box [.s (.slice none 0 0), .s (.slice none 0 0), .s (.int .i64 a17)]), (162, .row true 98 xs18), (178, .row true 93 xs19), (194, .box [.row 162, .row 178, .s (.int .i64 a20)])], 482⟩
def f27.l7.step {R : Type} (k : Nat) (rec_ : Int → Int → Int → Int → (List S98) → (List (List S95)) → Int → Option R) (ret : (Int × (List S98) × (List (List S95)) × Int) → Option R) (a4 : Int) (a5 : Int) (a6 : Int) (a7 : Int) (xs8 : List S98) (xs9 : List (List S95)) (a10 : Int) : Option R :=
  if (decide (a6 < a5)) = true then
    if (0 : Int) ≤ a4 then
      if (Int.toNat a4) * 24 ≤ maxN then
        if (0 : Int) ≤ a6 then
          if a6 < ((List.length xs9 : Nat) : Int) then
            if (0 : Int) ≤ a6 then
              if a6 < ((List.length (List.set xs9 (Int.toNat a6) (List.replicate (Int.toNat a4) (⟨(0 : Int), (0 : Int), (0 : Int)⟩ : S95))) : Nat) : Int) then
                (f27.l11 k k a4 a6 a5 a6 (((List.length (List.getD (List.set xs9 (Int.toNat a6) (List.replicate (Int.toNat a4) (⟨(0 : Int), (0 : Int), (0 : Int)⟩ : S95))) (Int.toNat a6) [])) : Nat) : Int) (0 : Int) a7 xs8 (List.set xs9 (Int.toNat a6) (List.replicate (Int.toNat a4) (⟨(0 : Int), (0 : Int), (0 : Int)⟩ : S95))) a10).bind fun t21 => if (0 : Int) ≤ t21.2.1 then
                    if t21.2.1 < ((List.length t21.2.2.2.2.2.2.1 : Nat) : Int) then
                      if (0 : Int) ≤ t21.2.1 then
                        if t21.2.1 < ((List.length (List.getD t21.2.2.2.2.2.2.1 (Int.toNat t21.2.1) []) : Nat) : Int) then
                          if (Int.toNat t21.2.1) < List.length (List.getD t21.2.2.2.2.2.2.1 (Int.toNat t21.2.1) []) then
                            rec_ t21.1 t21.2.2.1 (IntKind.i64.wrap (t21.2.2.2.1 + (1 : Int))) t21.2.2.2.2.1 t21.2.2.2.2.2.1 (List.set t21.2.2.2.2.2.2.1 (Int.toNat t21.2.1) (List.set (List.getD t21.2.2.2.2.2.2.1 (Int.toNat t21.2.1) []) (Int.toNat t21.2.1) (⟨(0 : Int), t21.2.1, (0 : Int)⟩ : S95))) t21.2.2.2.2.2.2.2
                          else none
                        else none
                      else none
                    else none
                  else none
              else none
            else none
          else none
        else none
      else none
    else none
  else
    ret (a7, xs8, xs9, a10)
def f27.l7 (k : Nat) : Nat → Int → Int → Int → Int → (List S98) → (List (List S95)) → Int → Option (Int × (List S98) × (List (List S95)) × Int)
  | 0, _, _, _, _, _, _, _ => none
  | j + 1, a4, a5, a6, a7, xs8, xs9, a10 => f27.l7.step k (fun a4 a5 a6 a7 xs8 xs9 a10 => f27.l7 k j a4 a5 a6 a7 xs8 xs9 a10) some a4 a5 a6 a7 xs8 xs9 a10
def f27.l7.w {R : Type} : (Int × (List S98) × (List (List S95)) × Int) → (Exit → St env → Option R) → Option R := fun t24 K => K (.exit 0) ⟨fullT [4, 6] 0 66 [.v (.c (.bp 2 0)), .v (.c (.bp 194 0))], [(2, .box [.s (.slice none 0 0), .s (.slice none 0 0), .s (.int .i64 t24.1)]), (162, .row true 98 t24.2.1), (178, .row true 93 t24.2.2.1), (194, .box [.row 162, .row 178, .s (.int .i64 t24.2.2.2)])], 978⟩
def f27.l7.st (a4 : Int) (a5 : Int) (a6 : Int) (a7 : Int) (xs8 : List S98) (xs9 : List (List S95)) (a10 : Int) : St env := ⟨fullT [0, 4, 6, 27, 28] 0 66 [.v (.c (.s (.int .i64 a4))), .v (.c (.bp 2 0)), .v (.c (.bp 194 0)), .v (.c (.s (.int .i64 a5))), .v (.c (.s (.int .i64 a6)))], [(2, .box [.s (.slice none 0 0), .s (.slice none 0 0), .s (.int .i64 a7)]), (162, .row true 98 xs8), (178, .row true 93 xs9), (194, .box [.row 162, .row 178, .s (.int .i64 a10)])], 290⟩
def f27.l11.hd (k : Nat) (ts_ : List (AV env)) (mm_ : Mem env) (n_ : Nat) : LCl env :=
  gTs LCl.no [0, 4, 6, 7, 27, 28, 42, 43] 66 ts_ fun l_ => gV LCl.no l_ fun a_ l_ => rV LCl.no a_ fun v_ => vI LCl.no .i64 v_ fun a11 => gV LCl.no l_ fun a_ l_ => rBp LCl.no 2 0 a_ <| gV LCl.no l_ fun a_ l_ => rBp LCl.no 194 0 a_ <| gV LCl.no l_ fun a_ l_ => rV LCl.no a_ fun v_ => vI LCl.no .i64 v_ fun a12 => gV LCl.no l_ fun a_ l_ => rV LCl.no a_ fun v_ => vI LCl.no .i64 v_ fun a13 => gV LCl.no l_ fun a_ l_ => rV LCl.no a_ fun v_ => vI LCl.no .i64 v_ fun a14 => gV LCl.no l_ fun a_ l_ => rV LCl.no a_ fun v_ => vI LCl.no .i64 v_ fun a15 => gV LCl.no l_ fun a_ l_ => rV LCl.no a_ fun v_ => vI LCl.no .i64 v_ fun a16 => gE LCl.no l_ <| mBox LCl.no 2 mm_ fun c_ m_ => gC LCl.no c_ fun a_ c_ => rV LCl.no a_ fun v_ => vNil LCl.no v_ <| gC LCl.no c_ fun a_ c_ => rV LCl.no a_ fun v_ => vNil LCl.no v_ <| gC LCl.no c_ fun a_ c_ => rV LCl.no a_ fun v_ => vI LCl.no .i64 v_ fun a17 => gE LCl.no c_ <| mRow LCl.no 162 true 98 m_ fun xs18 m_ => mRow LCl.no 178 true 93 m_ fun xs19 m_ => mBox LCl.no 194 m_ fun c_ m_ => gC LCl.no c_ fun a_ c_ => rRow LCl.no 162 a_ <| gC LCl.no c_ fun a_ c_ => rRow LCl.no 178 a_ <| gC LCl.no c_ fun a_ c_ => rV LCl.no a_ fun v_ => vI LCl.no .i64 v_ fun a20 => gE LCl.no c_ <| gE LCl.no m_ <| gN LCl.no 482 n_ { α := Int × Int × Int × Int × Int × (List S98) × (List (List S95)) × Int, o := f27.l11 k k a11 a12 a13 a14 a15 a16 a17 xs18 xs19 a20, w := f27.l11.w }
def f27.l7.hd (k : Nat) (ts_ : List (AV env)) (mm_ : Mem env) (n_ : Nat) : LCl env :=
  gTs LCl.no [0, 4, 6, 27, 28] 66 ts_ fun l_ => gV LCl.no l_ fun a_ l_ => rV LCl.no a_ fun v_ => vI LCl.no .i64 v_ fun a4 => gV LCl.no l_ fun a_ l_ => rBp LCl.no 2 0 a_ <| gV LCl.no l_ fun a_ l_ => rBp LCl.no 194 0 a_ <| gV LCl.no l_ fun a_ l_ => rV LCl.no a_ fun v_ => vI LCl.no .i64 v_ fun a5 => gV LCl.no l_ fun a_ l_ => rV LCl.no a_ fun v_ => vI LCl.no .i64 v_ fun a6 => gE LCl.no l_ <| mBox LCl.no 2 mm_ fun c_ m_ => gC LCl.no c_ fun a_ c_ => rV LCl.no a_ fun v_ => vNil LCl.no v_ <| gC LCl.no c_ fun a_ c_ => rV LCl.no a_ fun v_ => vNil LCl.no v_ <| gC LCl.no c_ fun a_ c_ => rV LCl.no a_ fun v_ => vI LCl.no .i64 v_ fun a7 => gE LCl.no c_ <| mRow LCl.no 162 true 98 m_ fun xs8 m_ => mRow LCl.no 178 true 93 m_ fun xs9 m_ => mBox LCl.no 194 m_ fun c_ m_ => gC LCl.no c_ fun a_ c_ => rRow LCl.no 162 a_ <| gC LCl.no c_ fun a_ c_ => rRow LCl.no 178 a_ <| gC LCl.no c_ fun a_ c_ => rV LCl.no a_ fun v_ => vI LCl.no .i64 v_ fun a10 => gE LCl.no c_ <| gE LCl.no m_ <| gN LCl.no 290 n_ { α := Int × (List S98) × (List (List S95)) × Int, o := f27.l7 k k a4 a5 a6 a7 xs8 xs9 a10, w := f27.l7.w }
def f27.step {R : Type} (k : Nat) (ret : ((Int × Int) ⊕ ((List S98) × (List (List S95)) × Int × Int)) → Option R) (a1 : Int) (xs2 : List S98) : Option R :=
  if (decide ((((List.length xs2) : Nat) : Int) > (4096 : Int))) = true then
    ret (.inl ((0 : Int), (2 : Int)))
  else
    (f68 k a1 xs2).bind fun t3 => if (!t3) = true then
        ret (.inl ((0 : Int), (1 : Int)))
      else
        if (List.length ([] : List S98) + List.length xs2) * 32 ≤ maxN then
          if (0 : Int) ≤ a1 then
            if (Int.toNat a1) * 24 ≤ maxN then
              (f27.l7 k k a1 (((List.length (List.replicate (Int.toNat a1) ([] : List S95))) : Nat) : Int) (0 : Int) (0 : Int) (([] : List S98) ++ xs2) (List.replicate (Int.toNat a1) ([] : List S95)) a1).bind fun t22 => ret (.inr (t22.2.1, t22.2.2.1, t22.2.2.2, (0 : Int)))
            else none
          else none
        else none
def f27 (k : Nat) (a1 : Int) (xs2 : List S98) : Option ((Int × Int) ⊕ ((List S98) × (List (List S95)) × Int × Int)) := f27.step k some a1 xs2
def f27.w {R : Type} : ((Int × Int) ⊕ ((List S98) × (List (List S95)) × Int × Int)) → (Res env → Option R) → Option R := fun x K => Sum.elim (fun t25 => K ⟨.tup [.g [.s (.slice none 0 0), .s (.slice none 0 0), .s (.int .i64 t25.1)], .c (.s (.int .i64 t25.2))], [[], []]⟩) (fun t26 => K ⟨.tup [.g [.own true 98 t26.1, .own true 93 t26.2.1, .s (.int .i64 t26.2.2.1)], .c (.s (.int .i64 t26.2.2.2))], [[], []]⟩) x
theorem f27.wn (x : ((Int × Int) ⊕ ((List S98) × (List (List S95)) × Int × Int))) : ∃ res, ∀ {R : Type} (K : Res env → Option R), f27.w x K = K res := by
  rcases x with x | x <;> exact ⟨_, fun _ => rfl⟩
def f27.hd (k : Nat) (ps_ : List (P2 env)) : Cl env :=
  gC Cl.no ps_ fun p_ ps_ => qC Cl.no p_ fun c_ => qS Cl.no c_ fun v_ => vI Cl.no .i64 v_ fun a1 => gC Cl.no ps_ fun p_ ps_ => qC Cl.no p_ fun c_ => qSl Cl.no 98 c_ fun xs2 => gE Cl.no ps_ <| { α := (Int × Int) ⊕ ((List S98) × (List (List S95)) × Int × Int), o := f27 k a1 xs2, w := f27.w, nat := fun x _ => f27.wn x }
def f27.e (k : Nat) : Entry env := ⟨fun ps => f27.hd k (coer [[.no], [.rd 98]] ps), [], []⟩
def f27.X (k : Nat) : Ctx env := { C := lookE [(68, f68.e k)], L := lookE [(11, fun S => f27.l11.hd k S.ts S.m S.n), (7, fun S => f27.l7.hd k S.ts S.m S.n)], J := lookE [], keep := lookD [(11, [0, 4, 6, 7, 27, 28, 42, 43]), (7, [0, 4, 6, 27, 28])], keepX := lookD [(11, [0, 4, 6, 7, 27, 28]), (7, [4, 6])], span := lookN [(11, 224), (7, 688)], eff := fun n => memN n [5, 9], prep := lookP [], np := 0, vb := lookN [(10, 2), (13, 2), (15, 2)], ve := lookN [(10, 1), (13, 1), (15, 1)] }
theorem f27.l11.nat {R : Type} (k : Nat) (rec_ : Int → Int → Int → Int → Int → Int → Int → (List S98) → (List (List S95)) → Int → Option (Int × Int × Int × Int × Int × (List S98) × (List (List S95)) × Int)) (g : (Int × Int × Int × Int × Int × (List S98) × (List (List S95)) × Int) → Option R) (a11 : Int) (a12 : Int) (a13 : Int) (a14 : Int) (a15 : Int) (a16 : Int) (a17 : Int) (xs18 : List S98) (xs19 : List (List S95)) (a20 : Int) : (f27.l11.step k rec_ some a11 a12 a13 a14 a15 a16 a17 xs18 xs19 a20).bind g = f27.l11.step k (fun a11 a12 a13 a14 a15 a16 a17 xs18 xs19 a20 => (rec_ a11 a12 a13 a14 a15 a16 a17 xs18 xs19 a20).bind g) g a11 a12 a13 a14 a15 a16 a17 xs18 xs19 a20 := by
  simp only [f27.l11.step, bind_ite, bind_sum, Option.bind_assoc, Option.bind_some, Option.bind_none]
theorem f27.l11.good (k : Nat) (a11 : Int) (a12 : Int) (a13 : Int) (a14 : Int) (a15 : Int) (a16 : Int) (a17 : Int) (xs18 : List S98) (xs19 : List (List S95)) (a20 : Int) : GoodL (f27.X k) (nthC 1 (loopsOf (bodyOf Try.f27))) (f27.l11.st a11 a12 a13 a14 a15 a16 a17 xs18 xs19 a20) { α := (Int × Int × Int × Int × Int × (List S98) × (List (List S95)) × Int), o := f27.l11 k k a11 a12 a13 a14 a15 a16 a17 xs18 xs19 a20, w := f27.l11.w } :=
  loop_good (ι := Int × Int × Int × Int × Int × Int × Int × (List S98) × (List (List S95)) × Int) (α := (Int × Int × Int × Int × Int × (List S98) × (List (List S95)) × Int)) (fun i => f27.l11.st i.1 i.2.1 i.2.2.1 i.2.2.2.1 i.2.2.2.2.1 i.2.2.2.2.2.1 i.2.2.2.2.2.2.1 i.2.2.2.2.2.2.2.1 i.2.2.2.2.2.2.2.2.1 i.2.2.2.2.2.2.2.2.2) (fun j i => f27.l11 k j i.1 i.2.1 i.2.2.1 i.2.2.2.1 i.2.2.2.2.1 i.2.2.2.2.2.1 i.2.2.2.2.2.2.1 i.2.2.2.2.2.2.2.1 i.2.2.2.2.2.2.2.2.1 i.2.2.2.2.2.2.2.2.2) f27.l11.w (fun rec_ ret i => f27.l11.step k (fun a11 a12 a13 a14 a15 a16 a17 xs18 xs19 a20 => rec_ (a11, a12, a13, a14, a15, a16, a17, xs18, xs19, a20)) ret i.1 i.2.1 i.2.2.1 i.2.2.2.1 i.2.2.2.2.1 i.2.2.2.2.2.1 i.2.2.2.2.2.2.1 i.2.2.2.2.2.2.2.1 i.2.2.2.2.2.2.2.2.1 i.2.2.2.2.2.2.2.2.2)
    (fun _ => rfl) (fun _ _ => rfl) (fun rec_ g i => f27.l11.nat k _ g i.1 i.2.1 i.2.2.1 i.2.2.2.1 i.2.2.2.2.1 i.2.2.2.2.2.1 i.2.2.2.2.2.2.1 i.2.2.2.2.2.2.2.1 i.2.2.2.2.2.2.2.2.1 i.2.2.2.2.2.2.2.2.2) (fun {R} i0 i rec_ K => by kernel_rfl) k (a11, a12, a13, a14, a15, a16, a17, xs18, xs19, a20)
theorem f27.l11.all (k : Nat) (S : St env) : GoodL (f27.X k) (nthC 1 (loopsOf (bodyOf Try.f27))) S (f27.l11.hd k S.ts S.m S.n) := by
  obtain ⟨ts_, m_, n_⟩ := S
  show GoodL _ _ _ (f27.l11.hd k ts_ m_ n_)
  unfold f27.l11.hd
  refine gTs_ok (p := GoodL _ _ _) goodL_no fun _ h => ?_
  subst h
  refine gV_ok (p := GoodL _ _ _) goodL_no fun _ _ h => ?_
  subst h
  refine rV_ok (p := GoodL _ _ _) goodL_no fun _ h => ?_
  subst h
  refine vI_ok (p := GoodL _ _ _) goodL_no fun _ h => ?_
  subst h
  refine gV_ok (p := GoodL _ _ _) goodL_no fun _ _ h => ?_
  subst h
  refine rBp_ok (p := GoodL _ _ _) goodL_no fun h => ?_
  subst h
  refine gV_ok (p := GoodL _ _ _) goodL_no fun _ _ h => ?_
  subst h
  refine rBp_ok (p := GoodL _ _ _) goodL_no fun h => ?_
  subst h
  refine gV_ok (p := GoodL _ _ _) goodL_no fun _ _ h => ?_
  subst h
  refine rV_ok (p := GoodL _ _ _) goodL_no fun _ h => ?_
  subst h
  refine vI_ok (p := GoodL _ _ _) goodL_no fun _ h => ?_
  subst h
  refine gV_ok (p := GoodL _ _ _) goodL_no fun _ _ h => ?_
  subst h
  refine rV_ok (p := GoodL _ _ _) goodL_no fun _ h => ?_
  subst h
  refine vI_ok (p := GoodL _ _ _) goodL_no fun _ h => ?_
  subst h
  refine gV_ok (p := GoodL _ _ _) goodL_no fun _ _ h => ?_
  subst h
  refine rV_ok (p := GoodL _ _ _) goodL_no fun _ h => ?_
  subst h
  refine vI_ok (p := GoodL _ _ _) goodL_no fun _ h => ?_
  subst h
  refine gV_ok (p := GoodL _ _ _) goodL_no fun _ _ h => ?_
  subst h
  refine rV_ok (p := GoodL _ _ _) goodL_no fun _ h => ?_
  subst h
  refine vI_ok (p := GoodL _ _ _) goodL_no fun _ h => ?_
  subst h
  refine gV_ok (p := GoodL _ _ _) goodL_no fun _ _ h => ?_
  subst h
  refine rV_ok (p := GoodL _ _ _) goodL_no fun _ h => ?_
  subst h
  refine vI_ok (p := GoodL _ _ _) goodL_no fun _ h => ?_
  subst h
  refine gE_ok (p := GoodL _ _ _) goodL_no fun h => ?_
  subst h
  refine mBox_ok (p := GoodL _ _ _) goodL_no fun _ _ h => ?_
  subst h
  refine gC_ok (p := GoodL _ _ _) goodL_no fun _ _ h => ?_
  subst h
  refine rV_ok (p := GoodL _ _ _) goodL_no fun _ h => ?_
  subst h
  refine vNil_ok (p := GoodL _ _ _) goodL_no fun h => ?_
  subst h
  refine gC_ok (p := GoodL _ _ _) goodL_no fun _ _ h => ?_
  subst h
  refine rV_ok (p := GoodL _ _ _) goodL_no fun _ h => ?_
  subst h
  refine vNil_ok (p := GoodL _ _ _) goodL_no fun h => ?_
  subst h
  refine gC_ok (p := GoodL _ _ _) goodL_no fun _ _ h => ?_
  subst h
  refine rV_ok (p := GoodL _ _ _) goodL_no fun _ h => ?_
  subst h
  refine vI_ok (p := GoodL _ _ _) goodL_no fun _ h => ?_
  subst h
  refine gE_ok (p := GoodL _ _ _) goodL_no fun h => ?_
  subst h
  refine mRow_ok (p := GoodL _ _ _) goodL_no fun _ _ h => ?_
  subst h
  refine mRow_ok (p := GoodL _ _ _) goodL_no fun _ _ h => ?_
  subst h
  refine mBox_ok (p := GoodL _ _ _) goodL_no fun _ _ h => ?_
  subst h
  refine gC_ok (p := GoodL _ _ _) goodL_no fun _ _ h => ?_
  subst h
  refine rRow_ok (p := GoodL _ _ _) goodL_no fun h => ?_
  subst h
  refine gC_ok (p := GoodL _ _ _) goodL_no fun _ _ h => ?_
  subst h
  refine rRow_ok (p := GoodL _ _ _) goodL_no fun h => ?_
  subst h
  refine gC_ok (p := GoodL _ _ _) goodL_no fun _ _ h => ?_
  subst h
  refine rV_ok (p := GoodL _ _ _) goodL_no fun _ h => ?_
  subst h
  refine vI_ok (p := GoodL _ _ _) goodL_no fun _ h => ?_
  subst h
  refine gE_ok (p := GoodL _ _ _) goodL_no fun h => ?_
  subst h
  refine gE_ok (p := GoodL _ _ _) goodL_no fun h => ?_
  subst h
  refine gN_ok (p := GoodL _ _ _) goodL_no fun h => ?_
  subst h
  exact f27.l11.good k _ _ _ _ _ _ _ _ _ _
theorem f27.l7.nat {R : Type} (k : Nat) (rec_ : Int → Int → Int → Int → (List S98) → (List (List S95)) → Int → Option (Int × (List S98) × (List (List S95)) × Int)) (g : (Int × (List S98) × (List (List S95)) × Int) → Option R) (a4 : Int) (a5 : Int) (a6 : Int) (a7 : Int) (xs8 : List S98) (xs9 : List (List S95)) (a10 : Int) : (f27.l7.step k rec_ some a4 a5 a6 a7 xs8 xs9 a10).bind g = f27.l7.step k (fun a4 a5 a6 a7 xs8 xs9 a10 => (rec_ a4 a5 a6 a7 xs8 xs9 a10).bind g) g a4 a5 a6 a7 xs8 xs9 a10 := by
  simp only [f27.l7.step, bind_ite, bind_sum, Option.bind_assoc, Option.bind_some, Option.bind_none]
theorem f27.l7.good (k : Nat) (a4 : Int) (a5 : Int) (a6 : Int) (a7 : Int) (xs8 : List S98) (xs9 : List (List S95)) (a10 : Int) : GoodL (f27.X k) (nthC 0 (loopsOf (bodyOf Try.f27))) (f27.l7.st a4 a5 a6 a7 xs8 xs9 a10) { α := (Int × (List S98) × (List (List S95)) × Int), o := f27.l7 k k a4 a5 a6 a7 xs8 xs9 a10, w := f27.l7.w } :=
  loop_good (ι := Int × Int × Int × Int × (List S98) × (List (List S95)) × Int) (α := (Int × (List S98) × (List (List S95)) × Int)) (fun i => f27.l7.st i.1 i.2.1 i.2.2.1 i.2.2.2.1 i.2.2.2.2.1 i.2.2.2.2.2.1 i.2.2.2.2.2.2) (fun j i => f27.l7 k j i.1 i.2.1 i.2.2.1 i.2.2.2.1 i.2.2.2.2.1 i.2.2.2.2.2.1 i.2.2.2.2.2.2) f27.l7.w (fun rec_ ret i => f27.l7.step k (fun a4 a5 a6 a7 xs8 xs9 a10 => rec_ (a4, a5, a6, a7, xs8, xs9, a10)) ret i.1 i.2.1 i.2.2.1 i.2.2.2.1 i.2.2.2.2.1 i.2.2.2.2.2.1 i.2.2.2.2.2.2)
    (fun _ => rfl) (fun _ _ => rfl) (fun rec_ g i => f27.l7.nat k _ g i.1 i.2.1 i.2.2.1 i.2.2.2.1 i.2.2.2.2.1 i.2.2.2.2.2.1 i.2.2.2.2.2.2) (fun {R} i0 i rec_ K => by kernel_rfl) k (a4, a5, a6, a7, xs8, xs9, a10)
theorem f27.l7.all (k : Nat) (S : St env) : GoodL (f27.X k) (nthC 0 (loopsOf (bodyOf Try.f27))) S (f27.l7.hd k S.ts S.m S.n) := by
  obtain ⟨ts_, m_, n_⟩ := S
  show GoodL _ _ _ (f27.l7.hd k ts_ m_ n_)
  unfold f27.l7.hd
  refine gTs_ok (p := GoodL _ _ _) goodL_no fun _ h => ?_
  subst h
  refine gV_ok (p := GoodL _ _ _) goodL_no fun _ _ h => ?_
  subst h
  refine rV_ok (p := GoodL _ _ _) goodL_no fun _ h => ?_
  subst h
  refine vI_ok (p := GoodL _ _ _) goodL_no fun _ h => ?_
  subst h
  refine gV_ok (p := GoodL _ _ _) goodL_no fun _ _ h => ?_
  subst h
  refine rBp_ok (p := GoodL _ _ _) goodL_no fun h => ?_
  subst h
  refine gV_ok (p := GoodL _ _ _) goodL_no fun _ _ h => ?_
  subst h
  refine rBp_ok (p := GoodL _ _ _) goodL_no fun h => ?_
  subst h
  refine gV_ok (p := GoodL _ _ _) goodL_no fun _ _ h => ?_
  subst h
  refine rV_ok (p := GoodL _ _ _) goodL_no fun _ h => ?_
  subst h
  refine vI_ok (p := GoodL _ _ _) goodL_no fun _ h => ?_
  subst h
  refine gV_ok (p := GoodL _ _ _) goodL_no fun _ _ h => ?_
  subst h
  refine rV_ok (p := GoodL _ _ _) goodL_no fun _ h => ?_
  subst h
  refine vI_ok (p := GoodL _ _ _) goodL_no fun _ h => ?_
  subst h
  refine gE_ok (p := GoodL _ _ _) goodL_no fun h => ?_
  subst h
  refine mBox_ok (p := GoodL _ _ _) goodL_no fun _ _ h => ?_
  subst h
  refine gC_ok (p := GoodL _ _ _) goodL_no fun _ _ h => ?_
  subst h
  refine rV_ok (p := GoodL _ _ _) goodL_no fun _ h => ?_
  subst h
  refine vNil_ok (p := GoodL _ _ _) goodL_no fun h => ?_
  subst h
  refine gC_ok (p := GoodL _ _ _) goodL_no fun _ _ h => ?_
  subst h
  refine rV_ok (p := GoodL _ _ _) goodL_no fun _ h => ?_
  subst h
  refine vNil_ok (p := GoodL _ _ _) goodL_no fun h => ?_
  subst h
  refine gC_ok (p := GoodL _ _ _) goodL_no fun _ _ h => ?_
  subst h
  refine rV_ok (p := GoodL _ _ _) goodL_no fun _ h => ?_
  subst h
  refine vI_ok (p := GoodL _ _ _) goodL_no fun _ h => ?_
  subst h
  refine gE_ok (p := GoodL _ _ _) goodL_no fun h => ?_
  subst h
  refine mRow_ok (p := GoodL _ _ _) goodL_no fun _ _ h => ?_
  subst h
  refine mRow_ok (p := GoodL _ _ _) goodL_no fun _ _ h => ?_
  subst h
  refine mBox_ok (p := GoodL _ _ _) goodL_no fun _ _ h => ?_
  subst h
  refine gC_ok (p := GoodL _ _ _) goodL_no fun _ _ h => ?_
  subst h
  refine rRow_ok (p := GoodL _ _ _) goodL_no fun h => ?_
  subst h
  refine gC_ok (p := GoodL _ _ _) goodL_no fun _ _ h => ?_
  subst h
  refine rRow_ok (p := GoodL _ _ _) goodL_no fun h => ?_
  subst h
  refine gC_ok (p := GoodL _ _ _) goodL_no fun _ _ h => ?_
  subst h
  refine rV_ok (p := GoodL _ _ _) goodL_no fun _ h => ?_
  subst h
  refine vI_ok (p := GoodL _ _ _) goodL_no fun _ h => ?_
  subst h
  refine gE_ok (p := GoodL _ _ _) goodL_no fun h => ?_
  subst h
  refine gE_ok (p := GoodL _ _ _) goodL_no fun h => ?_
  subst h
  refine gN_ok (p := GoodL _ _ _) goodL_no fun h => ?_
  subst h
  exact f27.l7.good k _ _ _ _ _ _ _
theorem f27.nat {R : Type} (k : Nat) (g : ((Int × Int) ⊕ ((List S98) × (List (List S95)) × Int × Int)) → Option R) (a1 : Int) (xs2 : List S98) : f27.step k g a1 xs2 = (f27 k a1 xs2).bind g := by
  simp only [f27, f27.step, bind_ite, bind_sum, Option.bind_assoc, Option.bind_some, Option.bind_none]
theorem f27.ev (k : Nat) (a1 : Int) (xs2 : List S98) : evF (f27.X k) (bodyOf Try.f27) Try.f27.ntmps Try.f27.results.toList [.v (.c (.s (.int .i64 a1))), .v (.c (.sl 98 xs2))] = f27.step k (fun x => f27.w x some) a1 xs2 := by kernel_rfl
theorem f27.hok (k : Nat) : HOK (f27.X k) (bodyOf Try.f27) where
  l := allP_mem (by exact ⟨ls_of (h0 := fun S => f27.l7.hd k S.ts S.m S.n) (by kernel_rfl) (f27.l7.all k), ls_of (h0 := fun S => f27.l11.hd k S.ts S.m S.n) (by kernel_rfl) (f27.l11.all k), trivial⟩)
  j := allP_mem (by exact trivial)
theorem f27.sound0 (k : Nat) : SoundC env Try.prog 27 (f27.hd k) := by
  intro ps_
  show GoodC _ _ _ ps_ (f27.hd k ps_)
  unfold f27.hd
  refine gC_ok (p := GoodC env Try.prog 27 _) goodC_no fun _ _ h => ?_
  subst h
  refine qC_ok (p := GoodC env Try.prog 27 _) goodC_no fun _ h => ?_
  subst h
  refine qS_ok (p := GoodC env Try.prog 27 _) goodC_no fun _ h => ?_
  subst h
  refine vI_ok (p := GoodC env Try.prog 27 _) goodC_no fun _ h => ?_
  subst h
  refine gC_ok (p := GoodC env Try.prog 27 _) goodC_no fun _ _ h => ?_
  subst h
  refine qC_ok (p := GoodC env Try.prog 27 _) goodC_no fun _ h => ?_
  subst h
  refine qSl_ok (p := GoodC env Try.prog 27 _) goodC_no fun _ h => ?_
  subst h
  refine gE_ok (p := GoodC env Try.prog 27 _) goodC_no fun h => ?_
  subst h
  exact fun_good (fun_sound envOK (cs_sound _ (by exact ⟨⟨f68.sound k, f68.fnok⟩, trivial⟩)) (f27.hok k) Try.func27 rfl) ((f27.ev k _ _).trans (f27.nat k _ _ _))
theorem f27.sound (k : Nat) : SoundC env Try.prog 27 (f27.e k).F := soundC_coer (f27.sound0 k) [[.no], [.rd 98]]
theorem f27.fnok : FnOK Try.prog 27 := fn_ok Try.func27 (by kernel_rfl) rfl
def f70.step {R : Type} (k : Nat) (ret : Bool → Option R) (a1 : Int) (a2 : Int) (a3 : Int) (b4 : Bool) (a5 : Int) (a6 : Int) (a7 : Int) (b8 : Bool) : Option R :=
  if (decide (a1 ≠ a5)) = true then
    ret false
  else
    if (decide (a2 ≠ a6)) = true then
      ret false
    else
      if (decide (a3 ≠ a7)) = true then
        ret false
      else
        if (!(b4 == b8)) = true then
          ret false
        else
          ret true
def f70 (k : Nat) (a1 : Int) (a2 : Int) (a3 : Int) (b4 : Bool) (a5 : Int) (a6 : Int) (a7 : Int) (b8 : Bool) : Option Bool := f70.step k some a1 a2 a3 b4 a5 a6 a7 b8
def f70.w {R : Type} : Bool → (Res env → Option R) → Option R := fun t9 K => K ⟨.v (.c (.s (.bool t9))), [[], []]⟩
theorem f70.wn (x : Bool) : ∃ res, ∀ {R : Type} (K : Res env → Option R), f70.w x K = K res := by
  exact ⟨_, fun _ => rfl⟩
def f70.hd (k : Nat) (ps_ : List (P2 env)) : Cl env :=
  gC Cl.no ps_ fun p_ ps_ => qG Cl.no p_ fun cs_ => gC Cl.no cs_ fun c_ cs_ => qS Cl.no c_ fun v_ => vI Cl.no .i64 v_ fun a1 => gC Cl.no cs_ fun c_ cs_ => qS Cl.no c_ fun v_ => vI Cl.no .i64 v_ fun a2 => gC Cl.no cs_ fun c_ cs_ => qS Cl.no c_ fun v_ => vI Cl.no .i64 v_ fun a3 => gC Cl.no cs_ fun c_ cs_ => qS Cl.no c_ fun v_ => vB Cl.no v_ fun b4 => gE Cl.no cs_ <| gC Cl.no ps_ fun p_ ps_ => qG Cl.no p_ fun cs_ => gC Cl.no cs_ fun c_ cs_ => qS Cl.no c_ fun v_ => vI Cl.no .i64 v_ fun a5 => gC Cl.no cs_ fun c_ cs_ => qS Cl.no c_ fun v_ => vI Cl.no .i64 v_ fun a6 => gC Cl.no cs_ fun c_ cs_ => qS Cl.no c_ fun v_ => vI Cl.no .i64 v_ fun a7 => gC Cl.no cs_ fun c_ cs_ => qS Cl.no c_ fun v_ => vB Cl.no v_ fun b8 => gE Cl.no cs_ <| gE Cl.no ps_ <| { α := Bool, o := f70 k a1 a2 a3 b4 a5 a6 a7 b8, w := f70.w, nat := fun x _ => f70.wn x }
def f70.e (k : Nat) : Entry env := ⟨f70.hd k, [], []⟩
def f70.X (k : Nat) : Ctx env := { C := lookE [], L := lookE [], J := lookE [], keep := lookD [], keepX := lookD [], span := lookN [], eff := fun n => memN n [], prep := lookP [], np := 0 }
theorem f70.nat {R : Type} (k : Nat) (g : Bool → Option R) (a1 : Int) (a2 : Int) (a3 : Int) (b4 : Bool) (a5 : Int) (a6 : Int) (a7 : Int) (b8 : Bool) : f70.step k g a1 a2 a3 b4 a5 a6 a7 b8 = (f70 k a1 a2 a3 b4 a5 a6 a7 b8).bind g := by
  simp only [f70, f70.step, bind_ite, bind_sum, Option.bind_assoc, Option.bind_some, Option.bind_none]
theorem f70.ev (k : Nat) (a1 : Int) (a2 : Int) (a3 : Int) (b4 : Bool) (a5 : Int) (a6 : Int) (a7 : Int) (b8 : Bool) : evF (f70.X k) (bodyOf Try.f70) Try.f70.ntmps Try.f70.results.toList [.g [.s (.int .i64 a1), .s (.int .i64 a2), .s (.int .i64 a3), .s (.bool b4)], .g [.s (.int .i64 a5), .s (.int .i64 a6), .s (.int .i64 a7), .s (.bool b8)]] = f70.step k (fun x => f70.w x some) a1 a2 a3 b4 a5 a6 a7 b8 := by kernel_rfl
theorem f70.hok (k : Nat) : HOK (f70.X k) (bodyOf Try.f70) where
  l := allP_mem (by exact trivial)
  j := allP_mem (by exact trivial)
theorem f70.sound (k : Nat) : SoundC env Try.prog 70 ((f70.e k).F) := by
  intro ps_
  show GoodC _ _ _ ps_ (f70.hd k ps_)
  unfold f70.hd
  refine gC_ok (p := GoodC env Try.prog 70 _) goodC_no fun _ _ h => ?_
  subst h
  refine qG_ok (p := GoodC env Try.prog 70 _) goodC_no fun _ h => ?_
  subst h
  refine gC_ok (p := GoodC env Try.prog 70 _) goodC_no fun _ _ h => ?_
  subst h
  refine qS_ok (p := GoodC env Try.prog 70 _) goodC_no fun _ h => ?_
  subst h
  refine vI_ok (p := GoodC env Try.prog 70 _) goodC_no fun _ h => ?_
  subst h
  refine gC_ok (p := GoodC env Try.prog 70 _) goodC_no fun _ _ h => ?_
  subst h
  refine qS_ok (p := GoodC env Try.prog 70 _) goodC_no fun _ h => ?_
  subst h
  refine vI_ok (p := GoodC env Try.prog 70 _) goodC_no fun _ h => ?_
  subst h
  refine gC_ok (p := GoodC env Try.prog 70 _) goodC_no fun _ _ h => ?_
  subst h
  refine qS_ok (p := GoodC env Try.prog 70 _) goodC_no fun _ h => ?_
  subst h
  refine vI_ok (p := GoodC env Try.prog 70 _) goodC_no fun _ h => ?_
  subst h
  refine gC_ok (p := GoodC env Try.prog 70 _) goodC_no fun _ _ h => ?_
  subst h
  refine qS_ok (p := GoodC env Try.prog 70 _) goodC_no fun _ h => ?_
  subst h
  refine vB_ok (p := GoodC env Try.prog 70 _) goodC_no fun _ h => ?_
  subst h
  refine gE_ok (p := GoodC env Try.prog 70 _) goodC_no fun h => ?_
  subst h
  refine gC_ok (p := GoodC env Try.prog 70 _) goodC_no fun _ _ h => ?_
  subst h
  refine qG_ok (p := GoodC env Try.prog 70 _) goodC_no fun _ h => ?_
  subst h
  refine gC_ok (p := GoodC env Try.prog 70 _) goodC_no fun _ _ h => ?_
  subst h
  refine qS_ok (p := GoodC env Try.prog 70 _) goodC_no fun _ h => ?_
  subst h
  refine vI_ok (p := GoodC env Try.prog 70 _) goodC_no fun _ h => ?_
  subst h
  refine gC_ok (p := GoodC env Try.prog 70 _) goodC_no fun _ _ h => ?_
  subst h
  refine qS_ok (p := GoodC env Try.prog 70 _) goodC_no fun _ h => ?_
  subst h
  refine vI_ok (p := GoodC env Try.prog 70 _) goodC_no fun _ h => ?_
  subst h
  refine gC_ok (p := GoodC env Try.prog 70 _) goodC_no fun _ _ h => ?_
  subst h
  refine qS_ok (p := GoodC env Try.prog 70 _) goodC_no fun _ h => ?_
  subst h
  refine vI_ok (p := GoodC env Try.prog 70 _) goodC_no fun _ h => ?_
  subst h
  refine gC_ok (p := GoodC env Try.prog 70 _) goodC_no fun _ _ h => ?_
  subst h
  refine qS_ok (p := GoodC env Try.prog 70 _) goodC_no fun _ h => ?_
  subst h
  refine vB_ok (p := GoodC env Try.prog 70 _) goodC_no fun _ h => ?_
  subst h
  refine gE_ok (p := GoodC env Try.prog 70 _) goodC_no fun h => ?_
  subst h
  refine gE_ok (p := GoodC env Try.prog 70 _) goodC_no fun h => ?_
  subst h
  exact fun_good (fun_sound envOK (cs_sound _ (by exact trivial)) (f70.hok k) Try.func70 rfl) ((f70.ev k _ _ _ _ _ _ _ _).trans (f70.nat k _ _ _ _ _ _ _ _ _))
theorem f70.says (k : Nat) (a1 : Int) (a2 : Int) (a3 : Int) (b4 : Bool) (a5 : Int) (a6 : Int) (a7 : Int) (b8 : Bool) (t10 : Bool) (h_ : f70 k a1 a2 a3 b4 a5 a6 a7 b8 = some t10) : SoundAt env Try.prog 70 [.g [.s (.int .i64 a1), .s (.int .i64 a2), .s (.int .i64 a3), .s (.bool b4)], .g [.s (.int .i64 a5), .s (.int .i64 a6), .s (.int .i64 a7), .s (.bool b8)]] ⟨.v (.c (.s (.bool t10))), [[], []]⟩ :=
  fun_sound envOK (cs_sound _ (by exact trivial)) (f70.hok k) Try.func70 rfl _ _ (((f70.ev k a1 a2 a3 b4 a5 a6 a7 b8).trans (f70.nat k _ a1 a2 a3 b4 a5 a6 a7 b8)).trans (by rw [h_]; rfl))
theorem f70.fnok : FnOK Try.prog 70 := fn_ok Try.func70 (by kernel_rfl) rfl
def f29.l4.step {R : Type} (k : Nat) (rec_ : (List S98) → (List S98) → Int → Option R) (ret : (Bool ⊕ (Unit)) → Option R) (xs3 : List S98) (xs4 : List S98) (a5 : Int) : Option R :=
  if (decide (a5 < (((List.length xs3) : Nat) : Int))) = true then
    if (0 : Int) ≤ a5 then
      if a5 < ((List.length xs3 : Nat) : Int) then
        if (0 : Int) ≤ a5 then
          if a5 < ((List.length xs4 : Nat) : Int) then
            (f70 k (List.getD xs3 (Int.toNat a5) (⟨(0 : Int), (0 : Int), (0 : Int), false⟩ : S98)).f0 (List.getD xs3 (Int.toNat a5) (⟨(0 : Int), (0 : Int), (0 : Int), false⟩ : S98)).f1 (List.getD xs3 (Int.toNat a5) (⟨(0 : Int), (0 : Int), (0 : Int), false⟩ : S98)).f2 (List.getD xs3 (Int.toNat a5) (⟨(0 : Int), (0 : Int), (0 : Int), false⟩ : S98)).f3 (List.getD xs4 (Int.toNat a5) (⟨(0 : Int), (0 : Int), (0 : Int), false⟩ : S98)).f0 (List.getD xs4 (Int.toNat a5) (⟨(0 : Int), (0 : Int), (0 : Int), false⟩ : S98)).f1 (List.getD xs4 (Int.toNat a5) (⟨(0 : Int), (0 : Int), (0 : Int), false⟩ : S98)).f2 (List.getD xs4 (Int.toNat a5) (⟨(0 : Int), (0 : Int), (0 : Int), false⟩ : S98)).f3).bind fun t6 => if (!t6) = true then
                ret (.inl false)
              else
                rec_ xs3 xs4 (IntKind.i64.wrap (a5 + (1 : Int)))
          else none
        else none
      else none
    else none
  else
    ret (.inr ())
def f29.l4 (k : Nat) : Nat → (List S98) → (List S98) → Int → Option (Bool ⊕ (Unit))
  | 0, _, _, _ => none
  | j + 1, xs3, xs4, a5 => f29.l4.step k (fun xs3 xs4 a5 => f29.l4 k j xs3 xs4 a5) some xs3 xs4 a5
def f29.l4.w {R : Type} : (Bool ⊕ (Unit)) → (Exit → St env → Option R) → Option R := fun x K => Sum.elim (fun t9 => K .ret ⟨fullT [4] 0 27 [.v (.c (.s (.bool t9)))], [], 402⟩) (fun t10 => K (.exit 0) ⟨fullT [] 0 27 [], [], 402⟩) x
def f29.l4.st (xs3 : List S98) (xs4 : List S98) (a5 : Int) : St env := ⟨fullT [0, 1, 5] 0 27 [.v (.c (.imm 98 xs3)), .v (.c (.imm 98 xs4)), .v (.c (.s (.int .i64 a5)))], [], 114⟩
def f29.l4.hd (k : Nat) (ts_ : List (AV env)) (mm_ : Mem env) (n_ : Nat) : LCl env :=
  gTs LCl.no [0, 1, 5] 27 ts_ fun l_ => gV LCl.no l_ fun a_ l_ => rImm LCl.no 98 a_ fun xs3 => gV LCl.no l_ fun a_ l_ => rImm LCl.no 98 a_ fun xs4 => gV LCl.no l_ fun a_ l_ => rV LCl.no a_ fun v_ => vI LCl.no .i64 v_ fun a5 => gE LCl.no l_ <| gE LCl.no mm_ <| gN LCl.no 114 n_ { α := Bool ⊕ (Unit), o := f29.l4 k k xs3 xs4 a5, w := f29.l4.w }
def f29.step {R : Type} (k : Nat) (ret : Bool → Option R) (xs1 : List S98) (xs2 : List S98) : Option R :=
  if (decide ((((List.length xs1) : Nat) : Int) ≠ (((List.length xs2) : Nat) : Int))) = true then
    ret false
  else
    (f29.l4 k k xs1 xs2 (0 : Int)).bind (Sum.elim (fun t7 => ret t7) (fun t8 => ret true))
def f29 (k : Nat) (xs1 : List S98) (xs2 : List S98) : Option Bool := f29.step k some xs1 xs2
def f29.w {R : Type} : Bool → (Res env → Option R) → Option R := fun t11 K => K ⟨.v (.c (.s (.bool t11))), [[], []]⟩
theorem f29.wn (x : Bool) : ∃ res, ∀ {R : Type} (K : Res env → Option R), f29.w x K = K res := by
  exact ⟨_, fun _ => rfl⟩
def f29.hd (k : Nat) (ps_ : List (P2 env)) : Cl env :=
  gC Cl.no ps_ fun p_ ps_ => qC Cl.no p_ fun c_ => qSl Cl.no 98 c_ fun xs1 => gC Cl.no ps_ fun p_ ps_ => qC Cl.no p_ fun c_ => qSl Cl.no 98 c_ fun xs2 => gE Cl.no ps_ <| { α := Bool, o := f29 k xs1 xs2, w := f29.w, nat := fun x _ => f29.wn x }
def f29.e (k : Nat) : Entry env := ⟨fun ps => f29.hd k (coer [[.rd 98], [.rd 98]] ps), [], []⟩
def f29.X (k : Nat) : Ctx env := { C := lookE [(70, f70.e k)], L := lookE [(4, fun S => f29.l4.hd k S.ts S.m S.n)], J := lookE [], keep := lookD [(4, [0, 1, 5])], keepX := lookD [(4, [4])], span := lookN [(4, 288)], eff := fun n => memN n [], prep := lookP [], np := 0 }
theorem f29.l4.nat {R : Type} (k : Nat) (rec_ : (List S98) → (List S98) → Int → Option (Bool ⊕ (Unit))) (g : (Bool ⊕ (Unit)) → Option R) (xs3 : List S98) (xs4 : List S98) (a5 : Int) : (f29.l4.step k rec_ some xs3 xs4 a5).bind g = f29.l4.step k (fun xs3 xs4 a5 => (rec_ xs3 xs4 a5).bind g) g xs3 xs4 a5 := by
  simp only [f29.l4.step, bind_ite, bind_sum, Option.bind_assoc, Option.bind_some, Option.bind_none]
theorem f29.l4.good (k : Nat) (xs3 : List S98) (xs4 : List S98) (a5 : Int) : GoodL (f29.X k) (nthC 0 (loopsOf (bodyOf Try.f29))) (f29.l4.st xs3 xs4 a5) { α := (Bool ⊕ (Unit)), o := f29.l4 k k xs3 xs4 a5, w := f29.l4.w } :=
  loop_good (ι := (List S98) × (List S98) × Int) (α := (Bool ⊕ (Unit))) (fun i => f29.l4.st i.1 i.2.1 i.2.2) (fun j i => f29.l4 k j i.1 i.2.1 i.2.2) f29.l4.w (fun rec_ ret i => f29.l4.step k (fun xs3 xs4 a5 => rec_ (xs3, xs4, a5)) ret i.1 i.2.1 i.2.2)
    (fun _ => rfl) (fun _ _ => rfl) (fun rec_ g i => f29.l4.nat k _ g i.1 i.2.1 i.2.2) (fun {R} i0 i rec_ K => by kernel_rfl) k (xs3, xs4, a5)
theorem f29.l4.all (k : Nat) (S : St env) : GoodL (f29.X k) (nthC 0 (loopsOf (bodyOf Try.f29))) S (f29.l4.hd k S.ts S.m S.n) := by
  obtain ⟨ts_, m_, n_⟩ := S
  show GoodL _ _ _ (f29.l4.hd k ts_ m_ n_)
  unfold f29.l4.hd
  refine gTs_ok (p := GoodL _ _ _) goodL_no fun _ h => ?_
  subst h
  refine gV_ok (p := GoodL _ _ _) goodL_no fun _ _ h => ?_
  subst h
  refine rImm_ok (p := GoodL _ _ _) goodL_no fun _ h => ?_
  subst h
  refine gV_ok (p := GoodL _ _ _) goodL_no fun _ _ h => ?_
  subst h
  refine rImm_ok (p := GoodL _ _ _) goodL_no fun _ h => ?_
  subst h
  refine gV_ok (p := GoodL _ _ _) goodL_no fun _ _ h => ?_
  subst h
  refine rV_ok (p := GoodL _ _ _) goodL_no fun _ h => ?_
  subst h
  refine vI_ok (p := GoodL _ _ _) goodL_no fun _ h => ?_
  subst h
  refine gE_ok (p := GoodL _ _ _) goodL_no fun h => ?_
  subst h
  refine gE_ok (p := GoodL _ _ _) goodL_no fun h => ?_
  subst h
  refine gN_ok (p := GoodL _ _ _) goodL_no fun h => ?_
  subst h
  exact f29.l4.good k _ _ _
theorem f29.nat {R : Type} (k : Nat) (g : Bool → Option R) (xs1 : List S98) (xs2 : List S98) : f29.step k g xs1 xs2 = (f29 k xs1 xs2).bind g := by
  simp only [f29, f29.step, bind_ite, bind_sum, Option.bind_assoc, Option.bind_some, Option.bind_none]
theorem f29.ev (k : Nat) (xs1 : List S98) (xs2 : List S98) : evF (f29.X k) (bodyOf Try.f29) Try.f29.ntmps Try.f29.results.toList [.v (.c (.sl 98 xs1)), .v (.c (.sl 98 xs2))] = f29.step k (fun x => f29.w x some) xs1 xs2 := by kernel_rfl
theorem f29.hok (k : Nat) : HOK (f29.X k) (bodyOf Try.f29) where
  l := allP_mem (by exact ⟨ls_of (h0 := fun S => f29.l4.hd k S.ts S.m S.n) (by kernel_rfl) (f29.l4.all k), trivial⟩)
  j := allP_mem (by exact trivial)
theorem f29.sound0 (k : Nat) : SoundC env Try.prog 29 (f29.hd k) := by
  intro ps_
  show GoodC _ _ _ ps_ (f29.hd k ps_)
  unfold f29.hd
  refine gC_ok (p := GoodC env Try.prog 29 _) goodC_no fun _ _ h => ?_
  subst h
  refine qC_ok (p := GoodC env Try.prog 29 _) goodC_no fun _ h => ?_
  subst h
  refine qSl_ok (p := GoodC env Try.prog 29 _) goodC_no fun _ h => ?_
  subst h
  refine gC_ok (p := GoodC env Try.prog 29 _) goodC_no fun _ _ h => ?_
  subst h
  refine qC_ok (p := GoodC env Try.prog 29 _) goodC_no fun _ h => ?_
  subst h
  refine qSl_ok (p := GoodC env Try.prog 29 _) goodC_no fun _ h => ?_
  subst h
  refine gE_ok (p := GoodC env Try.prog 29 _) goodC_no fun h => ?_
  subst h
  exact fun_good (fun_sound envOK (cs_sound _ (by exact ⟨⟨f70.sound k, f70.fnok⟩, trivial⟩)) (f29.hok k) Try.func29 rfl) ((f29.ev k _ _).trans (f29.nat k _ _ _))
theorem f29.sound (k : Nat) : SoundC env Try.prog 29 (f29.e k).F := soundC_coer (f29.sound0 k) [[.rd 98], [.rd 98]]
theorem f29.says (k : Nat) (xs1 : List S98) (xs2 : List S98) (t12 : Bool) (h_ : f29 k xs1 xs2 = some t12) : SoundAt env Try.prog 29 [.v (.c (.sl 98 xs1)), .v (.c (.sl 98 xs2))] ⟨.v (.c (.s (.bool t12))), [[], []]⟩ :=
  fun_sound envOK (cs_sound _ (by exact ⟨⟨f70.sound k, f70.fnok⟩, trivial⟩)) (f29.hok k) Try.func29 rfl _ _ (((f29.ev k xs1 xs2).trans (f29.nat k _ xs1 xs2)).trans (by rw [h_]; rfl))
theorem f29.fnok : FnOK Try.prog 29 := fn_ok Try.func29 (by kernel_rfl) rfl
def f112.step {R : Type} (k : Nat) (ret : Bool → Option R) (a1 : Int) (a2 : Int) (a3 : Int) (a4 : Int) (a5 : Int) (a6 : Int) : Option R :=
  if (decide (a1 ≠ a4)) = true then
    ret false
  else
    if (decide (a2 ≠ a5)) = true then
      ret false
    else
      if (decide (a3 ≠ a6)) = true then
        ret false
      else
        ret true
def f112 (k : Nat) (a1 : Int) (a2 : Int) (a3 : Int) (a4 : Int) (a5 : Int) (a6 : Int) : Option Bool := f112.step k some a1 a2 a3 a4 a5 a6
def f112.w {R : Type} : Bool → (Res env → Option R) → Option R := fun t7 K => K ⟨.v (.c (.s (.bool t7))), [[], []]⟩
theorem f112.wn (x : Bool) : ∃ res, ∀ {R : Type} (K : Res env → Option R), f112.w x K = K res := by
  exact ⟨_, fun _ => rfl⟩
def f112.hd (k : Nat) (ps_ : List (P2 env)) : Cl env :=
  gC Cl.no ps_ fun p_ ps_ => qG Cl.no p_ fun cs_ => gC Cl.no cs_ fun c_ cs_ => qS Cl.no c_ fun v_ => vI Cl.no .i64 v_ fun a1 => gC Cl.no cs_ fun c_ cs_ => qS Cl.no c_ fun v_ => vI Cl.no .i64 v_ fun a2 => gC Cl.no cs_ fun c_ cs_ => qS Cl.no c_ fun v_ => vI Cl.no .i64 v_ fun a3 => gE Cl.no cs_ <| gC Cl.no ps_ fun p_ ps_ => qG Cl.no p_ fun cs_ => gC Cl.no cs_ fun c_ cs_ => qS Cl.no c_ fun v_ => vI Cl.no .i64 v_ fun a4 => gC Cl.no cs_ fun c_ cs_ => qS Cl.no c_ fun v_ => vI Cl.no .i64 v_ fun a5 => gC Cl.no cs_ fun c_ cs_ => qS Cl.no c_ fun v_ => vI Cl.no .i64 v_ fun a6 => gE Cl.no cs_ <| gE Cl.no ps_ <| { α := Bool, o := f112 k a1 a2 a3 a4 a5 a6, w := f112.w, nat := fun x _ => f112.wn x }
def f112.e (k : Nat) : Entry env := ⟨f112.hd k, [], []⟩
def f112.X (k : Nat) : Ctx env := { C := lookE [], L := lookE [], J := lookE [], keep := lookD [], keepX := lookD [], span := lookN [], eff := fun n => memN n [], prep := lookP [], np := 0 }
theorem f112.nat {R : Type} (k : Nat) (g : Bool → Option R) (a1 : Int) (a2 : Int) (a3 : Int) (a4 : Int) (a5 : Int) (a6 : Int) : f112.step k g a1 a2 a3 a4 a5 a6 = (f112 k a1 a2 a3 a4 a5 a6).bind g := by
  simp only [f112, f112.step, bind_ite, bind_sum, Option.bind_assoc, Option.bind_some, Option.bind_none]
theorem f112.ev (k : Nat) (a1 : Int) (a2 : Int) (a3 : Int) (a4 : Int) (a5 : Int) (a6 : Int) : evF (f112.X k) (bodyOf Try.f112) Try.f112.ntmps Try.f112.results.toList [.g [.s (.int .i64 a1), .s (.int .i64 a2), .s (.int .i64 a3)], .g [.s (.int .i64 a4), .s (.int .i64 a5), .s (.int .i64 a6)]] = f112.step k (fun x => f112.w x some) a1 a2 a3 a4 a5 a6 := by kernel_rfl
theorem f112.hok (k : Nat) : HOK (f112.X k) (bodyOf Try.f112) where
  l := allP_mem (by exact trivial)
  j := allP_mem (by exact trivial)
theorem f112.sound (k : Nat) : SoundC env Try.prog 112 ((f112.e k).F) := by
  intro ps_
  show GoodC _ _ _ ps_ (f112.hd k ps_)
  unfold f112.hd
  refine gC_ok (p := GoodC env Try.prog 112 _) goodC_no fun _ _ h => ?_
  subst h
  refine qG_ok (p := GoodC env Try.prog 112 _) goodC_no fun _ h => ?_
  subst h
  refine gC_ok (p := GoodC env Try.prog 112 _) goodC_no fun _ _ h => ?_
  subst h
  refine qS_ok (p := GoodC env Try.prog 112 _) goodC_no fun _ h => ?_
  subst h
  refine vI_ok (p := GoodC env Try.prog 112 _) goodC_no fun _ h => ?_
  subst h
  refine gC_ok (p := GoodC env Try.prog 112 _) goodC_no fun _ _ h => ?_
  subst h
  refine qS_ok (p := GoodC env Try.prog 112 _) goodC_no fun _ h => ?_
  subst h
  refine vI_ok (p := GoodC env Try.prog 112 _) goodC_no fun _ h => ?_
  subst h
  refine gC_ok (p := GoodC env Try.prog 112 _) goodC_no fun _ _ h => ?_
  subst h
  refine qS_ok (p := GoodC env Try.prog 112 _) goodC_no fun _ h => ?_
  subst h
  refine vI_ok (p := GoodC env Try.prog 112 _) goodC_no fun _ h => ?_
  subst h
  refine gE_ok (p := GoodC env Try.prog 112 _) goodC_no fun h => ?_
  subst h
  refine gC_ok (p := GoodC env Try.prog 112 _) goodC_no fun _ _ h => ?_
  subst h
  refine qG_ok (p := GoodC env Try.prog 112 _) goodC_no fun _ h => ?_
  subst h
  refine gC_ok (p := GoodC env Try.prog 112 _) goodC_no fun _ _ h => ?_
  subst h
  refine qS_ok (p := GoodC env Try.prog 112 _) goodC_no fun _ h => ?_
  subst h
  refine vI_ok (p := GoodC env Try.prog 112 _) goodC_no fun _ h => ?_
  subst h
  refine gC_ok (p := GoodC env Try.prog 112 _) goodC_no fun _ _ h => ?_
  subst h
  refine qS_ok (p := GoodC env Try.prog 112 _) goodC_no fun _ h => ?_
  subst h
  refine vI_ok (p := GoodC env Try.prog 112 _) goodC_no fun _ h => ?_
  subst h
  refine gC_ok (p := GoodC env Try.prog 112 _) goodC_no fun _ _ h => ?_
  subst h
  refine qS_ok (p := GoodC env Try.prog 112 _) goodC_no fun _ h => ?_
  subst h
  refine vI_ok (p := GoodC env Try.prog 112 _) goodC_no fun _ h => ?_
  subst h
  refine gE_ok (p := GoodC env Try.prog 112 _) goodC_no fun h => ?_
  subst h
  refine gE_ok (p := GoodC env Try.prog 112 _) goodC_no fun h => ?_
  subst h
  exact fun_good (fun_sound envOK (cs_sound _ (by exact trivial)) (f112.hok k) Try.func112 rfl) ((f112.ev k _ _ _ _ _ _).trans (f112.nat k _ _ _ _ _ _ _))
theorem f112.says (k : Nat) (a1 : Int) (a2 : Int) (a3 : Int) (a4 : Int) (a5 : Int) (a6 : Int) (t8 : Bool) (h_ : f112 k a1 a2 a3 a4 a5 a6 = some t8) : SoundAt env Try.prog 112 [.g [.s (.int .i64 a1), .s (.int .i64 a2), .s (.int .i64 a3)], .g [.s (.int .i64 a4), .s (.int .i64 a5), .s (.int .i64 a6)]] ⟨.v (.c (.s (.bool t8))), [[], []]⟩ :=
  fun_sound envOK (cs_sound _ (by exact trivial)) (f112.hok k) Try.func112 rfl _ _ (((f112.ev k a1 a2 a3 a4 a5 a6).trans (f112.nat k _ a1 a2 a3 a4 a5 a6)).trans (by rw [h_]; rfl))
theorem f112.fnok : FnOK Try.prog 112 := fn_ok Try.func112 (by kernel_rfl) rfl
def f98.l4.step {R : Type} (k : Nat) (rec_ : (List S95) → (List S95) → Int → Option R) (ret : (Bool ⊕ (Unit)) → Option R) (xs3 : List S95) (xs4 : List S95) (a5 : Int) : Option R :=
  if (decide (a5 < (((List.length xs3) : Nat) : Int))) = true then
    if (0 : Int) ≤ a5 then
      if a5 < ((List.length xs3 : Nat) : Int) then
        if (0 : Int) ≤ a5 then
          if a5 < ((List.length xs4 : Nat) : Int) then
            (f112 k (List.getD xs3 (Int.toNat a5) (⟨(0 : Int), (0 : Int), (0 : Int)⟩ : S95)).f0 (List.getD xs3 (Int.toNat a5) (⟨(0 : Int), (0 : Int), (0 : Int)⟩ : S95)).f1 (List.getD xs3 (Int.toNat a5) (⟨(0 : Int), (0 : Int), (0 : Int)⟩ : S95)).f2 (List.getD xs4 (Int.toNat a5) (⟨(0 : Int), (0 : Int), (0 : Int)⟩ : S95)).f0 (List.getD xs4 (Int.toNat a5) (⟨(0 : Int), (0 : Int), (0 : Int)⟩ : S95)).f1 (List.getD xs4 (Int.toNat a5) (⟨(0 : Int), (0 : Int), (0 : Int)⟩ : S95)).f2).bind fun t6 => if (!t6) = true then
                ret (.inl false)
              else
                rec_ xs3 xs4 (IntKind.i64.wrap (a5 + (1 : Int)))
          else none
        else none
      else none
    else none
  else
    ret (.inr ())
def f98.l4 (k : Nat) : Nat → (List S95) → (List S95) → Int → Option (Bool ⊕ (Unit))
  | 0, _, _, _ => none
  | j + 1, xs3, xs4, a5 => f98.l4.step k (fun xs3 xs4 a5 => f98.l4 k j xs3 xs4 a5) some xs3 xs4 a5
def f98.l4.w {R : Type} : (Bool ⊕ (Unit)) → (Exit → St env → Option R) → Option R := fun x K => Sum.elim (fun t9 => K .ret ⟨fullT [4] 0 27 [.v (.c (.s (.bool t9)))], [], 402⟩) (fun t10 => K (.exit 0) ⟨fullT [] 0 27 [], [], 402⟩) x
def f98.l4.st (xs3 : List S95) (xs4 : List S95) (a5 : Int) : St env := ⟨fullT [0, 1, 5] 0 27 [.v (.c (.imm 95 xs3)), .v (.c (.imm 95 xs4)), .v (.c (.s (.int .i64 a5)))], [], 114⟩
def f98.l4.hd (k : Nat) (ts_ : List (AV env)) (mm_ : Mem env) (n_ : Nat) : LCl env :=
  gTs LCl.no [0, 1, 5] 27 ts_ fun l_ => gV LCl.no l_ fun a_ l_ => rImm LCl.no 95 a_ fun xs3 => gV LCl.no l_ fun a_ l_ => rImm LCl.no 95 a_ fun xs4 => gV LCl.no l_ fun a_ l_ => rV LCl.no a_ fun v_ => vI LCl.no .i64 v_ fun a5 => gE LCl.no l_ <| gE LCl.no mm_ <| gN LCl.no 114 n_ { α := Bool ⊕ (Unit), o := f98.l4 k k xs3 xs4 a5, w := f98.l4.w }
def f98.step {R : Type} (k : Nat) (ret : Bool → Option R) (xs1 : List S95) (xs2 : List S95) : Option R :=
  if (decide ((((List.length xs1) : Nat) : Int) ≠ (((List.length xs2) : Nat) : Int))) = true then
    ret false
  else
    (f98.l4 k k xs1 xs2 (0 : Int)).bind (Sum.elim (fun t7 => ret t7) (fun t8 => ret true))
def f98 (k : Nat) (xs1 : List S95) (xs2 : List S95) : Option Bool := f98.step k some xs1 xs2
def f98.w {R : Type} : Bool → (Res env → Option R) → Option R := fun t11 K => K ⟨.v (.c (.s (.bool t11))), [[], []]⟩
theorem f98.wn (x : Bool) : ∃ res, ∀ {R : Type} (K : Res env → Option R), f98.w x K = K res := by
  exact ⟨_, fun _ => rfl⟩
def f98.hd (k : Nat) (ps_ : List (P2 env)) : Cl env :=
  gC Cl.no ps_ fun p_ ps_ => qC Cl.no p_ fun c_ => qSl Cl.no 95 c_ fun xs1 => gC Cl.no ps_ fun p_ ps_ => qC Cl.no p_ fun c_ => qSl Cl.no 95 c_ fun xs2 => gE Cl.no ps_ <| { α := Bool, o := f98 k xs1 xs2, w := f98.w, nat := fun x _ => f98.wn x }
def f98.e (k : Nat) : Entry env := ⟨fun ps => f98.hd k (coer [[.rd 95], [.rd 95]] ps), [], []⟩
def f98.X (k : Nat) : Ctx env := { C := lookE [(112, f112.e k)], L := lookE [(4, fun S => f98.l4.hd k S.ts S.m S.n)], J := lookE [], keep := lookD [(4, [0, 1, 5])], keepX := lookD [(4, [4])], span := lookN [(4, 288)], eff := fun n => memN n [], prep := lookP [], np := 0 }
theorem f98.l4.nat {R : Type} (k : Nat) (rec_ : (List S95) → (List S95) → Int → Option (Bool ⊕ (Unit))) (g : (Bool ⊕ (Unit)) → Option R) (xs3 : List S95) (xs4 : List S95) (a5 : Int) : (f98.l4.step k rec_ some xs3 xs4 a5).bind g = f98.l4.step k (fun xs3 xs4 a5 => (rec_ xs3 xs4 a5).bind g) g xs3 xs4 a5 := by
  simp only [f98.l4.step, bind_ite, bind_sum, Option.bind_assoc, Option.bind_some, Option.bind_none]
theorem f98.l4.good (k : Nat) (xs3 : List S95) (xs4 : List S95) (a5 : Int) : GoodL (f98.X k) (nthC 0 (loopsOf (bodyOf Try.f98))) (f98.l4.st xs3 xs4 a5) { α := (Bool ⊕ (Unit)), o := f98.l4 k k xs3 xs4 a5, w := f98.l4.w } :=
  loop_good (ι := (List S95) × (List S95) × Int) (α := (Bool ⊕ (Unit))) (fun i => f98.l4.st i.1 i.2.1 i.2.2) (fun j i => f98.l4 k j i.1 i.2.1 i.2.2) f98.l4.w (fun rec_ ret i => f98.l4.step k (fun xs3 xs4 a5 => rec_ (xs3, xs4, a5)) ret i.1 i.2.1 i.2.2)
    (fun _ => rfl) (fun _ _ => rfl) (fun rec_ g i => f98.l4.nat k _ g i.1 i.2.1 i.2.2) (fun {R} i0 i rec_ K => by kernel_rfl) k (xs3, xs4, a5)
theorem f98.l4.all (k : Nat) (S : St env) : GoodL (f98.X k) (nthC 0 (loopsOf (bodyOf Try.f98))) S (f98.l4.hd k S.ts S.m S.n) := by
  obtain ⟨ts_, m_, n_⟩ := S
  show GoodL _ _ _ (f98.l4.hd k ts_ m_ n_)
  unfold f98.l4.hd
  refine gTs_ok (p := GoodL _ _ _) goodL_no fun _ h => ?_
  subst h
  refine gV_ok (p := GoodL _ _ _) goodL_no fun _ _ h => ?_
  subst h
  refine rImm_ok (p := GoodL _ _ _) goodL_no fun _ h => ?_
  subst h
  refine gV_ok (p := GoodL _ _ _) goodL_no fun _ _ h => ?_
  subst h
  refine rImm_ok (p := GoodL _ _ _) goodL_no fun _ h => ?_
  subst h
  refine gV_ok (p := GoodL _ _ _) goodL_no fun _ _ h => ?_
  subst h
  refine rV_ok (p := GoodL _ _ _) goodL_no fun _ h => ?_
  subst h
  refine vI_ok (p := GoodL _ _ _) goodL_no fun _ h => ?_
  subst h
  refine gE_ok (p := GoodL _ _ _) goodL_no fun h => ?_
  subst h
  refine gE_ok (p := GoodL _ _ _) goodL_no fun h => ?_
  subst h
  refine gN_ok (p := GoodL _ _ _) goodL_no fun h => ?_
  subst h
  exact f98.l4.good k _ _ _
theorem f98.nat {R : Type} (k : Nat) (g : Bool → Option R) (xs1 : List S95) (xs2 : List S95) : f98.step k g xs1 xs2 = (f98 k xs1 xs2).bind g := by
  simp only [f98, f98.step, bind_ite, bind_sum, Option.bind_assoc, Option.bind_some, Option.bind_none]
theorem f98.ev (k : Nat) (xs1 : List S95) (xs2 : List S95) : evF (f98.X k) (bodyOf Try.f98) Try.f98.ntmps Try.f98.results.toList [.v (.c (.sl 95 xs1)), .v (.c (.sl 95 xs2))] = f98.step k (fun x => f98.w x some) xs1 xs2 := by kernel_rfl
theorem f98.hok (k : Nat) : HOK (f98.X k) (bodyOf Try.f98) where
  l := allP_mem (by exact ⟨ls_of (h0 := fun S => f98.l4.hd k S.ts S.m S.n) (by kernel_rfl) (f98.l4.all k), trivial⟩)
  j := allP_mem (by exact trivial)
theorem f98.sound0 (k : Nat) : SoundC env Try.prog 98 (f98.hd k) := by
  intro ps_
  show GoodC _ _ _ ps_ (f98.hd k ps_)
  unfold f98.hd
  refine gC_ok (p := GoodC env Try.prog 98 _) goodC_no fun _ _ h => ?_
  subst h
  refine qC_ok (p := GoodC env Try.prog 98 _) goodC_no fun _ h => ?_
  subst h
  refine qSl_ok (p := GoodC env Try.prog 98 _) goodC_no fun _ h => ?_
  subst h
  refine gC_ok (p := GoodC env Try.prog 98 _) goodC_no fun _ _ h => ?_
  subst h
  refine qC_ok (p := GoodC env Try.prog 98 _) goodC_no fun _ h => ?_
  subst h
  refine qSl_ok (p := GoodC env Try.prog 98 _) goodC_no fun _ h => ?_
  subst h
  refine gE_ok (p := GoodC env Try.prog 98 _) goodC_no fun h => ?_
  subst h
  exact fun_good (fun_sound envOK (cs_sound _ (by exact ⟨⟨f112.sound k, f112.fnok⟩, trivial⟩)) (f98.hok k) Try.func98 rfl) ((f98.ev k _ _).trans (f98.nat k _ _ _))
theorem f98.sound (k : Nat) : SoundC env Try.prog 98 (f98.e k).F := soundC_coer (f98.sound0 k) [[.rd 95], [.rd 95]]
theorem f98.says (k : Nat) (xs1 : List S95) (xs2 : List S95) (t12 : Bool) (h_ : f98 k xs1 xs2 = some t12) : SoundAt env Try.prog 98 [.v (.c (.sl 95 xs1)), .v (.c (.sl 95 xs2))] ⟨.v (.c (.s (.bool t12))), [[], []]⟩ :=
  fun_sound envOK (cs_sound _ (by exact ⟨⟨f112.sound k, f112.fnok⟩, trivial⟩)) (f98.hok k) Try.func98 rfl _ _ (((f98.ev k xs1 xs2).trans (f98.nat k _ xs1 xs2)).trans (by rw [h_]; rfl))
theorem f98.fnok : FnOK Try.prog 98 := fn_ok Try.func98 (by kernel_rfl) rfl
def f69.l4.step {R : Type} (k : Nat) (rec_ : (List (List S95)) → (List (List S95)) → Int → Option R) (ret : (Bool ⊕ (Unit)) → Option R) (xs3 : List (List S95)) (xs4 : List (List S95)) (a5 : Int) : Option R :=
  if (decide (a5 < (((List.length xs3) : Nat) : Int))) = true then
    if (0 : Int) ≤ a5 then
      if a5 < ((List.length xs3 : Nat) : Int) then
        if (0 : Int) ≤ a5 then
          if a5 < ((List.length xs4 : Nat) : Int) then
            (f98 k (List.getD xs3 (Int.toNat a5) []) (List.getD xs4 (Int.toNat a5) [])).bind fun t6 => if (!t6) = true then
                ret (.inl false)
              else
                rec_ xs3 xs4 (IntKind.i64.wrap (a5 + (1 : Int)))
          else none
        else none
      else none
    else none
  else
    ret (.inr ())
def f69.l4 (k : Nat) : Nat → (List (List S95)) → (List (List S95)) → Int → Option (Bool ⊕ (Unit))
  | 0, _, _, _ => none
  | j + 1, xs3, xs4, a5 => f69.l4.step k (fun xs3 xs4 a5 => f69.l4 k j xs3 xs4 a5) some xs3 xs4 a5
def f69.l4.w {R : Type} : (Bool ⊕ (Unit)) → (Exit → St env → Option R) → Option R := fun x K => Sum.elim (fun t9 => K .ret ⟨fullT [4] 0 27 [.v (.c (.s (.bool t9)))], [], 402⟩) (fun t10 => K (.exit 0) ⟨fullT [] 0 27 [], [], 402⟩) x
def f69.l4.st (xs3 : List (List S95)) (xs4 : List (List S95)) (a5 : Int) : St env := ⟨fullT [0, 1, 5] 0 27 [.v (.c (.imm 93 xs3)), .v (.c (.imm 93 xs4)), .v (.c (.s (.int .i64 a5)))], [], 114⟩
def f69.l4.hd (k : Nat) (ts_ : List (AV env)) (mm_ : Mem env) (n_ : Nat) : LCl env :=
  gTs LCl.no [0, 1, 5] 27 ts_ fun l_ => gV LCl.no l_ fun a_ l_ => rImm LCl.no 93 a_ fun xs3 => gV LCl.no l_ fun a_ l_ => rImm LCl.no 93 a_ fun xs4 => gV LCl.no l_ fun a_ l_ => rV LCl.no a_ fun v_ => vI LCl.no .i64 v_ fun a5 => gE LCl.no l_ <| gE LCl.no mm_ <| gN LCl.no 114 n_ { α := Bool ⊕ (Unit), o := f69.l4 k k xs3 xs4 a5, w := f69.l4.w }
def f69.step {R : Type} (k : Nat) (ret : Bool → Option R) (xs1 : List (List S95)) (xs2 : List (List S95)) : Option R :=
  if (decide ((((List.length xs1) : Nat) : Int) ≠ (((List.length xs2) : Nat) : Int))) = true then
    ret false
  else
    (f69.l4 k k xs1 xs2 (0 : Int)).bind (Sum.elim (fun t7 => ret t7) (fun t8 => ret true))
def f69 (k : Nat) (xs1 : List (List S95)) (xs2 : List (List S95)) : Option Bool := f69.step k some xs1 xs2
def f69.w {R : Type} : Bool → (Res env → Option R) → Option R := fun t11 K => K ⟨.v (.c (.s (.bool t11))), [[], []]⟩
theorem f69.wn (x : Bool) : ∃ res, ∀ {R : Type} (K : Res env → Option R), f69.w x K = K res := by
  exact ⟨_, fun _ => rfl⟩
def f69.hd (k : Nat) (ps_ : List (P2 env)) : Cl env :=
  gC Cl.no ps_ fun p_ ps_ => qC Cl.no p_ fun c_ => qSl Cl.no 93 c_ fun xs1 => gC Cl.no ps_ fun p_ ps_ => qC Cl.no p_ fun c_ => qSl Cl.no 93 c_ fun xs2 => gE Cl.no ps_ <| { α := Bool, o := f69 k xs1 xs2, w := f69.w, nat := fun x _ => f69.wn x }
def f69.e (k : Nat) : Entry env := ⟨fun ps => f69.hd k (coer [[.rd 93], [.rd 93]] ps), [], []⟩
def f69.X (k : Nat) : Ctx env := { C := lookE [(98, f98.e k)], L := lookE [(4, fun S => f69.l4.hd k S.ts S.m S.n)], J := lookE [], keep := lookD [(4, [0, 1, 5])], keepX := lookD [(4, [4])], span := lookN [(4, 288)], eff := fun n => memN n [], prep := lookP [], np := 0 }
theorem f69.l4.nat {R : Type} (k : Nat) (rec_ : (List (List S95)) → (List (List S95)) → Int → Option (Bool ⊕ (Unit))) (g : (Bool ⊕ (Unit)) → Option R) (xs3 : List (List S95)) (xs4 : List (List S95)) (a5 : Int) : (f69.l4.step k rec_ some xs3 xs4 a5).bind g = f69.l4.step k (fun xs3 xs4 a5 => (rec_ xs3 xs4 a5).bind g) g xs3 xs4 a5 := by
  simp only [f69.l4.step, bind_ite, bind_sum, Option.bind_assoc, Option.bind_some, Option.bind_none]
theorem f69.l4.good (k : Nat) (xs3 : List (List S95)) (xs4 : List (List S95)) (a5 : Int) : GoodL (f69.X k) (nthC 0 (loopsOf (bodyOf Try.f69))) (f69.l4.st xs3 xs4 a5) { α := (Bool ⊕ (Unit)), o := f69.l4 k k xs3 xs4 a5, w := f69.l4.w } :=
  loop_good (ι := (List (List S95)) × (List (List S95)) × Int) (α := (Bool ⊕ (Unit))) (fun i => f69.l4.st i.1 i.2.1 i.2.2) (fun j i => f69.l4 k j i.1 i.2.1 i.2.2) f69.l4.w (fun rec_ ret i => f69.l4.step k (fun xs3 xs4 a5 => rec_ (xs3, xs4, a5)) ret i.1 i.2.1 i.2.2)
    (fun _ => rfl) (fun _ _ => rfl) (fun rec_ g i => f69.l4.nat k _ g i.1 i.2.1 i.2.2) (fun {R} i0 i rec_ K => by kernel_rfl) k (xs3, xs4, a5)
theorem f69.l4.all (k : Nat) (S : St env) : GoodL (f69.X k) (nthC 0 (loopsOf (bodyOf Try.f69))) S (f69.l4.hd k S.ts S.m S.n) := by
  obtain ⟨ts_, m_, n_⟩ := S
  show GoodL _ _ _ (f69.l4.hd k ts_ m_ n_)
  unfold f69.l4.hd
  refine gTs_ok (p := GoodL _ _ _) goodL_no fun _ h => ?_
  subst h
  refine gV_ok (p := GoodL _ _ _) goodL_no fun _ _ h => ?_
  subst h
  refine rImm_ok (p := GoodL _ _ _) goodL_no fun _ h => ?_
  subst h
  refine gV_ok (p := GoodL _ _ _) goodL_no fun _ _ h => ?_
  subst h
  refine rImm_ok (p := GoodL _ _ _) goodL_no fun _ h => ?_
  subst h
  refine gV_ok (p := GoodL _ _ _) goodL_no fun _ _ h => ?_
  subst h
  refine rV_ok (p := GoodL _ _ _) goodL_no fun _ h => ?_
  subst h
  refine vI_ok (p := GoodL _ _ _) goodL_no fun _ h => ?_
  subst h
  refine gE_ok (p := GoodL _ _ _) goodL_no fun h => ?_
  subst h
  refine gE_ok (p := GoodL _ _ _) goodL_no fun h => ?_
  subst h
  refine gN_ok (p := GoodL _ _ _) goodL_no fun h => ?_
  subst h
  exact f69.l4.good k _ _ _
theorem f69.nat {R : Type} (k : Nat) (g : Bool → Option R) (xs1 : List (List S95)) (xs2 : List (List S95)) : f69.step k g xs1 xs2 = (f69 k xs1 xs2).bind g := by
  simp only [f69, f69.step, bind_ite, bind_sum, Option.bind_assoc, Option.bind_some, Option.bind_none]
theorem f69.ev (k : Nat) (xs1 : List (List S95)) (xs2 : List (List S95)) : evF (f69.X k) (bodyOf Try.f69) Try.f69.ntmps Try.f69.results.toList [.v (.c (.sl 93 xs1)), .v (.c (.sl 93 xs2))] = f69.step k (fun x => f69.w x some) xs1 xs2 := by kernel_rfl
theorem f69.hok (k : Nat) : HOK (f69.X k) (bodyOf Try.f69) where
  l := allP_mem (by exact ⟨ls_of (h0 := fun S => f69.l4.hd k S.ts S.m S.n) (by kernel_rfl) (f69.l4.all k), trivial⟩)
  j := allP_mem (by exact trivial)
theorem f69.sound0 (k : Nat) : SoundC env Try.prog 69 (f69.hd k) := by
  intro ps_
  show GoodC _ _ _ ps_ (f69.hd k ps_)
  unfold f69.hd
  refine gC_ok (p := GoodC env Try.prog 69 _) goodC_no fun _ _ h => ?_
  subst h
  refine qC_ok (p := GoodC env Try.prog 69 _) goodC_no fun _ h => ?_
  subst h
  refine qSl_ok (p := GoodC env Try.prog 69 _) goodC_no fun _ h => ?_
  subst h
  refine gC_ok (p := GoodC env Try.prog 69 _) goodC_no fun _ _ h => ?_
  subst h
  refine qC_ok (p := GoodC env Try.prog 69 _) goodC_no fun _ h => ?_
  subst h
  refine qSl_ok (p := GoodC env Try.prog 69 _) goodC_no fun _ h => ?_
  subst h
  refine gE_ok (p := GoodC env Try.prog 69 _) goodC_no fun h => ?_
  subst h
  exact fun_good (fun_sound envOK (cs_sound _ (by exact ⟨⟨f98.sound k, f98.fnok⟩, trivial⟩)) (f69.hok k) Try.func69 rfl) ((f69.ev k _ _).trans (f69.nat k _ _ _))
theorem f69.sound (k : Nat) : SoundC env Try.prog 69 (f69.e k).F := soundC_coer (f69.sound0 k) [[.rd 93], [.rd 93]]
theorem f69.says (k : Nat) (xs1 : List (List S95)) (xs2 : List (List S95)) (t12 : Bool) (h_ : f69 k xs1 xs2 = some t12) : SoundAt env Try.prog 69 [.v (.c (.sl 93 xs1)), .v (.c (.sl 93 xs2))] ⟨.v (.c (.s (.bool t12))), [[], []]⟩ :=
  fun_sound envOK (cs_sound _ (by exact ⟨⟨f98.sound k, f98.fnok⟩, trivial⟩)) (f69.hok k) Try.func69 rfl _ _ (((f69.ev k xs1 xs2).trans (f69.nat k _ xs1 xs2)).trans (by rw [h_]; rfl))
theorem f69.fnok : FnOK Try.prog 69 := fn_ok Try.func69 (by kernel_rfl) rfl
def f28.step {R : Type} (k : Nat) (ret : Bool → Option R) (xs1 : List S98) (xs2 : List (List S95)) (a3 : Int) (xs4 : List S98) (xs5 : List (List S95)) (a6 : Int) : Option R :=
  (f29 k xs1 xs4).bind fun t7 => if (!t7) = true then
      ret false
    else
      (f69 k xs2 xs5).bind fun t8 => if (!t8) = true then
          ret false
        else
          if (decide (a3 ≠ a6)) = true then
            ret false
          else
            ret true
def f28 (k : Nat) (xs1 : List S98) (xs2 : List (List S95)) (a3 : Int) (xs4 : List S98) (xs5 : List (List S95)) (a6 : Int) : Option Bool := f28.step k some xs1 xs2 a3 xs4 xs5 a6
def f28.w {R : Type} : Bool → (Res env → Option R) → Option R := fun t9 K => K ⟨.v (.c (.s (.bool t9))), [[], []]⟩
theorem f28.wn (x : Bool) : ∃ res, ∀ {R : Type} (K : Res env → Option R), f28.w x K = K res := by
  exact ⟨_, fun _ => rfl⟩
def f28.hd (k : Nat) (ps_ : List (P2 env)) : Cl env :=
  gC Cl.no ps_ fun p_ ps_ => qG Cl.no p_ fun cs_ => gC Cl.no cs_ fun c_ cs_ => qSl Cl.no 98 c_ fun xs1 => gC Cl.no cs_ fun c_ cs_ => qSl Cl.no 93 c_ fun xs2 => gC Cl.no cs_ fun c_ cs_ => qS Cl.no c_ fun v_ => vI Cl.no .i64 v_ fun a3 => gE Cl.no cs_ <| gC Cl.no ps_ fun p_ ps_ => qG Cl.no p_ fun cs_ => gC Cl.no cs_ fun c_ cs_ => qSl Cl.no 98 c_ fun xs4 => gC Cl.no cs_ fun c_ cs_ => qSl Cl.no 93 c_ fun xs5 => gC Cl.no cs_ fun c_ cs_ => qS Cl.no c_ fun v_ => vI Cl.no .i64 v_ fun a6 => gE Cl.no cs_ <| gE Cl.no ps_ <| { α := Bool, o := f28 k xs1 xs2 a3 xs4 xs5 a6, w := f28.w, nat := fun x _ => f28.wn x }
def f28.e (k : Nat) : Entry env := ⟨fun ps => f28.hd k (coer [[.rd 98, .rd 93, .no], [.rd 98, .rd 93, .no]] ps), [], []⟩
def f28.X (k : Nat) : Ctx env := { C := lookE [(29, f29.e k), (69, f69.e k)], L := lookE [], J := lookE [], keep := lookD [], keepX := lookD [], span := lookN [], eff := fun n => memN n [], prep := lookP [], np := 0 }
theorem f28.nat {R : Type} (k : Nat) (g : Bool → Option R) (xs1 : List S98) (xs2 : List (List S95)) (a3 : Int) (xs4 : List S98) (xs5 : List (List S95)) (a6 : Int) : f28.step k g xs1 xs2 a3 xs4 xs5 a6 = (f28 k xs1 xs2 a3 xs4 xs5 a6).bind g := by
  simp only [f28, f28.step, bind_ite, bind_sum, Option.bind_assoc, Option.bind_some, Option.bind_none]
theorem f28.ev (k : Nat) (xs1 : List S98) (xs2 : List (List S95)) (a3 : Int) (xs4 : List S98) (xs5 : List (List S95)) (a6 : Int) : evF (f28.X k) (bodyOf Try.f28) Try.f28.ntmps Try.f28.results.toList [.g [.sl 98 xs1, .sl 93 xs2, .s (.int .i64 a3)], .g [.sl 98 xs4, .sl 93 xs5, .s (.int .i64 a6)]] = f28.step k (fun x => f28.w x some) xs1 xs2 a3 xs4 xs5 a6 := by kernel_rfl
theorem f28.hok (k : Nat) : HOK (f28.X k) (bodyOf Try.f28) where
  l := allP_mem (by exact trivial)
  j := allP_mem (by exact trivial)
theorem f28.sound0 (k : Nat) : SoundC env Try.prog 28 (f28.hd k) := by
  intro ps_
  show GoodC _ _ _ ps_ (f28.hd k ps_)
  unfold f28.hd
  refine gC_ok (p := GoodC env Try.prog 28 _) goodC_no fun _ _ h => ?_
  subst h
  refine qG_ok (p := GoodC env Try.prog 28 _) goodC_no fun _ h => ?_
  subst h
  refine gC_ok (p := GoodC env Try.prog 28 _) goodC_no fun _ _ h => ?_
  subst h
  refine qSl_ok (p := GoodC env Try.prog 28 _) goodC_no fun _ h => ?_
  subst h
  refine gC_ok (p := GoodC env Try.prog 28 _) goodC_no fun _ _ h => ?_
  subst h
  refine qSl_ok (p := GoodC env Try.prog 28 _) goodC_no fun _ h => ?_
  subst h
  refine gC_ok (p := GoodC env Try.prog 28 _) goodC_no fun _ _ h => ?_
  subst h
  refine qS_ok (p := GoodC env Try.prog 28 _) goodC_no fun _ h => ?_
  subst h
  refine vI_ok (p := GoodC env Try.prog 28 _) goodC_no fun _ h => ?_
  subst h
  refine gE_ok (p := GoodC env Try.prog 28 _) goodC_no fun h => ?_
  subst h
  refine gC_ok (p := GoodC env Try.prog 28 _) goodC_no fun _ _ h => ?_
  subst h
  refine qG_ok (p := GoodC env Try.prog 28 _) goodC_no fun _ h => ?_
  subst h
  refine gC_ok (p := GoodC env Try.prog 28 _) goodC_no fun _ _ h => ?_
  subst h
  refine qSl_ok (p := GoodC env Try.prog 28 _) goodC_no fun _ h => ?_
  subst h
  refine gC_ok (p := GoodC env Try.prog 28 _) goodC_no fun _ _ h => ?_
  subst h
  refine qSl_ok (p := GoodC env Try.prog 28 _) goodC_no fun _ h => ?_
  subst h
  refine gC_ok (p := GoodC env Try.prog 28 _) goodC_no fun _ _ h => ?_
  subst h
  refine qS_ok (p := GoodC env Try.prog 28 _) goodC_no fun _ h => ?_
  subst h
  refine vI_ok (p := GoodC env Try.prog 28 _) goodC_no fun _ h => ?_
  subst h
  refine gE_ok (p := GoodC env Try.prog 28 _) goodC_no fun h => ?_
  subst h
  refine gE_ok (p := GoodC env Try.prog 28 _) goodC_no fun h => ?_
  subst h
  exact fun_good (fun_sound envOK (cs_sound _ (by exact ⟨⟨f29.sound k, f29.fnok⟩, ⟨f69.sound k, f69.fnok⟩, trivial⟩)) (f28.hok k) Try.func28 rfl) ((f28.ev k _ _ _ _ _ _).trans (f28.nat k _ _ _ _ _ _ _))
theorem f28.sound (k : Nat) : SoundC env Try.prog 28 (f28.e k).F := soundC_coer (f28.sound0 k) [[.rd 98, .rd 93, .no], [.rd 98, .rd 93, .no]]
theorem f28.says (k : Nat) (xs1 : List S98) (xs2 : List (List S95)) (a3 : Int) (xs4 : List S98) (xs5 : List (List S95)) (a6 : Int) (t10 : Bool) (h_ : f28 k xs1 xs2 a3 xs4 xs5 a6 = some t10) : SoundAt env Try.prog 28 [.g [.sl 98 xs1, .sl 93 xs2, .s (.int .i64 a3)], .g [.sl 98 xs4, .sl 93 xs5, .s (.int .i64 a6)]] ⟨.v (.c (.s (.bool t10))), [[], []]⟩ :=
  fun_sound envOK (cs_sound _ (by exact ⟨⟨f29.sound k, f29.fnok⟩, ⟨f69.sound k, f69.fnok⟩, trivial⟩)) (f28.hok k) Try.func28 rfl _ _ (((f28.ev k xs1 xs2 a3 xs4 xs5 a6).trans (f28.nat k _ xs1 xs2 a3 xs4 xs5 a6)).trans (by rw [h_]; rfl))
theorem f28.fnok : FnOK Try.prog 28 := fn_ok Try.func28 (by kernel_rfl) rfl
def f30.l2.step {R : Type} (k : Nat) (rec_ : Int → Int → (List S98) → Option R) (ret : (Int × (List S98)) → Option R) (a3 : Int) (a4 : Int) (xs5 : List S98) : Option R :=
  if (decide (a4 < (((List.length xs5) : Nat) : Int))) = true then
    if (0 : Int) ≤ a4 then
      if a4 < ((List.length xs5 : Nat) : Int) then
        if (0 : Int) ≤ a4 then
          if a4 < ((List.length (set98 xs5 (Int.toNat a4) 0 [.s (.int .i64 a3)]) : Nat) : Int) then
            if (0 : Int) ≤ a4 then
              if a4 < ((List.length (set98 (set98 xs5 (Int.toNat a4) 0 [.s (.int .i64 a3)]) (Int.toNat a4) 1 [.s (.int .i64 (IntKind.i64.wrap (a3 + (1 : Int))))]) : Nat) : Int) then
                if (0 : Int) ≤ a4 then
                  if a4 < ((List.length (set98 (set98 (set98 xs5 (Int.toNat a4) 0 [.s (.int .i64 a3)]) (Int.toNat a4) 1 [.s (.int .i64 (IntKind.i64.wrap (a3 + (1 : Int))))]) (Int.toNat a4) 2 [.s (.int .i64 (IntKind.i64.wrap ((IntKind.i64.wrap (a3 + (1 : Int))) + (1 : Int))))]) : Nat) : Int) then
                    rec_ (IntKind.i64.wrap ((IntKind.i64.wrap ((IntKind.i64.wrap ((IntKind.i64.wrap (a3 + (1 : Int))) + (1 : Int))) + (1 : Int))) + (1 : Int))) (IntKind.i64.wrap (a4 + (1 : Int))) (set98 (set98 (set98 (set98 xs5 (Int.toNat a4) 0 [.s (.int .i64 a3)]) (Int.toNat a4) 1 [.s (.int .i64 (IntKind.i64.wrap (a3 + (1 : Int))))]) (Int.toNat a4) 2 [.s (.int .i64 (IntKind.i64.wrap ((IntKind.i64.wrap (a3 + (1 : Int))) + (1 : Int))))]) (Int.toNat a4) 3 [.s (.bool (decide ((Int.tmod (IntKind.i64.wrap ((IntKind.i64.wrap ((IntKind.i64.wrap (a3 + (1 : Int))) + (1 : Int))) + (1 : Int))) (3 : Int)) = (0 : Int))))])
                  else none
                else none
              else none
            else none
          else none
        else none
      else none
    else none
  else
    ret (a3, xs5)
def f30.l2 (k : Nat) : Nat → Int → Int → (List S98) → Option (Int × (List S98))
  | 0, _, _, _ => none
  | j + 1, a3, a4, xs5 => f30.l2.step k (fun a3 a4 xs5 => f30.l2 k j a3 a4 xs5) some a3 a4 xs5
def f30.l2.w {R : Type} : (Int × (List S98)) → (Exit → St env → Option R) → Option R := fun t7 K => K (.exit 0) ⟨fullT [0, 1] 0 43 [.v (.c (.row 2)), .v (.c (.s (.int .i64 t7.1)))], [(2, .row true 98 t7.2)], 882⟩
def f30.l2.st (a3 : Int) (a4 : Int) (xs5 : List S98) : St env := ⟨fullT [0, 1, 5] 0 43 [.v (.c (.row 2)), .v (.c (.s (.int .i64 a3))), .v (.c (.s (.int .i64 a4)))], [(2, .row true 98 xs5)], 162⟩
def f30.l2.hd (k : Nat) (ts_ : List (AV env)) (mm_ : Mem env) (n_ : Nat) : LCl env :=
  gTs LCl.no [0, 1, 5] 43 ts_ fun l_ => gV LCl.no l_ fun a_ l_ => rRow LCl.no 2 a_ <| gV LCl.no l_ fun a_ l_ => rV LCl.no a_ fun v_ => vI LCl.no .i64 v_ fun a3 => gV LCl.no l_ fun a_ l_ => rV LCl.no a_ fun v_ => vI LCl.no .i64 v_ fun a4 => gE LCl.no l_ <| mRow LCl.no 2 true 98 mm_ fun xs5 m_ => gE LCl.no m_ <| gN LCl.no 162 n_ { α := Int × (List S98), o := f30.l2 k k a3 a4 xs5, w := f30.l2.w }
def f30.step {R : Type} (k : Nat) (ret : (Int × (List S98)) → Option R) (xs1 : List S98) (a2 : Int) : Option R :=
  (f30.l2 k k a2 (0 : Int) xs1).bind fun t6 => ret (t6.1, t6.2)
def f30 (k : Nat) (xs1 : List S98) (a2 : Int) : Option (Int × (List S98)) := f30.step k some xs1 a2
def f30.w {R : Type} : (Int × (List S98)) → (Res env → Option R) → Option R := fun t8 K => K ⟨.v (.c (.s (.int .i64 t8.1))), [[.sl 98 t8.2], []]⟩
theorem f30.wn (x : (Int × (List S98))) : ∃ res, ∀ {R : Type} (K : Res env → Option R), f30.w x K = K res := by
  exact ⟨_, fun _ => rfl⟩
def f30.hd (k : Nat) (ps_ : List (P2 env)) : Cl env :=
  gC Cl.no ps_ fun p_ ps_ => qC Cl.no p_ fun c_ => qWr Cl.no 98 c_ fun xs1 => gC Cl.no ps_ fun p_ ps_ => qC Cl.no p_ fun c_ => qS Cl.no c_ fun v_ => vI Cl.no .i64 v_ fun a2 => gE Cl.no ps_ <| { α := Int × (List S98), o := f30 k xs1 a2, w := f30.w, nat := fun x _ => f30.wn x }
def f30.e (k : Nat) : Entry env := ⟨fun ps => f30.hd k (coer [[.wr 98], [.no]] ps), [(0, 0)], []⟩
def f30.X (k : Nat) : Ctx env := { C := lookE [], L := lookE [(2, fun S => f30.l2.hd k S.ts S.m S.n)], J := lookE [], keep := lookD [(2, [0, 1, 5])], keepX := lookD [(2, [0, 1])], span := lookN [(2, 720)], eff := fun n => memN n [], prep := lookP [], np := 130 }
theorem f30.l2.nat {R : Type} (k : Nat) (rec_ : Int → Int → (List S98) → Option (Int × (List S98))) (g : (Int × (List S98)) → Option R) (a3 : Int) (a4 : Int) (xs5 : List S98) : (f30.l2.step k rec_ some a3 a4 xs5).bind g = f30.l2.step k (fun a3 a4 xs5 => (rec_ a3 a4 xs5).bind g) g a3 a4 xs5 := by
  simp only [f30.l2.step, bind_ite, bind_sum, Option.bind_assoc, Option.bind_some, Option.bind_none]
theorem f30.l2.good (k : Nat) (a3 : Int) (a4 : Int) (xs5 : List S98) : GoodL (f30.X k) (nthC 0 (loopsOf (bodyOf Try.f30))) (f30.l2.st a3 a4 xs5) { α := (Int × (List S98)), o := f30.l2 k k a3 a4 xs5, w := f30.l2.w } :=
  loop_good (ι := Int × Int × (List S98)) (α := (Int × (List S98))) (fun i => f30.l2.st i.1 i.2.1 i.2.2) (fun j i => f30.l2 k j i.1 i.2.1 i.2.2) f30.l2.w (fun rec_ ret i => f30.l2.step k (fun a3 a4 xs5 => rec_ (a3, a4, xs5)) ret i.1 i.2.1 i.2.2)
    (fun _ => rfl) (fun _ _ => rfl) (fun rec_ g i => f30.l2.nat k _ g i.1 i.2.1 i.2.2) (fun {R} i0 i rec_ K => by kernel_rfl) k (a3, a4, xs5)
theorem f30.l2.all (k : Nat) (S : St env) : GoodL (f30.X k) (nthC 0 (loopsOf (bodyOf Try.f30))) S (f30.l2.hd k S.ts S.m S.n) := by
  obtain ⟨ts_, m_, n_⟩ := S
  show GoodL _ _ _ (f30.l2.hd k ts_ m_ n_)
  unfold f30.l2.hd
  refine gTs_ok (p := GoodL _ _ _) goodL_no fun _ h => ?_
  subst h
  refine gV_ok (p := GoodL _ _ _) goodL_no fun _ _ h => ?_
  subst h
  refine rRow_ok (p := GoodL _ _ _) goodL_no fun h => ?_
  subst h
  refine gV_ok (p := GoodL _ _ _) goodL_no fun _ _ h => ?_
  subst h
  refine rV_ok (p := GoodL _ _ _) goodL_no fun _ h => ?_
  subst h
  refine vI_ok (p := GoodL _ _ _) goodL_no fun _ h => ?_
  subst h
  refine gV_ok (p := GoodL _ _ _) goodL_no fun _ _ h => ?_
  subst h
  refine rV_ok (p := GoodL _ _ _) goodL_no fun _ h => ?_
  subst h
  refine vI_ok (p := GoodL _ _ _) goodL_no fun _ h => ?_
  subst h
  refine gE_ok (p := GoodL _ _ _) goodL_no fun h => ?_
  subst h
  refine mRow_ok (p := GoodL _ _ _) goodL_no fun _ _ h => ?_
  subst h
  refine gE_ok (p := GoodL _ _ _) goodL_no fun h => ?_
  subst h
  refine gN_ok (p := GoodL _ _ _) goodL_no fun h => ?_
  subst h
  exact f30.l2.good k _ _ _
theorem f30.nat {R : Type} (k : Nat) (g : (Int × (List S98)) → Option R) (xs1 : List S98) (a2 : Int) : f30.step k g xs1 a2 = (f30 k xs1 a2).bind g := by
  simp only [f30, f30.step, bind_ite, bind_sum, Option.bind_assoc, Option.bind_some, Option.bind_none]
theorem f30.ev (k : Nat) (xs1 : List S98) (a2 : Int) : evF (f30.X k) (bodyOf Try.f30) Try.f30.ntmps Try.f30.results.toList [.v (.c (.wr 98 xs1)), .v (.c (.s (.int .i64 a2)))] = f30.step k (fun x => f30.w x some) xs1 a2 := by kernel_rfl
theorem f30.hok (k : Nat) : HOK (f30.X k) (bodyOf Try.f30) where
  l := allP_mem (by exact ⟨ls_of (h0 := fun S => f30.l2.hd k S.ts S.m S.n) (by kernel_rfl) (f30.l2.all k), trivial⟩)
  j := allP_mem (by exact trivial)
theorem f30.sound0 (k : Nat) : SoundC env Try.prog 30 (f30.hd k) := by
  intro ps_
  show GoodC _ _ _ ps_ (f30.hd k ps_)
  unfold f30.hd
  refine gC_ok (p := GoodC env Try.prog 30 _) goodC_no fun _ _ h => ?_
  subst h
  refine qC_ok (p := GoodC env Try.prog 30 _) goodC_no fun _ h => ?_
  subst h
  refine qWr_ok (p := GoodC env Try.prog 30 _) goodC_no fun _ h => ?_
  subst h
  refine gC_ok (p := GoodC env Try.prog 30 _) goodC_no fun _ _ h => ?_
  subst h
  refine qC_ok (p := GoodC env Try.prog 30 _) goodC_no fun _ h => ?_
  subst h
  refine qS_ok (p := GoodC env Try.prog 30 _) goodC_no fun _ h => ?_
  subst h
  refine vI_ok (p := GoodC env Try.prog 30 _) goodC_no fun _ h => ?_
  subst h
  refine gE_ok (p := GoodC env Try.prog 30 _) goodC_no fun h => ?_
  subst h
  exact fun_good (fun_sound envOK (cs_sound _ (by exact trivial)) (f30.hok k) Try.func30 rfl) ((f30.ev k _ _).trans (f30.nat k _ _ _))
theorem f30.sound (k : Nat) : SoundC env Try.prog 30 (f30.e k).F := soundC_coer (f30.sound0 k) [[.wr 98], [.no]]
theorem f30.says (k : Nat) (xs1 : List S98) (a2 : Int) (t9 : Int × (List S98)) (h_ : f30 k xs1 a2 = some t9) : SoundAt env Try.prog 30 [.v (.c (.wr 98 xs1)), .v (.c (.s (.int .i64 a2)))] ⟨.v (.c (.s (.int .i64 t9.1))), [[.sl 98 t9.2], []]⟩ :=
  fun_sound envOK (cs_sound _ (by exact trivial)) (f30.hok k) Try.func30 rfl _ _ (((f30.ev k xs1 a2).trans (f30.nat k _ xs1 a2)).trans (by rw [h_]; rfl))
theorem f30.fnok : FnOK Try.prog 30 := fn_ok Try.func30 (by kernel_rfl) rfl
def f99.l2.step {R : Type} (k : Nat) (rec_ : Int → Int → (List S95) → Option R) (ret : (Int × (List S95)) → Option R) (a3 : Int) (a4 : Int) (xs5 : List S95) : Option R :=
  if (decide (a4 < (((List.length xs5) : Nat) : Int))) = true then
    if (0 : Int) ≤ a4 then
      if a4 < ((List.length xs5 : Nat) : Int) then
        if (0 : Int) ≤ a4 then
          if a4 < ((List.length (set95 xs5 (Int.toNat a4) 0 [.s (.int .i64 a3)]) : Nat) : Int) then
            if (0 : Int) ≤ a4 then
              if a4 < ((List.length (set95 (set95 xs5 (Int.toNat a4) 0 [.s (.int .i64 a3)]) (Int.toNat a4) 1 [.s (.int .i64 (IntKind.i64.wrap (a3 + (1 : Int))))]) : Nat) : Int) then
                rec_ (IntKind.i64.wrap ((IntKind.i64.wrap ((IntKind.i64.wrap (a3 + (1 : Int))) + (1 : Int))) + (1 : Int))) (IntKind.i64.wrap (a4 + (1 : Int))) (set95 (set95 (set95 xs5 (Int.toNat a4) 0 [.s (.int .i64 a3)]) (Int.toNat a4) 1 [.s (.int .i64 (IntKind.i64.wrap (a3 + (1 : Int))))]) (Int.toNat a4) 2 [.s (.int .i64 (IntKind.i64.wrap ((IntKind.i64.wrap (a3 + (1 : Int))) + (1 : Int))))])
              else none
            else none
          else none
        else none
      else none
    else none
  else
    ret (a3, xs5)
def f99.l2 (k : Nat) : Nat → Int → Int → (List S95) → Option (Int × (List S95))
  | 0, _, _, _ => none
  | j + 1, a3, a4, xs5 => f99.l2.step k (fun a3 a4 xs5 => f99.l2 k j a3 a4 xs5) some a3 a4 xs5
def f99.l2.w {R : Type} : (Int × (List S95)) → (Exit → St env → Option R) → Option R := fun t7 K => K (.exit 0) ⟨fullT [0, 1] 0 34 [.v (.c (.row 2)), .v (.c (.s (.int .i64 t7.1)))], [(2, .row true 95 t7.2)], 706⟩
def f99.l2.st (a3 : Int) (a4 : Int) (xs5 : List S95) : St env := ⟨fullT [0, 1, 5] 0 34 [.v (.c (.row 2)), .v (.c (.s (.int .i64 a3))), .v (.c (.s (.int .i64 a4)))], [(2, .row true 95 xs5)], 162⟩
def f99.l2.hd (k : Nat) (ts_ : List (AV env)) (mm_ : Mem env) (n_ : Nat) : LCl env :=
  gTs LCl.no [0, 1, 5] 34 ts_ fun l_ => gV LCl.no l_ fun a_ l_ => rRow LCl.no 2 a_ <| gV LCl.no l_ fun a_ l_ => rV LCl.no a_ fun v_ => vI LCl.no .i64 v_ fun a3 => gV LCl.no l_ fun a_ l_ => rV LCl.no a_ fun v_ => vI LCl.no .i64 v_ fun a4 => gE LCl.no l_ <| mRow LCl.no 2 true 95 mm_ fun xs5 m_ => gE LCl.no m_ <| gN LCl.no 162 n_ { α := Int × (List S95), o := f99.l2 k k a3 a4 xs5, w := f99.l2.w }
def f99.step {R : Type} (k : Nat) (ret : (Int × (List S95)) → Option R) (xs1 : List S95) (a2 : Int) : Option R :=
  (f99.l2 k k a2 (0 : Int) xs1).bind fun t6 => ret (t6.1, t6.2)
def f99 (k : Nat) (xs1 : List S95) (a2 : Int) : Option (Int × (List S95)) := f99.step k some xs1 a2
def f99.w {R : Type} : (Int × (List S95)) → (Res env → Option R) → Option R := fun t8 K => K ⟨.v (.c (.s (.int .i64 t8.1))), [[.sl 95 t8.2], []]⟩
theorem f99.wn (x : (Int × (List S95))) : ∃ res, ∀ {R : Type} (K : Res env → Option R), f99.w x K = K res := by
  exact ⟨_, fun _ => rfl⟩
def f99.hd (k : Nat) (ps_ : List (P2 env)) : Cl env :=
  gC Cl.no ps_ fun p_ ps_ => qC Cl.no p_ fun c_ => qWr Cl.no 95 c_ fun xs1 => gC Cl.no ps_ fun p_ ps_ => qC Cl.no p_ fun c_ => qS Cl.no c_ fun v_ => vI Cl.no .i64 v_ fun a2 => gE Cl.no ps_ <| { α := Int × (List S95), o := f99 k xs1 a2, w := f99.w, nat := fun x _ => f99.wn x }
def f99.e (k : Nat) : Entry env := ⟨fun ps => f99.hd k (coer [[.wr 95], [.no]] ps), [(0, 0)], []⟩
def f99.X (k : Nat) : Ctx env := { C := lookE [], L := lookE [(2, fun S => f99.l2.hd k S.ts S.m S.n)], J := lookE [], keep := lookD [(2, [0, 1, 5])], keepX := lookD [(2, [0, 1])], span := lookN [(2, 544)], eff := fun n => memN n [], prep := lookP [], np := 130 }
theorem f99.l2.nat {R : Type} (k : Nat) (rec_ : Int → Int → (List S95) → Option (Int × (List S95))) (g : (Int × (List S95)) → Option R) (a3 : Int) (a4 : Int) (xs5 : List S95) : (f99.l2.step k rec_ some a3 a4 xs5).bind g = f99.l2.step k (fun a3 a4 xs5 => (rec_ a3 a4 xs5).bind g) g a3 a4 xs5 := by
  simp only [f99.l2.step, bind_ite, bind_sum, Option.bind_assoc, Option.bind_some, Option.bind_none]
theorem f99.l2.good (k : Nat) (a3 : Int) (a4 : Int) (xs5 : List S95) : GoodL (f99.X k) (nthC 0 (loopsOf (bodyOf Try.f99))) (f99.l2.st a3 a4 xs5) { α := (Int × (List S95)), o := f99.l2 k k a3 a4 xs5, w := f99.l2.w } :=
  loop_good (ι := Int × Int × (List S95)) (α := (Int × (List S95))) (fun i => f99.l2.st i.1 i.2.1 i.2.2) (fun j i => f99.l2 k j i.1 i.2.1 i.2.2) f99.l2.w (fun rec_ ret i => f99.l2.step k (fun a3 a4 xs5 => rec_ (a3, a4, xs5)) ret i.1 i.2.1 i.2.2)
    (fun _ => rfl) (fun _ _ => rfl) (fun rec_ g i => f99.l2.nat k _ g i.1 i.2.1 i.2.2) (fun {R} i0 i rec_ K => by kernel_rfl) k (a3, a4, xs5)
theorem f99.l2.all (k : Nat) (S : St env) : GoodL (f99.X k) (nthC 0 (loopsOf (bodyOf Try.f99))) S (f99.l2.hd k S.ts S.m S.n) := by
  obtain ⟨ts_, m_, n_⟩ := S
  show GoodL _ _ _ (f99.l2.hd k ts_ m_ n_)
  unfold f99.l2.hd
  refine gTs_ok (p := GoodL _ _ _) goodL_no fun _ h => ?_
  subst h
  refine gV_ok (p := GoodL _ _ _) goodL_no fun _ _ h => ?_
  subst h
  refine rRow_ok (p := GoodL _ _ _) goodL_no fun h => ?_
  subst h
  refine gV_ok (p := GoodL _ _ _) goodL_no fun _ _ h => ?_
  subst h
  refine rV_ok (p := GoodL _ _ _) goodL_no fun _ h => ?_
  subst h
  refine vI_ok (p := GoodL _ _ _) goodL_no fun _ h => ?_
  subst h
  refine gV_ok (p := GoodL _ _ _) goodL_no fun _ _ h => ?_
  subst h
  refine rV_ok (p := GoodL _ _ _) goodL_no fun _ h => ?_
  subst h
  refine vI_ok (p := GoodL _ _ _) goodL_no fun _ h => ?_
  subst h
  refine gE_ok (p := GoodL _ _ _) goodL_no fun h => ?_
  subst h
  refine mRow_ok (p := GoodL _ _ _) goodL_no fun _ _ h => ?_
  subst h
  refine gE_ok (p := GoodL _ _ _) goodL_no fun h => ?_
  subst h
  refine gN_ok (p := GoodL _ _ _) goodL_no fun h => ?_
  subst h
  exact f99.l2.good k _ _ _
theorem f99.nat {R : Type} (k : Nat) (g : (Int × (List S95)) → Option R) (xs1 : List S95) (a2 : Int) : f99.step k g xs1 a2 = (f99 k xs1 a2).bind g := by
  simp only [f99, f99.step, bind_ite, bind_sum, Option.bind_assoc, Option.bind_some, Option.bind_none]
theorem f99.ev (k : Nat) (xs1 : List S95) (a2 : Int) : evF (f99.X k) (bodyOf Try.f99) Try.f99.ntmps Try.f99.results.toList [.v (.c (.wr 95 xs1)), .v (.c (.s (.int .i64 a2)))] = f99.step k (fun x => f99.w x some) xs1 a2 := by kernel_rfl
theorem f99.hok (k : Nat) : HOK (f99.X k) (bodyOf Try.f99) where
  l := allP_mem (by exact ⟨ls_of (h0 := fun S => f99.l2.hd k S.ts S.m S.n) (by kernel_rfl) (f99.l2.all k), trivial⟩)
  j := allP_mem (by exact trivial)
theorem f99.sound0 (k : Nat) : SoundC env Try.prog 99 (f99.hd k) := by
  intro ps_
  show GoodC _ _ _ ps_ (f99.hd k ps_)
  unfold f99.hd
  refine gC_ok (p := GoodC env Try.prog 99 _) goodC_no fun _ _ h => ?_
  subst h
  refine qC_ok (p := GoodC env Try.prog 99 _) goodC_no fun _ h => ?_
  subst h
  refine qWr_ok (p := GoodC env Try.prog 99 _) goodC_no fun _ h => ?_
  subst h
  refine gC_ok (p := GoodC env Try.prog 99 _) goodC_no fun _ _ h => ?_
  subst h
  refine qC_ok (p := GoodC env Try.prog 99 _) goodC_no fun _ h => ?_
  subst h
  refine qS_ok (p := GoodC env Try.prog 99 _) goodC_no fun _ h => ?_
  subst h
  refine vI_ok (p := GoodC env Try.prog 99 _) goodC_no fun _ h => ?_
  subst h
  refine gE_ok (p := GoodC env Try.prog 99 _) goodC_no fun h => ?_
  subst h
  exact fun_good (fun_sound envOK (cs_sound _ (by exact trivial)) (f99.hok k) Try.func99 rfl) ((f99.ev k _ _).trans (f99.nat k _ _ _))
theorem f99.sound (k : Nat) : SoundC env Try.prog 99 (f99.e k).F := soundC_coer (f99.sound0 k) [[.wr 95], [.no]]
theorem f99.says (k : Nat) (xs1 : List S95) (a2 : Int) (t9 : Int × (List S95)) (h_ : f99 k xs1 a2 = some t9) : SoundAt env Try.prog 99 [.v (.c (.wr 95 xs1)), .v (.c (.s (.int .i64 a2)))] ⟨.v (.c (.s (.int .i64 t9.1))), [[.sl 95 t9.2], []]⟩ :=
  fun_sound envOK (cs_sound _ (by exact trivial)) (f99.hok k) Try.func99 rfl _ _ (((f99.ev k xs1 a2).trans (f99.nat k _ xs1 a2)).trans (by rw [h_]; rfl))
theorem f99.fnok : FnOK Try.prog 99 := fn_ok Try.func99 (by kernel_rfl) rfl
def f71.l2.step {R : Type} (k : Nat) (rec_ : Int → Int → (List (List S95)) → Option R) (ret : (Int × (List (List S95))) → Option R) (a3 : Int) (a4 : Int) (xs5 : List (List S95)) : Option R :=
  if (decide (a4 < (((List.length xs5) : Nat) : Int))) = true then
    if (0 : Int) ≤ a4 then
      if a4 < ((List.length xs5 : Nat) : Int) then
        (f99 k (List.getD xs5 (Int.toNat a4) []) a3).bind fun t6 => rec_ t6.1 (IntKind.i64.wrap (a4 + (1 : Int))) (List.set xs5 (Int.toNat a4) t6.2)
      else none
    else none
  else
    ret (a3, xs5)
def f71.l2 (k : Nat) : Nat → Int → Int → (List (List S95)) → Option (Int × (List (List S95)))
  | 0, _, _, _ => none
  | j + 1, a3, a4, xs5 => f71.l2.step k (fun a3 a4 xs5 => f71.l2 k j a3 a4 xs5) some a3 a4 xs5
def f71.l2.w {R : Type} : (Int × (List (List S95))) → (Exit → St env → Option R) → Option R := fun t8 K => K (.exit 0) ⟨fullT [0, 1] 0 19 [.v (.c (.row 2)), .v (.c (.s (.int .i64 t8.1)))], [(2, .row true 93 t8.2)], 386⟩
def f71.l2.st (a3 : Int) (a4 : Int) (xs5 : List (List S95)) : St env := ⟨fullT [0, 1, 5] 0 19 [.v (.c (.row 2)), .v (.c (.s (.int .i64 a3))), .v (.c (.s (.int .i64 a4)))], [(2, .row true 93 xs5)], 162⟩
def f71.l2.hd (k : Nat) (ts_ : List (AV env)) (mm_ : Mem env) (n_ : Nat) : LCl env :=
  gTs LCl.no [0, 1, 5] 19 ts_ fun l_ => gV LCl.no l_ fun a_ l_ => rRow LCl.no 2 a_ <| gV LCl.no l_ fun a_ l_ => rV LCl.no a_ fun v_ => vI LCl.no .i64 v_ fun a3 => gV LCl.no l_ fun a_ l_ => rV LCl.no a_ fun v_ => vI LCl.no .i64 v_ fun a4 => gE LCl.no l_ <| mRow LCl.no 2 true 93 mm_ fun xs5 m_ => gE LCl.no m_ <| gN LCl.no 162 n_ { α := Int × (List (List S95)), o := f71.l2 k k a3 a4 xs5, w := f71.l2.w }
def f71.step {R : Type} (k : Nat) (ret : (Int × (List (List S95))) → Option R) (xs1 : List (List S95)) (a2 : Int) : Option R :=
  (f71.l2 k k a2 (0 : Int) xs1).bind fun t7 => ret (t7.1, t7.2)
def f71 (k : Nat) (xs1 : List (List S95)) (a2 : Int) : Option (Int × (List (List S95))) := f71.step k some xs1 a2
def f71.w {R : Type} : (Int × (List (List S95))) → (Res env → Option R) → Option R := fun t9 K => K ⟨.v (.c (.s (.int .i64 t9.1))), [[.sl 93 t9.2], []]⟩
theorem f71.wn (x : (Int × (List (List S95)))) : ∃ res, ∀ {R : Type} (K : Res env → Option R), f71.w x K = K res := by
  exact ⟨_, fun _ => rfl⟩
def f71.hd (k : Nat) (ps_ : List (P2 env)) : Cl env :=
  gC Cl.no ps_ fun p_ ps_ => qC Cl.no p_ fun c_ => qWr Cl.no 93 c_ fun xs1 => gC Cl.no ps_ fun p_ ps_ => qC Cl.no p_ fun c_ => qS Cl.no c_ fun v_ => vI Cl.no .i64 v_ fun a2 => gE Cl.no ps_ <| { α := Int × (List (List S95)), o := f71 k xs1 a2, w := f71.w, nat := fun x _ => f71.wn x }
def f71.e (k : Nat) : Entry env := ⟨fun ps => f71.hd k (coer [[.wr 93], [.no]] ps), [(0, 0)], []⟩
def f71.X (k : Nat) : Ctx env := { C := lookE [(99, f99.e k)], L := lookE [(2, fun S => f71.l2.hd k S.ts S.m S.n)], J := lookE [], keep := lookD [(2, [0, 1, 5])], keepX := lookD [(2, [0, 1])], span := lookN [(2, 224)], eff := fun n => memN n [], prep := lookP [], np := 130 }
theorem f71.l2.nat {R : Type} (k : Nat) (rec_ : Int → Int → (List (List S95)) → Option (Int × (List (List S95)))) (g : (Int × (List (List S95))) → Option R) (a3 : Int) (a4 : Int) (xs5 : List (List S95)) : (f71.l2.step k rec_ some a3 a4 xs5).bind g = f71.l2.step k (fun a3 a4 xs5 => (rec_ a3 a4 xs5).bind g) g a3 a4 xs5 := by
  simp only [f71.l2.step, bind_ite, bind_sum, Option.bind_assoc, Option.bind_some, Option.bind_none]
theorem f71.l2.good (k : Nat) (a3 : Int) (a4 : Int) (xs5 : List (List S95)) : GoodL (f71.X k) (nthC 0 (loopsOf (bodyOf Try.f71))) (f71.l2.st a3 a4 xs5) { α := (Int × (List (List S95))), o := f71.l2 k k a3 a4 xs5, w := f71.l2.w } :=
  loop_good (ι := Int × Int × (List (List S95))) (α := (Int × (List (List S95)))) (fun i => f71.l2.st i.1 i.2.1 i.2.2) (fun j i => f71.l2 k j i.1 i.2.1 i.2.2) f71.l2.w (fun rec_ ret i => f71.l2.step k (fun a3 a4 xs5 => rec_ (a3, a4, xs5)) ret i.1 i.2.1 i.2.2)
    (fun _ => rfl) (fun _ _ => rfl) (fun rec_ g i => f71.l2.nat k _ g i.1 i.2.1 i.2.2) (fun {R} i0 i rec_ K => by kernel_rfl) k (a3, a4, xs5)
theorem f71.l2.all (k : Nat) (S : St env) : GoodL (f71.X k) (nthC 0 (loopsOf (bodyOf Try.f71))) S (f71.l2.hd k S.ts S.m S.n) := by
  obtain ⟨ts_, m_, n_⟩ := S
  show GoodL _ _ _ (f71.l2.hd k ts_ m_ n_)
  unfold f71.l2.hd
  refine gTs_ok (p := GoodL _ _ _) goodL_no fun _ h => ?_
  subst h
  refine gV_ok (p := GoodL _ _ _) goodL_no fun _ _ h => ?_
  subst h
  refine rRow_ok (p := GoodL _ _ _) goodL_no fun h => ?_
  subst h
  refine gV_ok (p := GoodL _ _ _) goodL_no fun _ _ h => ?_
  subst h
  refine rV_ok (p := GoodL _ _ _) goodL_no fun _ h => ?_
  subst h
  refine vI_ok (p := GoodL _ _ _) goodL_no fun _ h => ?_
  subst h
  refine gV_ok (p := GoodL _ _ _) goodL_no fun _ _ h => ?_
  subst h
  refine rV_ok (p := GoodL _ _ _) goodL_no fun _ h => ?_
  subst h
  refine vI_ok (p := GoodL _ _ _) goodL_no fun _ h => ?_
  subst h
  refine gE_ok (p := GoodL _ _ _) goodL_no fun h => ?_
  subst h
  refine mRow_ok (p := GoodL _ _ _) goodL_no fun _ _ h => ?_
  subst h
  refine gE_ok (p := GoodL _ _ _) goodL_no fun h => ?_
  subst h
  refine gN_ok (p := GoodL _ _ _) goodL_no fun h => ?_
  subst h
  exact f71.l2.good k _ _ _
theorem f71.nat {R : Type} (k : Nat) (g : (Int × (List (List S95))) → Option R) (xs1 : List (List S95)) (a2 : Int) : f71.step k g xs1 a2 = (f71 k xs1 a2).bind g := by
  simp only [f71, f71.step, bind_ite, bind_sum, Option.bind_assoc, Option.bind_some, Option.bind_none]
theorem f71.ev (k : Nat) (xs1 : List (List S95)) (a2 : Int) : evF (f71.X k) (bodyOf Try.f71) Try.f71.ntmps Try.f71.results.toList [.v (.c (.wr 93 xs1)), .v (.c (.s (.int .i64 a2)))] = f71.step k (fun x => f71.w x some) xs1 a2 := by kernel_rfl
theorem f71.hok (k : Nat) : HOK (f71.X k) (bodyOf Try.f71) where
  l := allP_mem (by exact ⟨ls_of (h0 := fun S => f71.l2.hd k S.ts S.m S.n) (by kernel_rfl) (f71.l2.all k), trivial⟩)
  j := allP_mem (by exact trivial)
theorem f71.sound0 (k : Nat) : SoundC env Try.prog 71 (f71.hd k) := by
  intro ps_
  show GoodC _ _ _ ps_ (f71.hd k ps_)
  unfold f71.hd
  refine gC_ok (p := GoodC env Try.prog 71 _) goodC_no fun _ _ h => ?_
  subst h
  refine qC_ok (p := GoodC env Try.prog 71 _) goodC_no fun _ h => ?_
  subst h
  refine qWr_ok (p := GoodC env Try.prog 71 _) goodC_no fun _ h => ?_
  subst h
  refine gC_ok (p := GoodC env Try.prog 71 _) goodC_no fun _ _ h => ?_
  subst h
  refine qC_ok (p := GoodC env Try.prog 71 _) goodC_no fun _ h => ?_
  subst h
  refine qS_ok (p := GoodC env Try.prog 71 _) goodC_no fun _ h => ?_
  subst h
  refine vI_ok (p := GoodC env Try.prog 71 _) goodC_no fun _ h => ?_
  subst h
  refine gE_ok (p := GoodC env Try.prog 71 _) goodC_no fun h => ?_
  subst h
  exact fun_good (fun_sound envOK (cs_sound _ (by exact ⟨⟨f99.sound k, f99.fnok⟩, trivial⟩)) (f71.hok k) Try.func71 rfl) ((f71.ev k _ _).trans (f71.nat k _ _ _))
theorem f71.sound (k : Nat) : SoundC env Try.prog 71 (f71.e k).F := soundC_coer (f71.sound0 k) [[.wr 93], [.no]]
theorem f71.says (k : Nat) (xs1 : List (List S95)) (a2 : Int) (t10 : Int × (List (List S95))) (h_ : f71 k xs1 a2 = some t10) : SoundAt env Try.prog 71 [.v (.c (.wr 93 xs1)), .v (.c (.s (.int .i64 a2)))] ⟨.v (.c (.s (.int .i64 t10.1))), [[.sl 93 t10.2], []]⟩ :=
  fun_sound envOK (cs_sound _ (by exact ⟨⟨f99.sound k, f99.fnok⟩, trivial⟩)) (f71.hok k) Try.func71 rfl _ _ (((f71.ev k xs1 a2).trans (f71.nat k _ xs1 a2)).trans (by rw [h_]; rfl))
theorem f71.fnok : FnOK Try.prog 71 := fn_ok Try.func71 (by kernel_rfl) rfl
def f31.step {R : Type} (k : Nat) (ret : (Int × (List S98) × (List (List S95)) × Bool) → Option R) (xs1 : List S98) (xs2 : List (List S95)) (a3 : Int) (a4 : Int) : Option R :=
  (f30 k xs1 a4).bind fun t5 => (f71 k xs2 t5.1).bind fun t6 => ret (t6.1, t5.2, t6.2, false)
def f31 (k : Nat) (xs1 : List S98) (xs2 : List (List S95)) (a3 : Int) (a4 : Int) : Option (Int × (List S98) × (List (List S95)) × Bool) := f31.step k some xs1 xs2 a3 a4
def f31.w {R : Type} : (Int × (List S98) × (List (List S95)) × Bool) → (Res env → Option R) → Option R := fun t7 K => K ⟨.v (.c (.s (.int .i64 t7.1))), [[.sl 98 t7.2.1, .sl 93 t7.2.2.1, .s (.bool t7.2.2.2)], []]⟩
theorem f31.wn (x : (Int × (List S98) × (List (List S95)) × Bool)) : ∃ res, ∀ {R : Type} (K : Res env → Option R), f31.w x K = K res := by
  exact ⟨_, fun _ => rfl⟩
def f31.hd (k : Nat) (ps_ : List (P2 env)) : Cl env :=
  gC Cl.no ps_ fun p_ ps_ => qG Cl.no p_ fun cs_ => gC Cl.no cs_ fun c_ cs_ => qWr Cl.no 98 c_ fun xs1 => gC Cl.no cs_ fun c_ cs_ => qWr Cl.no 93 c_ fun xs2 => gC Cl.no cs_ fun c_ cs_ => qS Cl.no c_ fun v_ => vI Cl.no .i64 v_ fun a3 => gE Cl.no cs_ <| gC Cl.no ps_ fun p_ ps_ => qC Cl.no p_ fun c_ => qS Cl.no c_ fun v_ => vI Cl.no .i64 v_ fun a4 => gE Cl.no ps_ <| { α := Int × (List S98) × (List (List S95)) × Bool, o := f31 k xs1 xs2 a3 a4, w := f31.w, nat := fun x _ => f31.wn x }
def f31.e (k : Nat) : Entry env := ⟨fun ps => f31.hd k (coer [[.wr 98, .wr 93, .no], [.no]] ps), [(0, 0), (0, 1)], []⟩
def f31.X (k : Nat) : Ctx env := { C := lookE [(30, f30.e k), (71, f71.e k)], L := lookE [], J := lookE [], keep := lookD [], keepX := lookD [], span := lookN [], eff := fun n => memN n [], prep := lookP [], np := 130 }
theorem f31.nat {R : Type} (k : Nat) (g : (Int × (List S98) × (List (List S95)) × Bool) → Option R) (xs1 : List S98) (xs2 : List (List S95)) (a3 : Int) (a4 : Int) : f31.step k g xs1 xs2 a3 a4 = (f31 k xs1 xs2 a3 a4).bind g := by
  simp only [f31, f31.step, bind_ite, bind_sum, Option.bind_assoc, Option.bind_some, Option.bind_none]
theorem f31.ev (k : Nat) (xs1 : List S98) (xs2 : List (List S95)) (a3 : Int) (a4 : Int) : evF (f31.X k) (bodyOf Try.f31) Try.f31.ntmps Try.f31.results.toList [.g [.wr 98 xs1, .wr 93 xs2, .s (.int .i64 a3)], .v (.c (.s (.int .i64 a4)))] = f31.step k (fun x => f31.w x some) xs1 xs2 a3 a4 := by kernel_rfl
theorem f31.hok (k : Nat) : HOK (f31.X k) (bodyOf Try.f31) where
  l := allP_mem (by exact trivial)
  j := allP_mem (by exact trivial)
theorem f31.sound0 (k : Nat) : SoundC env Try.prog 31 (f31.hd k) := by
  intro ps_
  show GoodC _ _ _ ps_ (f31.hd k ps_)
  unfold f31.hd
  refine gC_ok (p := GoodC env Try.prog 31 _) goodC_no fun _ _ h => ?_
  subst h
  refine qG_ok (p := GoodC env Try.prog 31 _) goodC_no fun _ h => ?_
  subst h
  refine gC_ok (p := GoodC env Try.prog 31 _) goodC_no fun _ _ h => ?_
  subst h
  refine qWr_ok (p := GoodC env Try.prog 31 _) goodC_no fun _ h => ?_
  subst h
  refine gC_ok (p := GoodC env Try.prog 31 _) goodC_no fun _ _ h => ?_
  subst h
  refine qWr_ok (p := GoodC env Try.prog 31 _) goodC_no fun _ h => ?_
  subst h
  refine gC_ok (p := GoodC env Try.prog 31 _) goodC_no fun _ _ h => ?_
  subst h
  refine qS_ok (p := GoodC env Try.prog 31 _) goodC_no fun _ h => ?_
  subst h
  refine vI_ok (p := GoodC env Try.prog 31 _) goodC_no fun _ h => ?_
  subst h
  refine gE_ok (p := GoodC env Try.prog 31 _) goodC_no fun h => ?_
  subst h
  refine gC_ok (p := GoodC env Try.prog 31 _) goodC_no fun _ _ h => ?_
  subst h
  refine qC_ok (p := GoodC env Try.prog 31 _) goodC_no fun _ h => ?_
  subst h
  refine qS_ok (p := GoodC env Try.prog 31 _) goodC_no fun _ h => ?_
  subst h
  refine vI_ok (p := GoodC env Try.prog 31 _) goodC_no fun _ h => ?_
  subst h
  refine gE_ok (p := GoodC env Try.prog 31 _) goodC_no fun h => ?_
  subst h
  exact fun_good (fun_sound envOK (cs_sound _ (by exact ⟨⟨f30.sound k, f30.fnok⟩, ⟨f71.sound k, f71.fnok⟩, trivial⟩)) (f31.hok k) Try.func31 rfl) ((f31.ev k _ _ _ _).trans (f31.nat k _ _ _ _ _))
theorem f31.sound (k : Nat) : SoundC env Try.prog 31 (f31.e k).F := soundC_coer (f31.sound0 k) [[.wr 98, .wr 93, .no], [.no]]
theorem f31.says (k : Nat) (xs1 : List S98) (xs2 : List (List S95)) (a3 : Int) (a4 : Int) (t8 : Int × (List S98) × (List (List S95)) × Bool) (h_ : f31 k xs1 xs2 a3 a4 = some t8) : SoundAt env Try.prog 31 [.g [.wr 98 xs1, .wr 93 xs2, .s (.int .i64 a3)], .v (.c (.s (.int .i64 a4)))] ⟨.v (.c (.s (.int .i64 t8.1))), [[.sl 98 t8.2.1, .sl 93 t8.2.2.1, .s (.bool t8.2.2.2)], []]⟩ :=
  fun_sound envOK (cs_sound _ (by exact ⟨⟨f30.sound k, f30.fnok⟩, ⟨f71.sound k, f71.fnok⟩, trivial⟩)) (f31.hok k) Try.func31 rfl _ _ (((f31.ev k xs1 xs2 a3 a4).trans (f31.nat k _ xs1 xs2 a3 a4)).trans (by rw [h_]; rfl))
theorem f31.fnok : FnOK Try.prog 31 := fn_ok Try.func31 (by kernel_rfl) rfl
def f72.l2.step {R : Type} (k : Nat) (rec_ : (List S98) → Int → Int → Option R) (ret : ((Int × Int) ⊕ (Int)) → Option R) (xs3 : List S98) (a4 : Int) (a5 : Int) : Option R :=
  if (decide (a5 < (((List.length xs3) : Nat) : Int))) = true then
    if (0 : Int) ≤ a5 then
      if a5 < ((List.length xs3 : Nat) : Int) then
        if (decide ((List.getD xs3 (Int.toNat a5) (⟨(0 : Int), (0 : Int), (0 : Int), false⟩ : S98)).f0 ≠ a4)) = true then
          ret (.inl (a4, (-1 : Int)))
        else
          if (0 : Int) ≤ a5 then
            if a5 < ((List.length xs3 : Nat) : Int) then
              if (decide ((List.getD xs3 (Int.toNat a5) (⟨(0 : Int), (0 : Int), (0 : Int), false⟩ : S98)).f1 ≠ (IntKind.i64.wrap (a4 + (1 : Int))))) = true then
                ret (.inl ((IntKind.i64.wrap (a4 + (1 : Int))), (-1 : Int)))
              else
                if (0 : Int) ≤ a5 then
                  if a5 < ((List.length xs3 : Nat) : Int) then
                    if (decide ((List.getD xs3 (Int.toNat a5) (⟨(0 : Int), (0 : Int), (0 : Int), false⟩ : S98)).f2 ≠ (IntKind.i64.wrap ((IntKind.i64.wrap (a4 + (1 : Int))) + (1 : Int))))) = true then
                      ret (.inl ((IntKind.i64.wrap ((IntKind.i64.wrap (a4 + (1 : Int))) + (1 : Int))), (-1 : Int)))
                    else
                      if (0 : Int) ≤ a5 then
                        if a5 < ((List.length xs3 : Nat) : Int) then
                          if (!((List.getD xs3 (Int.toNat a5) (⟨(0 : Int), (0 : Int), (0 : Int), false⟩ : S98)).f3 == (decide ((Int.tmod (IntKind.i64.wrap ((IntKind.i64.wrap ((IntKind.i64.wrap (a4 + (1 : Int))) + (1 : Int))) + (1 : Int))) (3 : Int)) = (0 : Int))))) = true then
                            ret (.inl ((IntKind.i64.wrap ((IntKind.i64.wrap ((IntKind.i64.wrap (a4 + (1 : Int))) + (1 : Int))) + (1 : Int))), (-1 : Int)))
                          else
                            rec_ xs3 (IntKind.i64.wrap ((IntKind.i64.wrap ((IntKind.i64.wrap ((IntKind.i64.wrap (a4 + (1 : Int))) + (1 : Int))) + (1 : Int))) + (1 : Int))) (IntKind.i64.wrap (a5 + (1 : Int)))
                        else none
                      else none
                  else none
                else none
            else none
          else none
      else none
    else none
  else
    ret (.inr a4)
def f72.l2 (k : Nat) : Nat → (List S98) → Int → Int → Option ((Int × Int) ⊕ (Int))
  | 0, _, _, _ => none
  | j + 1, xs3, a4, a5 => f72.l2.step k (fun xs3 a4 a5 => f72.l2 k j xs3 a4 a5) some xs3 a4 a5
def f72.l2.w {R : Type} : ((Int × Int) ⊕ (Int)) → (Exit → St env → Option R) → Option R := fun x K => Sum.elim (fun t8 => K .ret ⟨fullT [1, 4] 0 51 [.v (.c (.s (.int .i64 t8.1))), .v (.c (.s (.int .i64 t8.2)))], [], 882⟩) (fun t9 => K (.exit 0) ⟨fullT [1] 0 51 [.v (.c (.s (.int .i64 t9)))], [], 882⟩) x
def f72.l2.st (xs3 : List S98) (a4 : Int) (a5 : Int) : St env := ⟨fullT [0, 1, 5] 0 51 [.v (.c (.imm 98 xs3)), .v (.c (.s (.int .i64 a4))), .v (.c (.s (.int .i64 a5)))], [], 34⟩
def f72.l2.hd (k : Nat) (ts_ : List (AV env)) (mm_ : Mem env) (n_ : Nat) : LCl env :=
  gTs LCl.no [0, 1, 5] 51 ts_ fun l_ => gV LCl.no l_ fun a_ l_ => rImm LCl.no 98 a_ fun xs3 => gV LCl.no l_ fun a_ l_ => rV LCl.no a_ fun v_ => vI LCl.no .i64 v_ fun a4 => gV LCl.no l_ fun a_ l_ => rV LCl.no a_ fun v_ => vI LCl.no .i64 v_ fun a5 => gE LCl.no l_ <| gE LCl.no mm_ <| gN LCl.no 34 n_ { α := (Int × Int) ⊕ (Int), o := f72.l2 k k xs3 a4 a5, w := f72.l2.w }
def f72.step {R : Type} (k : Nat) (ret : Int → Option R) (xs1 : List S98) (a2 : Int) : Option R :=
  (f72.l2 k k xs1 a2 (0 : Int)).bind (Sum.elim (fun t6 => ret t6.2) (fun t7 => ret t7))
def f72 (k : Nat) (xs1 : List S98) (a2 : Int) : Option Int := f72.step k some xs1 a2
def f72.w {R : Type} : Int → (Res env → Option R) → Option R := fun t10 K => K ⟨.v (.c (.s (.int .i64 t10))), [[], []]⟩
theorem f72.wn (x : Int) : ∃ res, ∀ {R : Type} (K : Res env → Option R), f72.w x K = K res := by
  exact ⟨_, fun _ => rfl⟩
def f72.hd (k : Nat) (ps_ : List (P2 env)) : Cl env :=
  gC Cl.no ps_ fun p_ ps_ => qC Cl.no p_ fun c_ => qSl Cl.no 98 c_ fun xs1 => gC Cl.no ps_ fun p_ ps_ => qC Cl.no p_ fun c_ => qS Cl.no c_ fun v_ => vI Cl.no .i64 v_ fun a2 => gE Cl.no ps_ <| { α := Int, o := f72 k xs1 a2, w := f72.w, nat := fun x _ => f72.wn x }
def f72.e (k : Nat) : Entry env := ⟨fun ps => f72.hd k (coer [[.rd 98], [.no]] ps), [], []⟩
def f72.X (k : Nat) : Ctx env := { C := lookE [], L := lookE [(2, fun S => f72.l2.hd k S.ts S.m S.n)], J := lookE [], keep := lookD [(2, [0, 1, 5])], keepX := lookD [(2, [1, 4])], span := lookN [(2, 848)], eff := fun n => memN n [], prep := lookP [], np := 0 }
theorem f72.l2.nat {R : Type} (k : Nat) (rec_ : (List S98) → Int → Int → Option ((Int × Int) ⊕ (Int))) (g : ((Int × Int) ⊕ (Int)) → Option R) (xs3 : List S98) (a4 : Int) (a5 : Int) : (f72.l2.step k rec_ some xs3 a4 a5).bind g = f72.l2.step k (fun xs3 a4 a5 => (rec_ xs3 a4 a5).bind g) g xs3 a4 a5 := by
  simp only [f72.l2.step, bind_ite, bind_sum, Option.bind_assoc, Option.bind_some, Option.bind_none]
theorem f72.l2.good (k : Nat) (xs3 : List S98) (a4 : Int) (a5 : Int) : GoodL (f72.X k) (nthC 0 (loopsOf (bodyOf Try.f72))) (f72.l2.st xs3 a4 a5) { α := ((Int × Int) ⊕ (Int)), o := f72.l2 k k xs3 a4 a5, w := f72.l2.w } :=
  loop_good (ι := (List S98) × Int × Int) (α := ((Int × Int) ⊕ (Int))) (fun i => f72.l2.st i.1 i.2.1 i.2.2) (fun j i => f72.l2 k j i.1 i.2.1 i.2.2) f72.l2.w (fun rec_ ret i => f72.l2.step k (fun xs3 a4 a5 => rec_ (xs3, a4, a5)) ret i.1 i.2.1 i.2.2)
    (fun _ => rfl) (fun _ _ => rfl) (fun rec_ g i => f72.l2.nat k _ g i.1 i.2.1 i.2.2) (fun {R} i0 i rec_ K => by kernel_rfl) k (xs3, a4, a5)
theorem f72.l2.all (k : Nat) (S : St env) : GoodL (f72.X k) (nthC 0 (loopsOf (bodyOf Try.f72))) S (f72.l2.hd k S.ts S.m S.n) := by
  obtain ⟨ts_, m_, n_⟩ := S
  show GoodL _ _ _ (f72.l2.hd k ts_ m_ n_)
  unfold f72.l2.hd
  refine gTs_ok (p := GoodL _ _ _) goodL_no fun _ h => ?_
  subst h
  refine gV_ok (p := GoodL _ _ _) goodL_no fun _ _ h => ?_
  subst h
  refine rImm_ok (p := GoodL _ _ _) goodL_no fun _ h => ?_
  subst h
  refine gV_ok (p := GoodL _ _ _) goodL_no fun _ _ h => ?_
  subst h
  refine rV_ok (p := GoodL _ _ _) goodL_no fun _ h => ?_
  subst h
  refine vI_ok (p := GoodL _ _ _) goodL_no fun _ h => ?_
  subst h
  refine gV_ok (p := GoodL _ _ _) goodL_no fun _ _ h => ?_
  subst h
  refine rV_ok (p := GoodL _ _ _) goodL_no fun _ h => ?_
  subst h
  refine vI_ok (p := GoodL _ _ _) goodL_no fun _ h => ?_
  subst h
  refine gE_ok (p := GoodL _ _ _) goodL_no fun h => ?_
  subst h
  refine gE_ok (p := GoodL _ _ _) goodL_no fun h => ?_
  subst h
  refine gN_ok (p := GoodL _ _ _) goodL_no fun h => ?_
  subst h
  exact f72.l2.good k _ _ _
theorem f72.nat {R : Type} (k : Nat) (g : Int → Option R) (xs1 : List S98) (a2 : Int) : f72.step k g xs1 a2 = (f72 k xs1 a2).bind g := by
  simp only [f72, f72.step, bind_ite, bind_sum, Option.bind_assoc, Option.bind_some, Option.bind_none]
theorem f72.ev (k : Nat) (xs1 : List S98) (a2 : Int) : evF (f72.X k) (bodyOf Try.f72) Try.f72.ntmps Try.f72.results.toList [.v (.c (.sl 98 xs1)), .v (.c (.s (.int .i64 a2)))] = f72.step k (fun x => f72.w x some) xs1 a2 := by kernel_rfl
theorem f72.hok (k : Nat) : HOK (f72.X k) (bodyOf Try.f72) where
  l := allP_mem (by exact ⟨ls_of (h0 := fun S => f72.l2.hd k S.ts S.m S.n) (by kernel_rfl) (f72.l2.all k), trivial⟩)
  j := allP_mem (by exact trivial)
theorem f72.sound0 (k : Nat) : SoundC env Try.prog 72 (f72.hd k) := by
  intro ps_
  show GoodC _ _ _ ps_ (f72.hd k ps_)
  unfold f72.hd
  refine gC_ok (p := GoodC env Try.prog 72 _) goodC_no fun _ _ h => ?_
  subst h
  refine qC_ok (p := GoodC env Try.prog 72 _) goodC_no fun _ h => ?_
  subst h
  refine qSl_ok (p := GoodC env Try.prog 72 _) goodC_no fun _ h => ?_
  subst h
  refine gC_ok (p := GoodC env Try.prog 72 _) goodC_no fun _ _ h => ?_
  subst h
  refine qC_ok (p := GoodC env Try.prog 72 _) goodC_no fun _ h => ?_
  subst h
  refine qS_ok (p := GoodC env Try.prog 72 _) goodC_no fun _ h => ?_
  subst h
  refine vI_ok (p := GoodC env Try.prog 72 _) goodC_no fun _ h => ?_
  subst h
  refine gE_ok (p := GoodC env Try.prog 72 _) goodC_no fun h => ?_
  subst h
  exact fun_good (fun_sound envOK (cs_sound _ (by exact trivial)) (f72.hok k) Try.func72 rfl) ((f72.ev k _ _).trans (f72.nat k _ _ _))
theorem f72.sound (k : Nat) : SoundC env Try.prog 72 (f72.e k).F := soundC_coer (f72.sound0 k) [[.rd 98], [.no]]
theorem f72.says (k : Nat) (xs1 : List S98) (a2 : Int) (t11 : Int) (h_ : f72 k xs1 a2 = some t11) : SoundAt env Try.prog 72 [.v (.c (.sl 98 xs1)), .v (.c (.s (.int .i64 a2)))] ⟨.v (.c (.s (.int .i64 t11))), [[], []]⟩ :=
  fun_sound envOK (cs_sound _ (by exact trivial)) (f72.hok k) Try.func72 rfl _ _ (((f72.ev k xs1 a2).trans (f72.nat k _ xs1 a2)).trans (by rw [h_]; rfl))
theorem f72.fnok : FnOK Try.prog 72 := fn_ok Try.func72 (by kernel_rfl) rfl
def f100.l2.step {R : Type} (k : Nat) (rec_ : (List S95) → Int → Int → Option R) (ret : ((Int × Int) ⊕ (Int)) → Option R) (xs3 : List S95) (a4 : Int) (a5 : Int) : Option R :=
  if (decide (a5 < (((List.length xs3) : Nat) : Int))) = true then
    if (0 : Int) ≤ a5 then
      if a5 < ((List.length xs3 : Nat) : Int) then
        if (decide ((List.getD xs3 (Int.toNat a5) (⟨(0 : Int), (0 : Int), (0 : Int)⟩ : S95)).f0 ≠ a4)) = true then
          ret (.inl (a4, (-1 : Int)))
        else
          if (0 : Int) ≤ a5 then
            if a5 < ((List.length xs3 : Nat) : Int) then
              if (decide ((List.getD xs3 (Int.toNat a5) (⟨(0 : Int), (0 : Int), (0 : Int)⟩ : S95)).f1 ≠ (IntKind.i64.wrap (a4 + (1 : Int))))) = true then
                ret (.inl ((IntKind.i64.wrap (a4 + (1 : Int))), (-1 : Int)))
              else
                if (0 : Int) ≤ a5 then
                  if a5 < ((List.length xs3 : Nat) : Int) then
                    if (decide ((List.getD xs3 (Int.toNat a5) (⟨(0 : Int), (0 : Int), (0 : Int)⟩ : S95)).f2 ≠ (IntKind.i64.wrap ((IntKind.i64.wrap (a4 + (1 : Int))) + (1 : Int))))) = true then
                      ret (.inl ((IntKind.i64.wrap ((IntKind.i64.wrap (a4 + (1 : Int))) + (1 : Int))), (-1 : Int)))
                    else
                      rec_ xs3 (IntKind.i64.wrap ((IntKind.i64.wrap ((IntKind.i64.wrap (a4 + (1 : Int))) + (1 : Int))) + (1 : Int))) (IntKind.i64.wrap (a5 + (1 : Int)))
                  else none
                else none
            else none
          else none
      else none
    else none
  else
    ret (.inr a4)
def f100.l2 (k : Nat) : Nat → (List S95) → Int → Int → Option ((Int × Int) ⊕ (Int))
  | 0, _, _, _ => none
  | j + 1, xs3, a4, a5 => f100.l2.step k (fun xs3 a4 a5 => f100.l2 k j xs3 a4 a5) some xs3 a4 a5
def f100.l2.w {R : Type} : ((Int × Int) ⊕ (Int)) → (Exit → St env → Option R) → Option R := fun x K => Sum.elim (fun t8 => K .ret ⟨fullT [1, 4] 0 40 [.v (.c (.s (.int .i64 t8.1))), .v (.c (.s (.int .i64 t8.2)))], [], 674⟩) (fun t9 => K (.exit 0) ⟨fullT [1] 0 40 [.v (.c (.s (.int .i64 t9)))], [], 674⟩) x
def f100.l2.st (xs3 : List S95) (a4 : Int) (a5 : Int) : St env := ⟨fullT [0, 1, 5] 0 40 [.v (.c (.imm 95 xs3)), .v (.c (.s (.int .i64 a4))), .v (.c (.s (.int .i64 a5)))], [], 34⟩
def f100.l2.hd (k : Nat) (ts_ : List (AV env)) (mm_ : Mem env) (n_ : Nat) : LCl env :=
  gTs LCl.no [0, 1, 5] 40 ts_ fun l_ => gV LCl.no l_ fun a_ l_ => rImm LCl.no 95 a_ fun xs3 => gV LCl.no l_ fun a_ l_ => rV LCl.no a_ fun v_ => vI LCl.no .i64 v_ fun a4 => gV LCl.no l_ fun a_ l_ => rV LCl.no a_ fun v_ => vI LCl.no .i64 v_ fun a5 => gE LCl.no l_ <| gE LCl.no mm_ <| gN LCl.no 34 n_ { α := (Int × Int) ⊕ (Int), o := f100.l2 k k xs3 a4 a5, w := f100.l2.w }
def f100.step {R : Type} (k : Nat) (ret : Int → Option R) (xs1 : List S95) (a2 : Int) : Option R :=
  (f100.l2 k k xs1 a2 (0 : Int)).bind (Sum.elim (fun t6 => ret t6.2) (fun t7 => ret t7))
def f100 (k : Nat) (xs1 : List S95) (a2 : Int) : Option Int := f100.step k some xs1 a2
def f100.w {R : Type} : Int → (Res env → Option R) → Option R := fun t10 K => K ⟨.v (.c (.s (.int .i64 t10))), [[], []]⟩
theorem f100.wn (x : Int) : ∃ res, ∀ {R : Type} (K : Res env → Option R), f100.w x K = K res := by
  exact ⟨_, fun _ => rfl⟩
def f100.hd (k : Nat) (ps_ : List (P2 env)) : Cl env :=
  gC Cl.no ps_ fun p_ ps_ => qC Cl.no p_ fun c_ => qSl Cl.no 95 c_ fun xs1 => gC Cl.no ps_ fun p_ ps_ => qC Cl.no p_ fun c_ => qS Cl.no c_ fun v_ => vI Cl.no .i64 v_ fun a2 => gE Cl.no ps_ <| { α := Int, o := f100 k xs1 a2, w := f100.w, nat := fun x _ => f100.wn x }
def f100.e (k : Nat) : Entry env := ⟨fun ps => f100.hd k (coer [[.rd 95], [.no]] ps), [], []⟩
def f100.X (k : Nat) : Ctx env := { C := lookE [], L := lookE [(2, fun S => f100.l2.hd k S.ts S.m S.n)], J := lookE [], keep := lookD [(2, [0, 1, 5])], keepX := lookD [(2, [1, 4])], span := lookN [(2, 640)], eff := fun n => memN n [], prep := lookP [], np := 0 }
theorem f100.l2.nat {R : Type} (k : Nat) (rec_ : (List S95) → Int → Int → Option ((Int × Int) ⊕ (Int))) (g : ((Int × Int) ⊕ (Int)) → Option R) (xs3 : List S95) (a4 : Int) (a5 : Int) : (f100.l2.step k rec_ some xs3 a4 a5).bind g = f100.l2.step k (fun xs3 a4 a5 => (rec_ xs3 a4 a5).bind g) g xs3 a4 a5 := by
  simp only [f100.l2.step, bind_ite, bind_sum, Option.bind_assoc, Option.bind_some, Option.bind_none]
theorem f100.l2.good (k : Nat) (xs3 : List S95) (a4 : Int) (a5 : Int) : GoodL (f100.X k) (nthC 0 (loopsOf (bodyOf Try.f100))) (f100.l2.st xs3 a4 a5) { α := ((Int × Int) ⊕ (Int)), o := f100.l2 k k xs3 a4 a5, w := f100.l2.w } :=
  loop_good (ι := (List S95) × Int × Int) (α := ((Int × Int) ⊕ (Int))) (fun i => f100.l2.st i.1 i.2.1 i.2.2) (fun j i => f100.l2 k j i.1 i.2.1 i.2.2) f100.l2.w (fun rec_ ret i => f100.l2.step k (fun xs3 a4 a5 => rec_ (xs3, a4, a5)) ret i.1 i.2.1 i.2.2)
    (fun _ => rfl) (fun _ _ => rfl) (fun rec_ g i => f100.l2.nat k _ g i.1 i.2.1 i.2.2) (fun {R} i0 i rec_ K => by kernel_rfl) k (xs3, a4, a5)
theorem f100.l2.all (k : Nat) (S : St env) : GoodL (f100.X k) (nthC 0 (loopsOf (bodyOf Try.f100))) S (f100.l2.hd k S.ts S.m S.n) := by
  obtain ⟨ts_, m_, n_⟩ := S
  show GoodL _ _ _ (f100.l2.hd k ts_ m_ n_)
  unfold f100.l2.hd
  refine gTs_ok (p := GoodL _ _ _) goodL_no fun _ h => ?_
  subst h
  refine gV_ok (p := GoodL _ _ _) goodL_no fun _ _ h => ?_
  subst h
  refine rImm_ok (p := GoodL _ _ _) goodL_no fun _ h => ?_
  subst h
  refine gV_ok (p := GoodL _ _ _) goodL_no fun _ _ h => ?_
  subst h
  refine rV_ok (p := GoodL _ _ _) goodL_no fun _ h => ?_
  subst h
  refine vI_ok (p := GoodL _ _ _) goodL_no fun _ h => ?_
  subst h
  refine gV_ok (p := GoodL _ _ _) goodL_no fun _ _ h => ?_
  subst h
  refine rV_ok (p := GoodL _ _ _) goodL_no fun _ h => ?_
  subst h
  refine vI_ok (p := GoodL _ _ _) goodL_no fun _ h => ?_
  subst h
  refine gE_ok (p := GoodL _ _ _) goodL_no fun h => ?_
  subst h
  refine gE_ok (p := GoodL _ _ _) goodL_no fun h => ?_
  subst h
  refine gN_ok (p := GoodL _ _ _) goodL_no fun h => ?_
  subst h
  exact f100.l2.good k _ _ _
theorem f100.nat {R : Type} (k : Nat) (g : Int → Option R) (xs1 : List S95) (a2 : Int) : f100.step k g xs1 a2 = (f100 k xs1 a2).bind g := by
  simp only [f100, f100.step, bind_ite, bind_sum, Option.bind_assoc, Option.bind_some, Option.bind_none]
theorem f100.ev (k : Nat) (xs1 : List S95) (a2 : Int) : evF (f100.X k) (bodyOf Try.f100) Try.f100.ntmps Try.f100.results.toList [.v (.c (.sl 95 xs1)), .v (.c (.s (.int .i64 a2)))] = f100.step k (fun x => f100.w x some) xs1 a2 := by kernel_rfl
theorem f100.hok (k : Nat) : HOK (f100.X k) (bodyOf Try.f100) where
  l := allP_mem (by exact ⟨ls_of (h0 := fun S => f100.l2.hd k S.ts S.m S.n) (by kernel_rfl) (f100.l2.all k), trivial⟩)
  j := allP_mem (by exact trivial)
theorem f100.sound0 (k : Nat) : SoundC env Try.prog 100 (f100.hd k) := by
  intro ps_
  show GoodC _ _ _ ps_ (f100.hd k ps_)
  unfold f100.hd
  refine gC_ok (p := GoodC env Try.prog 100 _) goodC_no fun _ _ h => ?_
  subst h
  refine qC_ok (p := GoodC env Try.prog 100 _) goodC_no fun _ h => ?_
  subst h
  refine qSl_ok (p := GoodC env Try.prog 100 _) goodC_no fun _ h => ?_
  subst h
  refine gC_ok (p := GoodC env Try.prog 100 _) goodC_no fun _ _ h => ?_
  subst h
  refine qC_ok (p := GoodC env Try.prog 100 _) goodC_no fun _ h => ?_
  subst h
  refine qS_ok (p := GoodC env Try.prog 100 _) goodC_no fun _ h => ?_
  subst h
  refine vI_ok (p := GoodC env Try.prog 100 _) goodC_no fun _ h => ?_
  subst h
  refine gE_ok (p := GoodC env Try.prog 100 _) goodC_no fun h => ?_
  subst h
  exact fun_good (fun_sound envOK (cs_sound _ (by exact trivial)) (f100.hok k) Try.func100 rfl) ((f100.ev k _ _).trans (f100.nat k _ _ _))
theorem f100.sound (k : Nat) : SoundC env Try.prog 100 (f100.e k).F := soundC_coer (f100.sound0 k) [[.rd 95], [.no]]
theorem f100.says (k : Nat) (xs1 : List S95) (a2 : Int) (t11 : Int) (h_ : f100 k xs1 a2 = some t11) : SoundAt env Try.prog 100 [.v (.c (.sl 95 xs1)), .v (.c (.s (.int .i64 a2)))] ⟨.v (.c (.s (.int .i64 t11))), [[], []]⟩ :=
  fun_sound envOK (cs_sound _ (by exact trivial)) (f100.hok k) Try.func100 rfl _ _ (((f100.ev k xs1 a2).trans (f100.nat k _ xs1 a2)).trans (by rw [h_]; rfl))
theorem f100.fnok : FnOK Try.prog 100 := fn_ok Try.func100 (by kernel_rfl) rfl
def f73.l2.step {R : Type} (k : Nat) (rec_ : (List (List S95)) → Int → Int → Option R) (ret : ((Int × Int) ⊕ (Int)) → Option R) (xs3 : List (List S95)) (a4 : Int) (a5 : Int) : Option R :=
  if (decide (a5 < (((List.length xs3) : Nat) : Int))) = true then
    if (0 : Int) ≤ a5 then
      if a5 < ((List.length xs3 : Nat) : Int) then
        (f100 k (List.getD xs3 (Int.toNat a5) []) a4).bind fun t6 => if (decide (t6 < (0 : Int))) = true then
            ret (.inl (t6, (-1 : Int)))
          else
            rec_ xs3 t6 (IntKind.i64.wrap (a5 + (1 : Int)))
      else none
    else none
  else
    ret (.inr a4)
def f73.l2 (k : Nat) : Nat → (List (List S95)) → Int → Int → Option ((Int × Int) ⊕ (Int))
  | 0, _, _, _ => none
  | j + 1, xs3, a4, a5 => f73.l2.step k (fun xs3 a4 a5 => f73.l2 k j xs3 a4 a5) some xs3 a4 a5
def f73.l2.w {R : Type} : ((Int × Int) ⊕ (Int)) → (Exit → St env → Option R) → Option R := fun x K => Sum.elim (fun t9 => K .ret ⟨fullT [1, 4] 0 21 [.v (.c (.s (.int .i64 t9.1))), .v (.c (.s (.int .i64 t9.2)))], [], 306⟩) (fun t10 => K (.exit 0) ⟨fullT [1] 0 21 [.v (.c (.s (.int .i64 t10)))], [], 306⟩) x
def f73.l2.st (xs3 : List (List S95)) (a4 : Int) (a5 : Int) : St env := ⟨fullT [0, 1, 5] 0 21 [.v (.c (.imm 93 xs3)), .v (.c (.s (.int .i64 a4))), .v (.c (.s (.int .i64 a5)))], [], 34⟩
def f73.l2.hd (k : Nat) (ts_ : List (AV env)) (mm_ : Mem env) (n_ : Nat) : LCl env :=
  gTs LCl.no [0, 1, 5] 21 ts_ fun l_ => gV LCl.no l_ fun a_ l_ => rImm LCl.no 93 a_ fun xs3 => gV LCl.no l_ fun a_ l_ => rV LCl.no a_ fun v_ => vI LCl.no .i64 v_ fun a4 => gV LCl.no l_ fun a_ l_ => rV LCl.no a_ fun v_ => vI LCl.no .i64 v_ fun a5 => gE LCl.no l_ <| gE LCl.no mm_ <| gN LCl.no 34 n_ { α := (Int × Int) ⊕ (Int), o := f73.l2 k k xs3 a4 a5, w := f73.l2.w }
def f73.step {R : Type} (k : Nat) (ret : Int → Option R) (xs1 : List (List S95)) (a2 : Int) : Option R :=
  (f73.l2 k k xs1 a2 (0 : Int)).bind (Sum.elim (fun t7 => ret t7.2) (fun t8 => ret t8))
def f73 (k : Nat) (xs1 : List (List S95)) (a2 : Int) : Option Int := f73.step k some xs1 a2
def f73.w {R : Type} : Int → (Res env → Option R) → Option R := fun t11 K => K ⟨.v (.c (.s (.int .i64 t11))), [[], []]⟩
theorem f73.wn (x : Int) : ∃ res, ∀ {R : Type} (K : Res env → Option R), f73.w x K = K res := by
  exact ⟨_, fun _ => rfl⟩
def f73.hd (k : Nat) (ps_ : List (P2 env)) : Cl env :=
  gC Cl.no ps_ fun p_ ps_ => qC Cl.no p_ fun c_ => qSl Cl.no 93 c_ fun xs1 => gC Cl.no ps_ fun p_ ps_ => qC Cl.no p_ fun c_ => qS Cl.no c_ fun v_ => vI Cl.no .i64 v_ fun a2 => gE Cl.no ps_ <| { α := Int, o := f73 k xs1 a2, w := f73.w, nat := fun x _ => f73.wn x }
def f73.e (k : Nat) : Entry env := ⟨fun ps => f73.hd k (coer [[.rd 93], [.no]] ps), [], []⟩
def f73.X (k : Nat) : Ctx env := { C := lookE [(100, f100.e k)], L := lookE [(2, fun S => f73.l2.hd k S.ts S.m S.n)], J := lookE [], keep := lookD [(2, [0, 1, 5])], keepX := lookD [(2, [1, 4])], span := lookN [(2, 272)], eff := fun n => memN n [], prep := lookP [], np := 0 }
theorem f73.l2.nat {R : Type} (k : Nat) (rec_ : (List (List S95)) → Int → Int → Option ((Int × Int) ⊕ (Int))) (g : ((Int × Int) ⊕ (Int)) → Option R) (xs3 : List (List S95)) (a4 : Int) (a5 : Int) : (f73.l2.step k rec_ some xs3 a4 a5).bind g = f73.l2.step k (fun xs3 a4 a5 => (rec_ xs3 a4 a5).bind g) g xs3 a4 a5 := by
  simp only [f73.l2.step, bind_ite, bind_sum, Option.bind_assoc, Option.bind_some, Option.bind_none]
theorem f73.l2.good (k : Nat) (xs3 : List (List S95)) (a4 : Int) (a5 : Int) : GoodL (f73.X k) (nthC 0 (loopsOf (bodyOf Try.f73))) (f73.l2.st xs3 a4 a5) { α := ((Int × Int) ⊕ (Int)), o := f73.l2 k k xs3 a4 a5, w := f73.l2.w } :=
  loop_good (ι := (List (List S95)) × Int × Int) (α := ((Int × Int) ⊕ (Int))) (fun i => f73.l2.st i.1 i.2.1 i.2.2) (fun j i => f73.l2 k j i.1 i.2.1 i.2.2) f73.l2.w (fun rec_ ret i => f73.l2.step k (fun xs3 a4 a5 => rec_ (xs3, a4, a5)) ret i.1 i.2.1 i.2.2)
    (fun _ => rfl) (fun _ _ => rfl) (fun rec_ g i => f73.l2.nat k _ g i.1 i.2.1 i.2.2) (fun {R} i0 i rec_ K => by kernel_rfl) k (xs3, a4, a5)
theorem f73.l2.all (k : Nat) (S : St env) : GoodL (f73.X k) (nthC 0 (loopsOf (bodyOf Try.f73))) S (f73.l2.hd k S.ts S.m S.n) := by
  obtain ⟨ts_, m_, n_⟩ := S
  show GoodL _ _ _ (f73.l2.hd k ts_ m_ n_)
  unfold f73.l2.hd
  refine gTs_ok (p := GoodL _ _ _) goodL_no fun _ h => ?_
  subst h
  refine gV_ok (p := GoodL _ _ _) goodL_no fun _ _ h => ?_
  subst h
  refine rImm_ok (p := GoodL _ _ _) goodL_no fun _ h => ?_
  subst h
  refine gV_ok (p := GoodL _ _ _) goodL_no fun _ _ h => ?_
  subst h
  refine rV_ok (p := GoodL _ _ _) goodL_no fun _ h => ?_
  subst h
  refine vI_ok (p := GoodL _ _ _) goodL_no fun _ h => ?_
  subst h
  refine gV_ok (p := GoodL _ _ _) goodL_no fun _ _ h => ?_
  subst h
  refine rV_ok (p := GoodL _ _ _) goodL_no fun _ h => ?_
  subst h
  refine vI_ok (p := GoodL _ _ _) goodL_no fun _ h => ?_
  subst h
  refine gE_ok (p := GoodL _ _ _) goodL_no fun h => ?_
  subst h
  refine gE_ok (p := GoodL _ _ _) goodL_no fun h => ?_
  subst h
  refine gN_ok (p := GoodL _ _ _) goodL_no fun h => ?_
  subst h
  exact f73.l2.good k _ _ _
theorem f73.nat {R : Type} (k : Nat) (g : Int → Option R) (xs1 : List (List S95)) (a2 : Int) : f73.step k g xs1 a2 = (f73 k xs1 a2).bind g := by
  simp only [f73, f73.step, bind_ite, bind_sum, Option.bind_assoc, Option.bind_some, Option.bind_none]
theorem f73.ev (k : Nat) (xs1 : List (List S95)) (a2 : Int) : evF (f73.X k) (bodyOf Try.f73) Try.f73.ntmps Try.f73.results.toList [.v (.c (.sl 93 xs1)), .v (.c (.s (.int .i64 a2)))] = f73.step k (fun x => f73.w x some) xs1 a2 := by kernel_rfl
theorem f73.hok (k : Nat) : HOK (f73.X k) (bodyOf Try.f73) where
  l := allP_mem (by exact ⟨ls_of (h0 := fun S => f73.l2.hd k S.ts S.m S.n) (by kernel_rfl) (f73.l2.all k), trivial⟩)
  j := allP_mem (by exact trivial)
theorem f73.sound0 (k : Nat) : SoundC env Try.prog 73 (f73.hd k) := by
  intro ps_
  show GoodC _ _ _ ps_ (f73.hd k ps_)
  unfold f73.hd
  refine gC_ok (p := GoodC env Try.prog 73 _) goodC_no fun _ _ h => ?_
  subst h
  refine qC_ok (p := GoodC env Try.prog 73 _) goodC_no fun _ h => ?_
  subst h
  refine qSl_ok (p := GoodC env Try.prog 73 _) goodC_no fun _ h => ?_
  subst h
  refine gC_ok (p := GoodC env Try.prog 73 _) goodC_no fun _ _ h => ?_
  subst h
  refine qC_ok (p := GoodC env Try.prog 73 _) goodC_no fun _ h => ?_
  subst h
  refine qS_ok (p := GoodC env Try.prog 73 _) goodC_no fun _ h => ?_
  subst h
  refine vI_ok (p := GoodC env Try.prog 73 _) goodC_no fun _ h => ?_
  subst h
  refine gE_ok (p := GoodC env Try.prog 73 _) goodC_no fun h => ?_
  subst h
  exact fun_good (fun_sound envOK (cs_sound _ (by exact ⟨⟨f100.sound k, f100.fnok⟩, trivial⟩)) (f73.hok k) Try.func73 rfl) ((f73.ev k _ _).trans (f73.nat k _ _ _))
theorem f73.sound (k : Nat) : SoundC env Try.prog 73 (f73.e k).F := soundC_coer (f73.sound0 k) [[.rd 93], [.no]]
theorem f73.says (k : Nat) (xs1 : List (List S95)) (a2 : Int) (t12 : Int) (h_ : f73 k xs1 a2 = some t12) : SoundAt env Try.prog 73 [.v (.c (.sl 93 xs1)), .v (.c (.s (.int .i64 a2)))] ⟨.v (.c (.s (.int .i64 t12))), [[], []]⟩ :=
  fun_sound envOK (cs_sound _ (by exact ⟨⟨f100.sound k, f100.fnok⟩, trivial⟩)) (f73.hok k) Try.func73 rfl _ _ (((f73.ev k xs1 a2).trans (f73.nat k _ xs1 a2)).trans (by rw [h_]; rfl))
theorem f73.fnok : FnOK Try.prog 73 := fn_ok Try.func73 (by kernel_rfl) rfl
def f32.step {R : Type} (k : Nat) (ret : Int → Option R) (xs1 : List S98) (xs2 : List (List S95)) (a3 : Int) (a4 : Int) : Option R :=
  (f72 k xs1 a4).bind fun t5 => if (decide (t5 < (0 : Int))) = true then
      ret (-1 : Int)
    else
      (f73 k xs2 t5).bind fun t6 => if (decide (t6 < (0 : Int))) = true then
          ret (-1 : Int)
        else
          ret t6
def f32 (k : Nat) (xs1 : List S98) (xs2 : List (List S95)) (a3 : Int) (a4 : Int) : Option Int := f32.step k some xs1 xs2 a3 a4
def f32.w {R : Type} : Int → (Res env → Option R) → Option R := fun t7 K => K ⟨.v (.c (.s (.int .i64 t7))), [[], []]⟩
theorem f32.wn (x : Int) : ∃ res, ∀ {R : Type} (K : Res env → Option R), f32.w x K = K res := by
  exact ⟨_, fun _ => rfl⟩
def f32.hd (k : Nat) (ps_ : List (P2 env)) : Cl env :=
  gC Cl.no ps_ fun p_ ps_ => qG Cl.no p_ fun cs_ => gC Cl.no cs_ fun c_ cs_ => qSl Cl.no 98 c_ fun xs1 => gC Cl.no cs_ fun c_ cs_ => qSl Cl.no 93 c_ fun xs2 => gC Cl.no cs_ fun c_ cs_ => qS Cl.no c_ fun v_ => vI Cl.no .i64 v_ fun a3 => gE Cl.no cs_ <| gC Cl.no ps_ fun p_ ps_ => qC Cl.no p_ fun c_ => qS Cl.no c_ fun v_ => vI Cl.no .i64 v_ fun a4 => gE Cl.no ps_ <| { α := Int, o := f32 k xs1 xs2 a3 a4, w := f32.w, nat := fun x _ => f32.wn x }
def f32.e (k : Nat) : Entry env := ⟨fun ps => f32.hd k (coer [[.rd 98, .rd 93, .no], [.no]] ps), [], []⟩
def f32.X (k : Nat) : Ctx env := { C := lookE [(72, f72.e k), (73, f73.e k)], L := lookE [], J := lookE [], keep := lookD [], keepX := lookD [], span := lookN [], eff := fun n => memN n [], prep := lookP [], np := 0 }
theorem f32.nat {R : Type} (k : Nat) (g : Int → Option R) (xs1 : List S98) (xs2 : List (List S95)) (a3 : Int) (a4 : Int) : f32.step k g xs1 xs2 a3 a4 = (f32 k xs1 xs2 a3 a4).bind g := by
  simp only [f32, f32.step, bind_ite, bind_sum, Option.bind_assoc, Option.bind_some, Option.bind_none]
theorem f32.ev (k : Nat) (xs1 : List S98) (xs2 : List (List S95)) (a3 : Int) (a4 : Int) : evF (f32.X k) (bodyOf Try.f32) Try.f32.ntmps Try.f32.results.toList [.g [.sl 98 xs1, .sl 93 xs2, .s (.int .i64 a3)], .v (.c (.s (.int .i64 a4)))] = f32.step k (fun x => f32.w x some) xs1 xs2 a3 a4 := by kernel_rfl
theorem f32.hok (k : Nat) : HOK (f32.X k) (bodyOf Try.f32) where
  l := allP_mem (by exact trivial)
  j := allP_mem (by exact trivial)
theorem f32.sound0 (k : Nat) : SoundC env Try.prog 32 (f32.hd k) := by
  intro ps_
  show GoodC _ _ _ ps_ (f32.hd k ps_)
  unfold f32.hd
  refine gC_ok (p := GoodC env Try.prog 32 _) goodC_no fun _ _ h => ?_
  subst h
  refine qG_ok (p := GoodC env Try.prog 32 _) goodC_no fun _ h => ?_
  subst h
  refine gC_ok (p := GoodC env Try.prog 32 _) goodC_no fun _ _ h => ?_
  subst h
  refine qSl_ok (p := GoodC env Try.prog 32 _) goodC_no fun _ h => ?_
  subst h
  refine gC_ok (p := GoodC env Try.prog 32 _) goodC_no fun _ _ h => ?_
  subst h
  refine qSl_ok (p := GoodC env Try.prog 32 _) goodC_no fun _ h => ?_
  subst h
  refine gC_ok (p := GoodC env Try.prog 32 _) goodC_no fun _ _ h => ?_
  subst h
  refine qS_ok (p := GoodC env Try.prog 32 _) goodC_no fun _ h => ?_
  subst h
  refine vI_ok (p := GoodC env Try.prog 32 _) goodC_no fun _ h => ?_
  subst h
  refine gE_ok (p := GoodC env Try.prog 32 _) goodC_no fun h => ?_
  subst h
  refine gC_ok (p := GoodC env Try.prog 32 _) goodC_no fun _ _ h => ?_
  subst h
  refine qC_ok (p := GoodC env Try.prog 32 _) goodC_no fun _ h => ?_
  subst h
  refine qS_ok (p := GoodC env Try.prog 32 _) goodC_no fun _ h => ?_
  subst h
  refine vI_ok (p := GoodC env Try.prog 32 _) goodC_no fun _ h => ?_
  subst h
  refine gE_ok (p := GoodC env Try.prog 32 _) goodC_no fun h => ?_
  subst h
  exact fun_good (fun_sound envOK (cs_sound _ (by exact ⟨⟨f72.sound k, f72.fnok⟩, ⟨f73.sound k, f73.fnok⟩, trivial⟩)) (f32.hok k) Try.func32 rfl) ((f32.ev k _ _ _ _).trans (f32.nat k _ _ _ _ _))
theorem f32.sound (k : Nat) : SoundC env Try.prog 32 (f32.e k).F := soundC_coer (f32.sound0 k) [[.rd 98, .rd 93, .no], [.no]]
theorem f32.says (k : Nat) (xs1 : List S98) (xs2 : List (List S95)) (a3 : Int) (a4 : Int) (t8 : Int) (h_ : f32 k xs1 xs2 a3 a4 = some t8) : SoundAt env Try.prog 32 [.g [.sl 98 xs1, .sl 93 xs2, .s (.int .i64 a3)], .v (.c (.s (.int .i64 a4)))] ⟨.v (.c (.s (.int .i64 t8))), [[], []]⟩ :=
  fun_sound envOK (cs_sound _ (by exact ⟨⟨f72.sound k, f72.fnok⟩, ⟨f73.sound k, f73.fnok⟩, trivial⟩)) (f32.hok k) Try.func32 rfl _ _ (((f32.ev k xs1 xs2 a3 a4).trans (f32.nat k _ xs1 xs2 a3 a4)).trans (by rw [h_]; rfl))
theorem f32.fnok : FnOK Try.prog 32 := fn_ok Try.func32 (by kernel_rfl) rfl
def f5.step {R : Type} (k : Nat) (ret : Bool → Option R) (a1 : Int) (xs2 : List S100) : Option R :=
  (f24 k xs2 (1048576 : Int)).bind fun t3 => if (decide (t3 < (0 : Int))) = true then
      ret true
    else
      (f26 k xs2).bind fun t4 => (f25 k a1 t4).bind (Sum.elim (fun t5 => (f26 k xs2).bind fun t6 => (f27 k a1 t6).bind (Sum.elim (fun t7 => (f28 k ([] : List S98) ([] : List (List S95)) t7.1 ([] : List S98) ([] : List (List S95)) t5.1).bind fun t8 => if (!t8) = false then
                  if (decide (t7.2 ≠ t5.2)) = true then
                    ret false
                  else
                    (f26 k xs2).bind fun t9 => (f29 k t6 t9).bind fun t10 => if (!t10) = true then
                          ret false
                        else
                          (f30 k t6 (1 : Int)).bind fun t11 => if (decide (t11.1 < (0 : Int))) = false then
                              (f28 k ([] : List S98) ([] : List (List S95)) t7.1 ([] : List S98) ([] : List (List S95)) t5.1).bind fun t12 => if (!t12) = false then
                                  if (decide (t7.2 ≠ t5.2)) = true then
                                    ret false
                                  else
                                    (f31 k ([] : List S98) ([] : List (List S95)) t7.1 (1 : Int)).bind fun t13 => (f32 k ([] : List S98) ([] : List (List S95)) t7.1 (1 : Int)).bind fun t14 => if (decide (t14 < (0 : Int))) = true then
                                          ret false
                                        else
                                          if (decide (t14 ≠ t13.1)) = true then
                                            ret false
                                          else
                                            (f26 k xs2).bind fun t15 => (f27 k a1 t15).bind (Sum.elim (fun t16 => (f28 k ([] : List S98) ([] : List (List S95)) t16.1 ([] : List S98) ([] : List (List S95)) t5.1).bind fun t17 => if (!t17) = false then
                                                    if (decide (t16.2 ≠ t5.2)) = true then
                                                      ret false
                                                    else
                                                      (f32 k ([] : List S98) ([] : List (List S95)) t7.1 (1 : Int)).bind fun t18 => if (decide (t18 < (0 : Int))) = true then
                                                          ret false
                                                        else
                                                          if (decide (t18 ≠ t13.1)) = true then
                                                            ret false
                                                          else
                                                            ret true
                                                  else
                                                    ret false) (fun t19 => (f28 k t19.1 t19.2.1 t19.2.2.1 ([] : List S98) ([] : List (List S95)) t5.1).bind fun t20 => if (!t20) = false then
                                                    if (decide (t19.2.2.2 ≠ t5.2)) = true then
                                                      ret false
                                                    else
                                                      (f32 k ([] : List S98) ([] : List (List S95)) t7.1 (1 : Int)).bind fun t21 => if (decide (t21 < (0 : Int))) = true then
                                                          ret false
                                                        else
                                                          if (decide (t21 ≠ t13.1)) = true then
                                                            ret false
                                                          else
                                                            ret true
                                                  else
                                                    ret false))
                                else
                                  ret false
                            else
                              ret false
                else
                  ret false) (fun t22 => (f28 k t22.1 t22.2.1 t22.2.2.1 ([] : List S98) ([] : List (List S95)) t5.1).bind fun t23 => if (!t23) = false then
                  if (decide (t22.2.2.2 ≠ t5.2)) = true then
                    ret false
                  else
                    (f26 k xs2).bind fun t24 => (f29 k t6 t24).bind fun t25 => if (!t25) = true then
                          ret false
                        else
                          (f30 k t6 (1 : Int)).bind fun t26 => if (decide (t26.1 < (0 : Int))) = false then
                              (f28 k t22.1 t22.2.1 t22.2.2.1 ([] : List S98) ([] : List (List S95)) t5.1).bind fun t27 => if (!t27) = false then
                                  if (decide (t22.2.2.2 ≠ t5.2)) = true then
                                    ret false
                                  else
                                    (f31 k t22.1 t22.2.1 t22.2.2.1 (1 : Int)).bind fun t28 => (f32 k t28.2.1 t28.2.2.1 t22.2.2.1 (1 : Int)).bind fun t29 => if (decide (t29 < (0 : Int))) = true then
                                          ret false
                                        else
                                          if (decide (t29 ≠ t28.1)) = true then
                                            ret false
                                          else
                                            (f26 k xs2).bind fun t30 => (f27 k a1 t30).bind (Sum.elim (fun t31 => (f28 k ([] : List S98) ([] : List (List S95)) t31.1 ([] : List S98) ([] : List (List S95)) t5.1).bind fun t32 => if (!t32) = false then
                                                    if (decide (t31.2 ≠ t5.2)) = true then
                                                      ret false
                                                    else
                                                      (f32 k t28.2.1 t28.2.2.1 t22.2.2.1 (1 : Int)).bind fun t33 => if (decide (t33 < (0 : Int))) = true then
                                                          ret false
                                                        else
                                                          if (decide (t33 ≠ t28.1)) = true then
                                                            ret false
                                                          else
                                                            ret true
                                                  else
                                                    ret false) (fun t34 => (f28 k t34.1 t34.2.1 t34.2.2.1 ([] : List S98) ([] : List (List S95)) t5.1).bind fun t35 => if (!t35) = false then
                                                    if (decide (t34.2.2.2 ≠ t5.2)) = true then
                                                      ret false
                                                    else
                                                      (f32 k t28.2.1 t28.2.2.1 t22.2.2.1 (1 : Int)).bind fun t36 => if (decide (t36 < (0 : Int))) = true then
                                                          ret false
                                                        else
                                                          if (decide (t36 ≠ t28.1)) = true then
                                                            ret false
                                                          else
                                                            ret true
                                                  else
                                                    ret false))
                                else
                                  ret false
                            else
                              ret false
                else
                  ret false))) (fun t37 => (f26 k xs2).bind fun t38 => (f27 k a1 t38).bind (Sum.elim (fun t39 => (f28 k ([] : List S98) ([] : List (List S95)) t39.1 t37.1 t37.2.1 t37.2.2.1).bind fun t40 => if (!t40) = false then
                  if (decide (t39.2 ≠ t37.2.2.2)) = true then
                    ret false
                  else
                    (f26 k xs2).bind fun t41 => (f29 k t38 t41).bind fun t42 => if (!t42) = true then
                          ret false
                        else
                          (f30 k t38 (1 : Int)).bind fun t43 => if (decide (t43.1 < (0 : Int))) = false then
                              (f28 k ([] : List S98) ([] : List (List S95)) t39.1 t37.1 t37.2.1 t37.2.2.1).bind fun t44 => if (!t44) = false then
                                  if (decide (t39.2 ≠ t37.2.2.2)) = true then
                                    ret false
                                  else
                                    (f31 k ([] : List S98) ([] : List (List S95)) t39.1 (1 : Int)).bind fun t45 => (f32 k ([] : List S98) ([] : List (List S95)) t39.1 (1 : Int)).bind fun t46 => if (decide (t46 < (0 : Int))) = true then
                                          ret false
                                        else
                                          if (decide (t46 ≠ t45.1)) = true then
                                            ret false
                                          else
                                            (f26 k xs2).bind fun t47 => (f27 k a1 t47).bind (Sum.elim (fun t48 => (f28 k ([] : List S98) ([] : List (List S95)) t48.1 t37.1 t37.2.1 t37.2.2.1).bind fun t49 => if (!t49) = false then
                                                    if (decide (t48.2 ≠ t37.2.2.2)) = true then
                                                      ret false
                                                    else
                                                      (f32 k ([] : List S98) ([] : List (List S95)) t39.1 (1 : Int)).bind fun t50 => if (decide (t50 < (0 : Int))) = true then
                                                          ret false
                                                        else
                                                          if (decide (t50 ≠ t45.1)) = true then
                                                            ret false
                                                          else
                                                            ret true
                                                  else
                                                    ret false) (fun t51 => (f28 k t51.1 t51.2.1 t51.2.2.1 t37.1 t37.2.1 t37.2.2.1).bind fun t52 => if (!t52) = false then
                                                    if (decide (t51.2.2.2 ≠ t37.2.2.2)) = true then
                                                      ret false
                                                    else
                                                      (f32 k ([] : List S98) ([] : List (List S95)) t39.1 (1 : Int)).bind fun t53 => if (decide (t53 < (0 : Int))) = true then
                                                          ret false
                                                        else
                                                          if (decide (t53 ≠ t45.1)) = true then
                                                            ret false
                                                          else
                                                            ret true
                                                  else
                                                    ret false))
                                else
                                  ret false
                            else
                              ret false
                else
                  ret false) (fun t54 => (f28 k t54.1 t54.2.1 t54.2.2.1 t37.1 t37.2.1 t37.2.2.1).bind fun t55 => if (!t55) = false then
                  if (decide (t54.2.2.2 ≠ t37.2.2.2)) = true then
                    ret false
                  else
                    (f26 k xs2).bind fun t56 => (f29 k t38 t56).bind fun t57 => if (!t57) = true then
                          ret false
                        else
                          (f30 k t38 (1 : Int)).bind fun t58 => if (decide (t58.1 < (0 : Int))) = false then
                              (f28 k t54.1 t54.2.1 t54.2.2.1 t37.1 t37.2.1 t37.2.2.1).bind fun t59 => if (!t59) = false then
                                  if (decide (t54.2.2.2 ≠ t37.2.2.2)) = true then
                                    ret false
                                  else
                                    (f31 k t54.1 t54.2.1 t54.2.2.1 (1 : Int)).bind fun t60 => (f32 k t60.2.1 t60.2.2.1 t54.2.2.1 (1 : Int)).bind fun t61 => if (decide (t61 < (0 : Int))) = true then
                                          ret false
                                        else
                                          if (decide (t61 ≠ t60.1)) = true then
                                            ret false
                                          else
                                            (f26 k xs2).bind fun t62 => (f27 k a1 t62).bind (Sum.elim (fun t63 => (f28 k ([] : List S98) ([] : List (List S95)) t63.1 t37.1 t37.2.1 t37.2.2.1).bind fun t64 => if (!t64) = false then
                                                    if (decide (t63.2 ≠ t37.2.2.2)) = true then
                                                      ret false
                                                    else
                                                      (f32 k t60.2.1 t60.2.2.1 t54.2.2.1 (1 : Int)).bind fun t65 => if (decide (t65 < (0 : Int))) = true then
                                                          ret false
                                                        else
                                                          if (decide (t65 ≠ t60.1)) = true then
                                                            ret false
                                                          else
                                                            ret true
                                                  else
                                                    ret false) (fun t66 => (f28 k t66.1 t66.2.1 t66.2.2.1 t37.1 t37.2.1 t37.2.2.1).bind fun t67 => if (!t67) = false then
                                                    if (decide (t66.2.2.2 ≠ t37.2.2.2)) = true then
                                                      ret false
                                                    else
                                                      (f32 k t60.2.1 t60.2.2.1 t54.2.2.1 (1 : Int)).bind fun t68 => if (decide (t68 < (0 : Int))) = true then
                                                          ret false
                                                        else
                                                          if (decide (t68 ≠ t60.1)) = true then
                                                            ret false
                                                          else
                                                            ret true
                                                  else
                                                    ret false))
                                else
                                  ret false
                            else
                              ret false
                else
                  ret false))))
def f5 (k : Nat) (a1 : Int) (xs2 : List S100) : Option Bool := f5.step k some a1 xs2
def f5.w {R : Type} : Bool → (Res env → Option R) → Option R := fun t69 K => K ⟨.v (.c (.s (.bool t69))), [[], []]⟩
theorem f5.wn (x : Bool) : ∃ res, ∀ {R : Type} (K : Res env → Option R), f5.w x K = K res := by
  exact ⟨_, fun _ => rfl⟩
def f5.hd (k : Nat) (ps_ : List (P2 env)) : Cl env :=
  gC Cl.no ps_ fun p_ ps_ => qC Cl.no p_ fun c_ => qS Cl.no c_ fun v_ => vI Cl.no .i64 v_ fun a1 => gC Cl.no ps_ fun p_ ps_ => qC Cl.no p_ fun c_ => qSl Cl.no 100 c_ fun xs2 => gE Cl.no ps_ <| { α := Bool, o := f5 k a1 xs2, w := f5.w, nat := fun x _ => f5.wn x }
def f5.e (k : Nat) : Entry env := ⟨fun ps => f5.hd k (coer [[.no], [.rd 100]] ps), [], []⟩
def f5.X (k : Nat) : Ctx env := { C := lookE [(24, f24.e k), (25, f25.e k), (26, f26.e k), (27, f27.e k), (28, f28.e k), (29, f29.e k), (30, f30.e k), (31, f31.e k), (32, f32.e k)], L := lookE [], J := lookE [], keep := lookD [], keepX := lookD [], span := lookN [], eff := fun n => memN n [], prep := lookP [], np := 0 }
theorem f5.nat {R : Type} (k : Nat) (g : Bool → Option R) (a1 : Int) (xs2 : List S100) : f5.step k g a1 xs2 = (f5 k a1 xs2).bind g := by
  simp only [f5, f5.step, bind_ite, bind_sum, Option.bind_assoc, Option.bind_some, Option.bind_none]
theorem f5.ev (k : Nat) (a1 : Int) (xs2 : List S100) : evF (f5.X k) (bodyOf Try.f5) Try.f5.ntmps Try.f5.results.toList [.v (.c (.s (.int .i64 a1))), .v (.c (.sl 100 xs2))] = f5.step k (fun x => f5.w x some) a1 xs2 := by kernel_rfl
theorem f5.hok (k : Nat) : HOK (f5.X k) (bodyOf Try.f5) where
  l := allP_mem (by exact trivial)
  j := allP_mem (by exact trivial)
theorem f5.sound0 (k : Nat) : SoundC env Try.prog 5 (f5.hd k) := by
  intro ps_
  show GoodC _ _ _ ps_ (f5.hd k ps_)
  unfold f5.hd
  refine gC_ok (p := GoodC env Try.prog 5 _) goodC_no fun _ _ h => ?_
  subst h
  refine qC_ok (p := GoodC env Try.prog 5 _) goodC_no fun _ h => ?_
  subst h
  refine qS_ok (p := GoodC env Try.prog 5 _) goodC_no fun _ h => ?_
  subst h
  refine vI_ok (p := GoodC env Try.prog 5 _) goodC_no fun _ h => ?_
  subst h
  refine gC_ok (p := GoodC env Try.prog 5 _) goodC_no fun _ _ h => ?_
  subst h
  refine qC_ok (p := GoodC env Try.prog 5 _) goodC_no fun _ h => ?_
  subst h
  refine qSl_ok (p := GoodC env Try.prog 5 _) goodC_no fun _ h => ?_
  subst h
  refine gE_ok (p := GoodC env Try.prog 5 _) goodC_no fun h => ?_
  subst h
  exact fun_good (fun_sound envOK (cs_sound _ (by exact ⟨⟨f24.sound k, f24.fnok⟩, ⟨f25.sound k, f25.fnok⟩, ⟨f26.sound k, f26.fnok⟩, ⟨f27.sound k, f27.fnok⟩, ⟨f28.sound k, f28.fnok⟩, ⟨f29.sound k, f29.fnok⟩, ⟨f30.sound k, f30.fnok⟩, ⟨f31.sound k, f31.fnok⟩, ⟨f32.sound k, f32.fnok⟩, trivial⟩)) (f5.hok k) Try.func5 rfl) ((f5.ev k _ _).trans (f5.nat k _ _ _))
theorem f5.sound (k : Nat) : SoundC env Try.prog 5 (f5.e k).F := soundC_coer (f5.sound0 k) [[.no], [.rd 100]]
theorem f5.says (k : Nat) (a1 : Int) (xs2 : List S100) (t70 : Bool) (h_ : f5 k a1 xs2 = some t70) : SoundAt env Try.prog 5 [.v (.c (.s (.int .i64 a1))), .v (.c (.sl 100 xs2))] ⟨.v (.c (.s (.bool t70))), [[], []]⟩ :=
  fun_sound envOK (cs_sound _ (by exact ⟨⟨f24.sound k, f24.fnok⟩, ⟨f25.sound k, f25.fnok⟩, ⟨f26.sound k, f26.fnok⟩, ⟨f27.sound k, f27.fnok⟩, ⟨f28.sound k, f28.fnok⟩, ⟨f29.sound k, f29.fnok⟩, ⟨f30.sound k, f30.fnok⟩, ⟨f31.sound k, f31.fnok⟩, ⟨f32.sound k, f32.fnok⟩, trivial⟩)) (f5.hok k) Try.func5 rfl _ _ (((f5.ev k a1 xs2).trans (f5.nat k _ a1 xs2)).trans (by rw [h_]; rfl))
theorem f5.fnok : FnOK Try.prog 5 := fn_ok Try.func5 (by kernel_rfl) rfl
end Go.Proofs.Ytebmblbfplmcaaa.B

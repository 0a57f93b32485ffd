/- Written by a program of this session. -/
import Derived.Test.YtildepkogbcdpaaADb
namespace Go.Proofs.Ytildepkogbcdpaa.B
open Go Go.B
set_option linter.unusedVariables false
set_option linter.unusedSimpArgs false
def f170.l2.step {R : Type} (k : Nat) (rec_ : (List S146) → Int → Int → Int → Int → Option R) (ret : (Int ⊕ (Unit)) → Option R) (xs4 : List S146) (a5 : Int) (a6 : Int) (a7 : Int) (a8 : Int) : Option R :=
  if (decide (a8 < a7)) = true then
    if (0 : Int) ≤ a8 then
      if a8 < ((List.length xs4 : Nat) : Int) then
        (f171 k (List.getD xs4 (Int.toNat a8) (⟨(0 : Int), (0 : Int), (0 : Int), false⟩ : S146)).f0 (List.getD xs4 (Int.toNat a8) (⟨(0 : Int), (0 : Int), (0 : Int), false⟩ : S146)).f1 (List.getD xs4 (Int.toNat a8) (⟨(0 : Int), (0 : Int), (0 : Int), false⟩ : S146)).f2 (List.getD xs4 (Int.toNat a8) (⟨(0 : Int), (0 : Int), (0 : Int), false⟩ : S146)).f3 a5 a6).bind fun t9 => if t9 = true then
            ret (.inl a8)
          else
            rec_ xs4 a5 a6 a7 (IntKind.i64.wrap (a8 + (1 : Int)))
      else none
    else none
  else
    ret (.inr ())
def f170.l2 (k : Nat) : Nat → (List S146) → Int → Int → Int → Int → Option (Int ⊕ (Unit))
  | 0, _, _, _, _, _ => none
  | j + 1, xs4, a5, a6, a7, a8 => f170.l2.step k (fun xs4 a5 a6 a7 a8 => f170.l2 k j xs4 a5 a6 a7 a8) some xs4 a5 a6 a7 a8
def f170.l2.w {R : Type} : (Int ⊕ (Unit)) → (Exit → St env → Option R) → Option R := fun x K => Sum.elim (fun t12 => K .ret ⟨fullT [4] 0 19 [.v (.c (.s (.int .i64 t12)))], [], 274⟩) (fun t13 => K (.exit 0) ⟨fullT [] 0 19 [], [], 274⟩) x
def f170.l2.st (xs4 : List S146) (a5 : Int) (a6 : Int) (a7 : Int) (a8 : Int) : St env := ⟨fullT [0, 1, 7, 8] 0 19 [.v (.c (.imm 146 xs4)), .v (.c (.fnp 171 [⟨3, a5⟩, ⟨3, a6⟩])), .v (.c (.s (.int .i64 a7))), .v (.c (.s (.int .i64 a8)))], [], 66⟩
def f170.l2.hd (k : Nat) (ts_ : List (AV env)) (mm_ : Mem env) (n_ : Nat) : LCl env :=
  gTs LCl.no [0, 1, 7, 8] 19 ts_ fun l_ => gV LCl.no l_ fun a_ l_ => rImm LCl.no 146 a_ fun xs4 => gV LCl.no l_ fun a_ l_ => rFnp LCl.no 171 a_ fun sg_ => sigL LCl.no 3 sg_ fun a5 sg_ => sigL LCl.no 3 sg_ fun a6 sg_ => gE LCl.no sg_ <| gV LCl.no l_ fun a_ l_ => rV LCl.no a_ fun v_ => vI LCl.no .i64 v_ fun a7 => gV LCl.no l_ fun a_ l_ => rV LCl.no a_ fun v_ => vI LCl.no .i64 v_ fun a8 => gE LCl.no l_ <| gE LCl.no mm_ <| gN LCl.no 66 n_ { α := Int ⊕ (Unit), o := f170.l2 k k xs4 a5 a6 a7 a8, w := f170.l2.w }
def f170.step {R : Type} (k : Nat) (ret : Int → Option R) (xs1 : List S146) (a2 : Int) (a3 : Int) : Option R :=
  (f170.l2 k k xs1 a2 a3 (((List.length xs1) : Nat) : Int) (0 : Int)).bind (Sum.elim (fun t10 => ret t10) (fun t11 => ret (-1 : Int)))
def f170 (k : Nat) (xs1 : List S146) (a2 : Int) (a3 : Int) : Option Int := f170.step k some xs1 a2 a3
def f170.w {R : Type} : Int → (Res env → Option R) → Option R := fun t14 K => K ⟨.v (.c (.s (.int .i64 t14))), [[], []]⟩
theorem f170.wn (x : Int) : ∃ res, ∀ {R : Type} (K : Res env → Option R), f170.w x K = K res := by
  exact ⟨_, fun _ => rfl⟩
def f170.hd (k : Nat) (ps_ : List (P2 env)) : Cl env :=
  gC Cl.no ps_ fun p_ ps_ => qC Cl.no p_ fun c_ => qSl Cl.no 146 c_ fun xs1 => gC Cl.no ps_ fun p_ ps_ => qFn Cl.no 171 p_ fun sg_ => sigL Cl.no 3 sg_ fun a2 sg_ => sigL Cl.no 3 sg_ fun a3 sg_ => gE Cl.no sg_ <| gE Cl.no ps_ <| { α := Int, o := f170 k xs1 a2 a3, w := f170.w, nat := fun x _ => f170.wn x }
def f170.e (k : Nat) : Entry env := ⟨fun ps => f170.hd k (coer [[.rd 146], []] ps), [], []⟩
def f170.X (k : Nat) : Ctx env := { C := lookE [(171, f171.e k)], L := lookE [(2, fun S => f170.l2.hd k S.ts S.m S.n)], J := lookE [], keep := lookD [(2, [0, 1, 7, 8])], keepX := lookD [(2, [4])], span := lookN [(2, 208)], eff := fun n => memN n [], prep := lookP [], np := 0 }
theorem f170.l2.nat {R : Type} (k : Nat) (rec_ : (List S146) → Int → Int → Int → Int → Option (Int ⊕ (Unit))) (g : (Int ⊕ (Unit)) → Option R) (xs4 : List S146) (a5 : Int) (a6 : Int) (a7 : Int) (a8 : Int) : (f170.l2.step k rec_ some xs4 a5 a6 a7 a8).bind g = f170.l2.step k (fun xs4 a5 a6 a7 a8 => (rec_ xs4 a5 a6 a7 a8).bind g) g xs4 a5 a6 a7 a8 := by
  simp only [f170.l2.step, bind_ite, bind_sum, Option.bind_assoc, Option.bind_some, Option.bind_none]
theorem f170.l2.good (k : Nat) (xs4 : List S146) (a5 : Int) (a6 : Int) (a7 : Int) (a8 : Int) : GoodL (f170.X k) (nthC 0 (loopsOf (bodyOf Try.f170))) (f170.l2.st xs4 a5 a6 a7 a8) { α := (Int ⊕ (Unit)), o := f170.l2 k k xs4 a5 a6 a7 a8, w := f170.l2.w } :=
  loop_good (ι := (List S146) × Int × Int × Int × Int) (α := (Int ⊕ (Unit))) (fun i => f170.l2.st i.1 i.2.1 i.2.2.1 i.2.2.2.1 i.2.2.2.2) (fun j i => f170.l2 k j i.1 i.2.1 i.2.2.1 i.2.2.2.1 i.2.2.2.2) f170.l2.w (fun rec_ ret i => f170.l2.step k (fun xs4 a5 a6 a7 a8 => rec_ (xs4, a5, a6, a7, a8)) ret i.1 i.2.1 i.2.2.1 i.2.2.2.1 i.2.2.2.2)
    (fun _ => rfl) (fun _ _ => rfl) (fun rec_ g i => f170.l2.nat k _ g i.1 i.2.1 i.2.2.1 i.2.2.2.1 i.2.2.2.2) (fun {R} i0 i rec_ K => by kernel_rfl) k (xs4, a5, a6, a7, a8)
theorem f170.l2.all (k : Nat) (S : St env) : GoodL (f170.X k) (nthC 0 (loopsOf (bodyOf Try.f170))) S (f170.l2.hd k S.ts S.m S.n) := by
  obtain ⟨ts_, m_, n_⟩ := S
  show GoodL _ _ _ (f170.l2.hd k ts_ m_ n_)
  unfold f170.l2.hd
  refine gTs_ok (p := GoodL _ _ _) goodL_no fun _ h => ?_
  subst h
  refine gV_ok (p := GoodL _ _ _) goodL_no fun _ _ h => ?_
  subst h
  refine rImm_ok (p := GoodL _ _ _) goodL_no fun _ h => ?_
  subst h
  refine gV_ok (p := GoodL _ _ _) goodL_no fun _ _ h => ?_
  subst h
  refine rFnp_ok (p := GoodL _ _ _) goodL_no fun _ h => ?_
  subst h
  refine sigL_ok (p := GoodL _ _ _) goodL_no fun _ _ h => ?_
  subst h
  refine sigL_ok (p := GoodL _ _ _) goodL_no fun _ _ h => ?_
  subst h
  refine gE_ok (p := GoodL _ _ _) goodL_no fun h => ?_
  subst h
  refine gV_ok (p := GoodL _ _ _) goodL_no fun _ _ h => ?_
  subst h
  refine rV_ok (p := GoodL _ _ _) goodL_no fun _ h => ?_
  subst h
  refine vI_ok (p := GoodL _ _ _) goodL_no fun _ h => ?_
  subst h
  refine gV_ok (p := GoodL _ _ _) goodL_no fun _ _ h => ?_
  subst h
  refine rV_ok (p := GoodL _ _ _) goodL_no fun _ h => ?_
  subst h
  refine vI_ok (p := GoodL _ _ _) goodL_no fun _ h => ?_
  subst h
  refine gE_ok (p := GoodL _ _ _) goodL_no fun h => ?_
  subst h
  refine gE_ok (p := GoodL _ _ _) goodL_no fun h => ?_
  subst h
  refine gN_ok (p := GoodL _ _ _) goodL_no fun h => ?_
  subst h
  exact f170.l2.good k _ _ _ _ _
theorem f170.nat {R : Type} (k : Nat) (g : Int → Option R) (xs1 : List S146) (a2 : Int) (a3 : Int) : f170.step k g xs1 a2 a3 = (f170 k xs1 a2 a3).bind g := by
  simp only [f170, f170.step, bind_ite, bind_sum, Option.bind_assoc, Option.bind_some, Option.bind_none]
theorem f170.ev (k : Nat) (xs1 : List S146) (a2 : Int) (a3 : Int) : evF (f170.X k) (bodyOf Try.f170) Try.f170.ntmps Try.f170.results.toList [.v (.c (.sl 146 xs1)), .v (.fn 171 [⟨3, a2⟩, ⟨3, a3⟩])] = f170.step k (fun x => f170.w x some) xs1 a2 a3 := by kernel_rfl
theorem f170.hok (k : Nat) : HOK (f170.X k) (bodyOf Try.f170) where
  l := allP_mem (by exact ⟨ls_of (h0 := fun S => f170.l2.hd k S.ts S.m S.n) (by kernel_rfl) (f170.l2.all k), trivial⟩)
  j := allP_mem (by exact trivial)
theorem f170.sound0 (k : Nat) : SoundC env Try.prog 170 (f170.hd k) := by
  intro ps_
  show GoodC _ _ _ ps_ (f170.hd k ps_)
  unfold f170.hd
  refine gC_ok (p := GoodC env Try.prog 170 _) goodC_no fun _ _ h => ?_
  subst h
  refine qC_ok (p := GoodC env Try.prog 170 _) goodC_no fun _ h => ?_
  subst h
  refine qSl_ok (p := GoodC env Try.prog 170 _) goodC_no fun _ h => ?_
  subst h
  refine gC_ok (p := GoodC env Try.prog 170 _) goodC_no fun _ _ h => ?_
  subst h
  refine qFn_ok (p := GoodC env Try.prog 170 _) goodC_no fun _ h => ?_
  subst h
  refine sigL_ok (p := GoodC env Try.prog 170 _) goodC_no fun _ _ h => ?_
  subst h
  refine sigL_ok (p := GoodC env Try.prog 170 _) goodC_no fun _ _ h => ?_
  subst h
  refine gE_ok (p := GoodC env Try.prog 170 _) goodC_no fun h => ?_
  subst h
  refine gE_ok (p := GoodC env Try.prog 170 _) goodC_no fun h => ?_
  subst h
  exact fun_good (fun_sound envOK (cs_sound _ (by exact ⟨⟨f171.sound k, f171.fnok⟩, trivial⟩)) (f170.hok k) Try.func170 rfl) ((f170.ev k _ _ _).trans (f170.nat k _ _ _ _))
theorem f170.sound (k : Nat) : SoundC env Try.prog 170 (f170.e k).F := soundC_coer (f170.sound0 k) [[.rd 146], []]
theorem f170.says (k : Nat) (xs1 : List S146) (a2 : Int) (a3 : Int) (t15 : Int) (h_ : f170 k xs1 a2 a3 = some t15) : SoundAt env Try.prog 170 [.v (.c (.sl 146 xs1)), .v (.fn 171 [⟨3, a2⟩, ⟨3, a3⟩])] ⟨.v (.c (.s (.int .i64 t15))), [[], []]⟩ :=
  fun_sound envOK (cs_sound _ (by exact ⟨⟨f171.sound k, f171.fnok⟩, trivial⟩)) (f170.hok k) Try.func170 rfl _ _ (((f170.ev k xs1 a2 a3).trans (f170.nat k _ xs1 a2 a3)).trans (by rw [h_]; rfl))
theorem f170.fnok : FnOK Try.prog 170 := fn_ok Try.func170 (by kernel_rfl) rfl
def f129.step {R : Type} (k : Nat) (ret : (Int × (List S146) × (List (List S142)) × Int) → Option R) (xs1 : List S146) (xs2 : List (List S142)) (a3 : Int) (a4 : Int) (a5 : Int) : Option R :=
  (f170 k xs1 a4 a5).bind fun t6 => ret (t6, xs1, xs2, a3)
def f129 (k : Nat) (xs1 : List S146) (xs2 : List (List S142)) (a3 : Int) (a4 : Int) (a5 : Int) : Option (Int × (List S146) × (List (List S142)) × Int) := f129.step k some xs1 xs2 a3 a4 a5
def f129.w {R : Type} : (Int × (List S146) × (List (List S142)) × Int) → (Res env → Option R) → Option R := fun t7 K => K ⟨.v (.c (.s (.int .i64 t7.1))), [[.sl 146 t7.2.1, .sl 140 t7.2.2.1, .s (.int .i64 t7.2.2.2)], [], []]⟩
theorem f129.wn (x : (Int × (List S146) × (List (List S142)) × Int)) : ∃ res, ∀ {R : Type} (K : Res env → Option R), f129.w x K = K res := by
  exact ⟨_, fun _ => rfl⟩
def f129.hd (k : Nat) (ps_ : List (P2 env)) : Cl env :=
  gC Cl.no ps_ fun p_ ps_ => qP Cl.no p_ fun cs_ => gC Cl.no cs_ fun c_ cs_ => qSl Cl.no 146 c_ fun xs1 => gC Cl.no cs_ fun c_ cs_ => qSl Cl.no 140 c_ fun xs2 => gC Cl.no cs_ fun c_ cs_ => qS Cl.no c_ fun v_ => vI Cl.no .i64 v_ fun a3 => gE Cl.no cs_ <| gC Cl.no ps_ fun p_ ps_ => qC Cl.no p_ fun c_ => qS Cl.no c_ fun v_ => vI Cl.no .i64 v_ fun a4 => gC Cl.no ps_ fun p_ ps_ => qC Cl.no p_ fun c_ => qS Cl.no c_ fun v_ => vI Cl.no .i64 v_ fun a5 => gE Cl.no ps_ <| { α := Int × (List S146) × (List (List S142)) × Int, o := f129 k xs1 xs2 a3 a4 a5, w := f129.w, nat := fun x _ => f129.wn x }
def f129.e (k : Nat) : Entry env := ⟨fun ps => f129.hd k (coer [[.rd 146, .rd 140, .no], [.no], [.no]] ps), [], []⟩
def f129.X (k : Nat) : Ctx env := { C := lookE [(170, f170.e k), (171, f171.e k)], L := lookE [], J := lookE [], keep := lookD [], keepX := lookD [], span := lookN [], eff := fun n => memN n [], prep := lookP [], np := 0 }
theorem f129.nat {R : Type} (k : Nat) (g : (Int × (List S146) × (List (List S142)) × Int) → Option R) (xs1 : List S146) (xs2 : List (List S142)) (a3 : Int) (a4 : Int) (a5 : Int) : f129.step k g xs1 xs2 a3 a4 a5 = (f129 k xs1 xs2 a3 a4 a5).bind g := by
  simp only [f129, f129.step, bind_ite, bind_sum, Option.bind_assoc, Option.bind_some, Option.bind_none]
theorem f129.ev (k : Nat) (xs1 : List S146) (xs2 : List (List S142)) (a3 : Int) (a4 : Int) (a5 : Int) : evF (f129.X k) (bodyOf Try.f129) Try.f129.ntmps Try.f129.results.toList [.v (.ptr [.sl 146 xs1, .sl 140 xs2, .s (.int .i64 a3)]), .v (.c (.s (.int .i64 a4))), .v (.c (.s (.int .i64 a5)))] = f129.step k (fun x => f129.w x some) xs1 xs2 a3 a4 a5 := by kernel_rfl
theorem f129.hok (k : Nat) : HOK (f129.X k) (bodyOf Try.f129) where
  l := allP_mem (by exact trivial)
  j := allP_mem (by exact trivial)
theorem f129.sound0 (k : Nat) : SoundC env Try.prog 129 (f129.hd k) := by
  intro ps_
  show GoodC _ _ _ ps_ (f129.hd k ps_)
  unfold f129.hd
  refine gC_ok (p := GoodC env Try.prog 129 _) goodC_no fun _ _ h => ?_
  subst h
  refine qP_ok (p := GoodC env Try.prog 129 _) goodC_no fun _ h => ?_
  subst h
  refine gC_ok (p := GoodC env Try.prog 129 _) goodC_no fun _ _ h => ?_
  subst h
  refine qSl_ok (p := GoodC env Try.prog 129 _) goodC_no fun _ h => ?_
  subst h
  refine gC_ok (p := GoodC env Try.prog 129 _) goodC_no fun _ _ h => ?_
  subst h
  refine qSl_ok (p := GoodC env Try.prog 129 _) goodC_no fun _ h => ?_
  subst h
  refine gC_ok (p := GoodC env Try.prog 129 _) goodC_no fun _ _ h => ?_
  subst h
  refine qS_ok (p := GoodC env Try.prog 129 _) goodC_no fun _ h => ?_
  subst h
  refine vI_ok (p := GoodC env Try.prog 129 _) goodC_no fun _ h => ?_
  subst h
  refine gE_ok (p := GoodC env Try.prog 129 _) goodC_no fun h => ?_
  subst h
  refine gC_ok (p := GoodC env Try.prog 129 _) goodC_no fun _ _ h => ?_
  subst h
  refine qC_ok (p := GoodC env Try.prog 129 _) goodC_no fun _ h => ?_
  subst h
  refine qS_ok (p := GoodC env Try.prog 129 _) goodC_no fun _ h => ?_
  subst h
  refine vI_ok (p := GoodC env Try.prog 129 _) goodC_no fun _ h => ?_
  subst h
  refine gC_ok (p := GoodC env Try.prog 129 _) goodC_no fun _ _ h => ?_
  subst h
  refine qC_ok (p := GoodC env Try.prog 129 _) goodC_no fun _ h => ?_
  subst h
  refine qS_ok (p := GoodC env Try.prog 129 _) goodC_no fun _ h => ?_
  subst h
  refine vI_ok (p := GoodC env Try.prog 129 _) goodC_no fun _ h => ?_
  subst h
  refine gE_ok (p := GoodC env Try.prog 129 _) goodC_no fun h => ?_
  subst h
  exact fun_good (fun_sound envOK (cs_sound _ (by exact ⟨⟨f170.sound k, f170.fnok⟩, ⟨f171.sound k, f171.fnok⟩, trivial⟩)) (f129.hok k) Try.func129 rfl) ((f129.ev k _ _ _ _ _).trans (f129.nat k _ _ _ _ _ _))
theorem f129.sound (k : Nat) : SoundC env Try.prog 129 (f129.e k).F := soundC_coer (f129.sound0 k) [[.rd 146, .rd 140, .no], [.no], [.no]]
theorem f129.says (k : Nat) (xs1 : List S146) (xs2 : List (List S142)) (a3 : Int) (a4 : Int) (a5 : Int) (t8 : Int × (List S146) × (List (List S142)) × Int) (h_ : f129 k xs1 xs2 a3 a4 a5 = some t8) : SoundAt env Try.prog 129 [.v (.ptr [.sl 146 xs1, .sl 140 xs2, .s (.int .i64 a3)]), .v (.c (.s (.int .i64 a4))), .v (.c (.s (.int .i64 a5)))] ⟨.v (.c (.s (.int .i64 t8.1))), [[.sl 146 t8.2.1, .sl 140 t8.2.2.1, .s (.int .i64 t8.2.2.2)], [], []]⟩ :=
  fun_sound envOK (cs_sound _ (by exact ⟨⟨f170.sound k, f170.fnok⟩, ⟨f171.sound k, f171.fnok⟩, trivial⟩)) (f129.hok k) Try.func129 rfl _ _ (((f129.ev k xs1 xs2 a3 a4 a5).trans (f129.nat k _ xs1 xs2 a3 a4 a5)).trans (by rw [h_]; rfl))
theorem f129.fnok : FnOK Try.prog 129 := fn_ok Try.func129 (by kernel_rfl) rfl
def f110.step {R : Type} (k : Nat) (ret : (Bool × (List S146) × (List (List S142)) × Int) → Option R) (xs1 : List S146) (xs2 : List (List S142)) (a3 : Int) (a4 : Int) (a5 : Int) : Option R :=
  if (0 : Int) ≤ a4 then
    if a4 < ((List.length xs2 : Nat) : Int) then
      if (0 : Int) ≤ a5 then
        if a5 < ((List.length (List.getD xs2 (Int.toNat a4) []) : Nat) : Int) then
          if (decide (a5 = a4)) = true then
            ret ((decide ((List.getD (List.getD xs2 (Int.toNat a4) []) (Int.toNat a5) (⟨(0 : Int), (0 : Int), (0 : Int)⟩ : S142)).f0 = (0 : Int)) && (decide ((List.getD (List.getD xs2 (Int.toNat a4) []) (Int.toNat a5) (⟨(0 : Int), (0 : Int), (0 : Int)⟩ : S142)).f1 = a4) && (decide ((List.getD (List.getD xs2 (Int.toNat a4) []) (Int.toNat a5) (⟨(0 : Int), (0 : Int), (0 : Int)⟩ : S142)).f2 = (0 : Int)) && true))), xs1, xs2, a3)
          else
            (f83 k (List.getD (List.getD xs2 (Int.toNat a4) []) (Int.toNat a5) (⟨(0 : Int), (0 : Int), (0 : Int)⟩ : S142)).f0 (1 : Int) (16 : Int)).bind fun t6 => if (!t6) = false then
                (f83 k (List.getD (List.getD xs2 (Int.toNat a4) []) (Int.toNat a5) (⟨(0 : Int), (0 : Int), (0 : Int)⟩ : S142)).f2 (0 : Int) (6 : Int)).bind fun t7 => if (!t7) = true then
                    ret (false, xs1, xs2, a3)
                  else
                    if (decide ((List.getD (List.getD xs2 (Int.toNat a4) []) (Int.toNat a5) (⟨(0 : Int), (0 : Int), (0 : Int)⟩ : S142)).f1 = (-1 : Int))) = true then
                      if (decide ((List.getD (List.getD xs2 (Int.toNat a4) []) (Int.toNat a5) (⟨(0 : Int), (0 : Int), (0 : Int)⟩ : S142)).f0 = (16 : Int))) = true then
                        ret ((decide ((List.getD (List.getD xs2 (Int.toNat a4) []) (Int.toNat a5) (⟨(0 : Int), (0 : Int), (0 : Int)⟩ : S142)).f2 = (0 : Int))), xs1, xs2, a3)
                      else
                        ret (false, xs1, xs2, a3)
                    else
                      (f129 k xs1 xs2 a3 a4 (List.getD (List.getD xs2 (Int.toNat a4) []) (Int.toNat a5) (⟨(0 : Int), (0 : Int), (0 : Int)⟩ : S142)).f1).bind fun t8 => if (decide (t8.1 ≥ (0 : Int))) = true then
                          if (decide ((List.getD (List.getD xs2 (Int.toNat a4) []) (Int.toNat a5) (⟨(0 : Int), (0 : Int), (0 : Int)⟩ : S142)).f0 = (16 : Int))) = false then
                            if (0 : Int) ≤ t8.1 then
                              if t8.1 < ((List.length t8.2.1 : Nat) : Int) then
                                ret ((List.getD t8.2.1 (Int.toNat t8.1) (⟨(0 : Int), (0 : Int), (0 : Int), false⟩ : S146)).f3, t8.2.1, t8.2.2.1, t8.2.2.2)
                              else none
                            else none
                          else
                            ret (true, t8.2.1, t8.2.2.1, t8.2.2.2)
                        else
                          ret (false, t8.2.1, t8.2.2.1, t8.2.2.2)
              else
                ret (false, xs1, xs2, a3)
        else none
      else none
    else none
  else none
def f110 (k : Nat) (xs1 : List S146) (xs2 : List (List S142)) (a3 : Int) (a4 : Int) (a5 : Int) : Option (Bool × (List S146) × (List (List S142)) × Int) := f110.step k some xs1 xs2 a3 a4 a5
def f110.w {R : Type} : (Bool × (List S146) × (List (List S142)) × Int) → (Res env → Option R) → Option R := fun t9 K => K ⟨.v (.c (.s (.bool t9.1))), [[.sl 146 t9.2.1, .sl 140 t9.2.2.1, .s (.int .i64 t9.2.2.2)], [], []]⟩
theorem f110.wn (x : (Bool × (List S146) × (List (List S142)) × Int)) : ∃ res, ∀ {R : Type} (K : Res env → Option R), f110.w x K = K res := by
  exact ⟨_, fun _ => rfl⟩
def f110.hd (k : Nat) (ps_ : List (P2 env)) : Cl env :=
  gC Cl.no ps_ fun p_ ps_ => qP Cl.no p_ fun cs_ => gC Cl.no cs_ fun c_ cs_ => qSl Cl.no 146 c_ fun xs1 => gC Cl.no cs_ fun c_ cs_ => qSl Cl.no 140 c_ fun xs2 => gC Cl.no cs_ fun c_ cs_ => qS Cl.no c_ fun v_ => vI Cl.no .i64 v_ fun a3 => gE Cl.no cs_ <| gC Cl.no ps_ fun p_ ps_ => qC Cl.no p_ fun c_ => qS Cl.no c_ fun v_ => vI Cl.no .i64 v_ fun a4 => gC Cl.no ps_ fun p_ ps_ => qC Cl.no p_ fun c_ => qS Cl.no c_ fun v_ => vI Cl.no .i64 v_ fun a5 => gE Cl.no ps_ <| { α := Bool × (List S146) × (List (List S142)) × Int, o := f110 k xs1 xs2 a3 a4 a5, w := f110.w, nat := fun x _ => f110.wn x }
def f110.e (k : Nat) : Entry env := ⟨fun ps => f110.hd k (coer [[.rd 146, .rd 140, .no], [.no], [.no]] ps), [], []⟩
def f110.X (k : Nat) : Ctx env := { C := lookE [(83, f83.e k), (129, f129.e k)], L := lookE [], J := lookE [], keep := lookD [], keepX := lookD [], span := lookN [], eff := fun n => memN n [], prep := lookP [], np := 0 }
theorem f110.nat {R : Type} (k : Nat) (g : (Bool × (List S146) × (List (List S142)) × Int) → Option R) (xs1 : List S146) (xs2 : List (List S142)) (a3 : Int) (a4 : Int) (a5 : Int) : f110.step k g xs1 xs2 a3 a4 a5 = (f110 k xs1 xs2 a3 a4 a5).bind g := by
  simp only [f110, f110.step, bind_ite, bind_sum, Option.bind_assoc, Option.bind_some, Option.bind_none]
theorem f110.ev (k : Nat) (xs1 : List S146) (xs2 : List (List S142)) (a3 : Int) (a4 : Int) (a5 : Int) : evF (f110.X k) (bodyOf Try.f110) Try.f110.ntmps Try.f110.results.toList [.v (.ptr [.sl 146 xs1, .sl 140 xs2, .s (.int .i64 a3)]), .v (.c (.s (.int .i64 a4))), .v (.c (.s (.int .i64 a5)))] = f110.step k (fun x => f110.w x some) xs1 xs2 a3 a4 a5 := by kernel_rfl
theorem f110.hok (k : Nat) : HOK (f110.X k) (bodyOf Try.f110) where
  l := allP_mem (by exact trivial)
  j := allP_mem (by exact trivial)
theorem f110.sound0 (k : Nat) : SoundC env Try.prog 110 (f110.hd k) := by
  intro ps_
  show GoodC _ _ _ ps_ (f110.hd k ps_)
  unfold f110.hd
  refine gC_ok (p := GoodC env Try.prog 110 _) goodC_no fun _ _ h => ?_
  subst h
  refine qP_ok (p := GoodC env Try.prog 110 _) goodC_no fun _ h => ?_
  subst h
  refine gC_ok (p := GoodC env Try.prog 110 _) goodC_no fun _ _ h => ?_
  subst h
  refine qSl_ok (p := GoodC env Try.prog 110 _) goodC_no fun _ h => ?_
  subst h
  refine gC_ok (p := GoodC env Try.prog 110 _) goodC_no fun _ _ h => ?_
  subst h
  refine qSl_ok (p := GoodC env Try.prog 110 _) goodC_no fun _ h => ?_
  subst h
  refine gC_ok (p := GoodC env Try.prog 110 _) goodC_no fun _ _ h => ?_
  subst h
  refine qS_ok (p := GoodC env Try.prog 110 _) goodC_no fun _ h => ?_
  subst h
  refine vI_ok (p := GoodC env Try.prog 110 _) goodC_no fun _ h => ?_
  subst h
  refine gE_ok (p := GoodC env Try.prog 110 _) goodC_no fun h => ?_
  subst h
  refine gC_ok (p := GoodC env Try.prog 110 _) goodC_no fun _ _ h => ?_
  subst h
  refine qC_ok (p := GoodC env Try.prog 110 _) goodC_no fun _ h => ?_
  subst h
  refine qS_ok (p := GoodC env Try.prog 110 _) goodC_no fun _ h => ?_
  subst h
  refine vI_ok (p := GoodC env Try.prog 110 _) goodC_no fun _ h => ?_
  subst h
  refine gC_ok (p := GoodC env Try.prog 110 _) goodC_no fun _ _ h => ?_
  subst h
  refine qC_ok (p := GoodC env Try.prog 110 _) goodC_no fun _ h => ?_
  subst h
  refine qS_ok (p := GoodC env Try.prog 110 _) goodC_no fun _ h => ?_
  subst h
  refine vI_ok (p := GoodC env Try.prog 110 _) goodC_no fun _ h => ?_
  subst h
  refine gE_ok (p := GoodC env Try.prog 110 _) goodC_no fun h => ?_
  subst h
  exact fun_good (fun_sound envOK (cs_sound _ (by exact ⟨⟨f83.sound k, f83.fnok⟩, ⟨f129.sound k, f129.fnok⟩, trivial⟩)) (f110.hok k) Try.func110 rfl) ((f110.ev k _ _ _ _ _).trans (f110.nat k _ _ _ _ _ _))
theorem f110.sound (k : Nat) : SoundC env Try.prog 110 (f110.e k).F := soundC_coer (f110.sound0 k) [[.rd 146, .rd 140, .no], [.no], [.no]]
theorem f110.says (k : Nat) (xs1 : List S146) (xs2 : List (List S142)) (a3 : Int) (a4 : Int) (a5 : Int) (t10 : Bool × (List S146) × (List (List S142)) × Int) (h_ : f110 k xs1 xs2 a3 a4 a5 = some t10) : SoundAt env Try.prog 110 [.v (.ptr [.sl 146 xs1, .sl 140 xs2, .s (.int .i64 a3)]), .v (.c (.s (.int .i64 a4))), .v (.c (.s (.int .i64 a5)))] ⟨.v (.c (.s (.bool t10.1))), [[.sl 146 t10.2.1, .sl 140 t10.2.2.1, .s (.int .i64 t10.2.2.2)], [], []]⟩ :=
  fun_sound envOK (cs_sound _ (by exact ⟨⟨f83.sound k, f83.fnok⟩, ⟨f129.sound k, f129.fnok⟩, trivial⟩)) (f110.hok k) Try.func110 rfl _ _ (((f110.ev k xs1 xs2 a3 a4 a5).trans (f110.nat k _ xs1 xs2 a3 a4 a5)).trans (by rw [h_]; rfl))
theorem f110.fnok : FnOK Try.prog 110 := fn_ok Try.func110 (by kernel_rfl) rfl
def f44.l4.step {R : Type} (k : Nat) (rec_ : (List (List S142)) → Int → Int → (List S146) → (List (List S142)) → Int → Option R) (ret : ((Bool × (List S146) × (List (List S142)) × Int) ⊕ ((List S146) × (List (List S142)) × Int)) → Option R) (xs5 : List (List S142)) (a6 : Int) (a7 : Int) (xs8 : List S146) (xs9 : List (List S142)) (a10 : Int) : Option R :=
  if (decide (a7 < a6)) = true then
    if (0 : Int) ≤ a7 then
      if a7 < ((List.length xs5 : Nat) : Int) then
        if (decide ((((List.length (List.getD xs5 (Int.toNat a7) [])) : Nat) : Int) ≠ a10)) = true then
          ret (.inl (false, xs8, xs9, a10))
        else
          rec_ xs5 a6 (IntKind.i64.wrap (a7 + (1 : Int))) xs8 xs9 a10
      else none
    else none
  else
    ret (.inr (xs8, xs9, a10))
def f44.l4 (k : Nat) : Nat → (List (List S142)) → Int → Int → (List S146) → (List (List S142)) → Int → Option ((Bool × (List S146) × (List (List S142)) × Int) ⊕ ((List S146) × (List (List S142)) × Int))
  | 0, _, _, _, _, _, _ => none
  | j + 1, xs5, a6, a7, xs8, xs9, a10 => f44.l4.step k (fun xs5 a6 a7 xs8 xs9 a10 => f44.l4 k j xs5 a6 a7 xs8 xs9 a10) some xs5 a6 a7 xs8 xs9 a10
def f44.l4.w {R : Type} : ((Bool × (List S146) × (List (List S142)) × Int) ⊕ ((List S146) × (List (List S142)) × Int)) → (Exit → St env → Option R) → Option R := fun x K => Sum.elim (fun t31 => K .ret ⟨fullT [1, 2] 0 55 [.v (.c (.bp 1 0)), .v (.c (.s (.bool t31.1)))], [(1, .box [.imm 146 t31.2.1, .imm 140 t31.2.2.1, .s (.int .i64 t31.2.2.2)])], 513⟩) (fun t32 => K (.exit 0) ⟨fullT [1] 0 55 [.v (.c (.bp 1 0))], [(1, .box [.imm 146 t32.1, .imm 140 t32.2.1, .s (.int .i64 t32.2.2)])], 513⟩) x
def f44.l4.st (xs5 : List (List S142)) (a6 : Int) (a7 : Int) (xs8 : List S146) (xs9 : List (List S142)) (a10 : Int) : St env := ⟨fullT [1, 22, 23, 24] 0 55 [.v (.c (.bp 1 0)), .v (.c (.imm 140 xs5)), .v (.c (.s (.int .i64 a6))), .v (.c (.s (.int .i64 a7)))], [(1, .box [.imm 146 xs8, .imm 140 xs9, .s (.int .i64 a10)])], 321⟩
def f44.l13.step {R : Type} (k : Nat) (rec_ : Int → Int → Int → Int → Int → (List S146) → (List (List S142)) → Int → Option R) (ret : ((Bool × Int × Int × (List S146) × (List (List S142)) × Int) ⊕ (Int × Int × (List S146) × (List (List S142)) × Int)) → Option R) (a18 : Int) (a19 : Int) (a20 : Int) (a21 : Int) (a22 : Int) (xs23 : List S146) (xs24 : List (List S142)) (a25 : Int) : Option R :=
  if (decide (a22 < a21)) = true then
    (f110 k xs23 xs24 a25 a18 a22).bind fun t26 => if (!t26.1) = true then
        ret (.inl (false, a19, a20, t26.2.1, t26.2.2.1, t26.2.2.2))
      else
        rec_ a18 a19 a20 a21 (IntKind.i64.wrap (a22 + (1 : Int))) t26.2.1 t26.2.2.1 t26.2.2.2
  else
    ret (.inr (a19, a20, xs23, xs24, a25))
def f44.l13 (k : Nat) : Nat → Int → Int → Int → Int → Int → (List S146) → (List (List S142)) → Int → Option ((Bool × Int × Int × (List S146) × (List (List S142)) × Int) ⊕ (Int × Int × (List S146) × (List (List S142)) × Int))
  | 0, _, _, _, _, _, _, _, _ => none
  | j + 1, a18, a19, a20, a21, a22, xs23, xs24, a25 => f44.l13.step k (fun a18 a19 a20 a21 a22 xs23 xs24 a25 => f44.l13 k j a18 a19 a20 a21 a22 xs23 xs24 a25) some a18 a19 a20 a21 a22 xs23 xs24 a25
def f44.l13.w {R : Type} : ((Bool × Int × Int × (List S146) × (List (List S142)) × Int) ⊕ (Int × Int × (List S146) × (List (List S142)) × Int)) → (Exit → St env → Option R) → Option R := fun x K => Sum.elim (fun t33 => K .ret ⟨fullT [1, 2, 36, 37] 0 55 [.v (.c (.bp 1 0)), .v (.c (.s (.bool t33.1))), .v (.c (.s (.int .i64 t33.2.1))), .v (.c (.s (.int .i64 t33.2.2.1)))], [(1, .box [.imm 146 t33.2.2.2.1, .imm 140 t33.2.2.2.2.1, .s (.int .i64 t33.2.2.2.2.2)])], 897⟩) (fun t34 => K (.exit 4) ⟨fullT [1, 36, 37] 0 55 [.v (.c (.bp 1 0)), .v (.c (.s (.int .i64 t34.1))), .v (.c (.s (.int .i64 t34.2.1)))], [(1, .box [.imm 146 t34.2.2.1, .imm 140 t34.2.2.2.1, .s (.int .i64 t34.2.2.2.2)])], 897⟩) x
def f44.l13.st (a18 : Int) (a19 : Int) (a20 : Int) (a21 : Int) (a22 : Int) (xs23 : List S146) (xs24 : List (List S142)) (a25 : Int) : St env := ⟨fullT [1, 5, 36, 37, 45, 46] 0 55 [.v (.c (.bp 1 0)), .v (.c (.s (.int .i64 a18))), .v (.c (.s (.int .i64 a19))), .v (.c (.s (.int .i64 a20))), .v (.c (.s (.int .i64 a21))), .v (.c (.s (.int .i64 a22)))], [(1, .box [.imm 146 xs23, .imm 140 xs24, .s (.int .i64 a25)])], 737⟩
def f44.l10.step {R : Type} (k : Nat) (rec_ : Int → Int → (List S146) → (List (List S142)) → Int → Option R) (ret : (Bool ⊕ (Unit)) → Option R) (a13 : Int) (a14 : Int) (xs15 : List S146) (xs16 : List (List S142)) (a17 : Int) : Option R :=
  if (decide (a14 < a13)) = true then
    if (0 : Int) ≤ a14 then
      if a14 < ((List.length xs16 : Nat) : Int) then
        (f44.l13 k k a14 a13 a14 (((List.length (List.getD xs16 (Int.toNat a14) [])) : Nat) : Int) (0 : Int) xs15 xs16 a17).bind (Sum.elim (fun t27 => ret (.inl t27.1)) (fun t28 => rec_ t28.1 (IntKind.i64.wrap (t28.2.1 + (1 : Int))) t28.2.2.1 t28.2.2.2.1 t28.2.2.2.2))
      else none
    else none
  else
    ret (.inr ())
def f44.l10 (k : Nat) : Nat → Int → Int → (List S146) → (List (List S142)) → Int → Option (Bool ⊕ (Unit))
  | 0, _, _, _, _, _ => none
  | j + 1, a13, a14, xs15, xs16, a17 => f44.l10.step k (fun a13 a14 xs15 xs16 a17 => f44.l10 k j a13 a14 xs15 xs16 a17) some a13 a14 xs15 xs16 a17
def f44.l10.w {R : Type} : (Bool ⊕ (Unit)) → (Exit → St env → Option R) → Option R := fun x K => Sum.elim (fun t35 => K .ret ⟨fullT [2] 0 55 [.v (.c (.s (.bool t35)))], [], 929⟩) (fun t36 => K (.exit 2) ⟨fullT [] 0 55 [], [], 929⟩) x
def f44.l10.st (a13 : Int) (a14 : Int) (xs15 : List S146) (xs16 : List (List S142)) (a17 : Int) : St env := ⟨fullT [1, 36, 37] 0 55 [.v (.c (.bp 1 0)), .v (.c (.s (.int .i64 a13))), .v (.c (.s (.int .i64 a14)))], [(1, .box [.imm 146 xs15, .imm 140 xs16, .s (.int .i64 a17)])], 577⟩
def f44.l4.hd (k : Nat) (ts_ : List (AV env)) (mm_ : Mem env) (n_ : Nat) : LCl env :=
  gTs LCl.no [1, 22, 23, 24] 55 ts_ fun l_ => gV LCl.no l_ fun a_ l_ => rBp LCl.no 1 0 a_ <| gV LCl.no l_ fun a_ l_ => rImm LCl.no 140 a_ fun xs5 => gV LCl.no l_ fun a_ l_ => rV LCl.no a_ fun v_ => vI LCl.no .i64 v_ fun a6 => gV LCl.no l_ fun a_ l_ => rV LCl.no a_ fun v_ => vI LCl.no .i64 v_ fun a7 => gE LCl.no l_ <| mBox LCl.no 1 mm_ fun c_ m_ => gC LCl.no c_ fun a_ c_ => rImm LCl.no 146 a_ fun xs8 => gC LCl.no c_ fun a_ c_ => rImm LCl.no 140 a_ fun xs9 => gC LCl.no c_ fun a_ c_ => rV LCl.no a_ fun v_ => vI LCl.no .i64 v_ fun a10 => gE LCl.no c_ <| gE LCl.no m_ <| gN LCl.no 321 n_ { α := (Bool × (List S146) × (List (List S142)) × Int) ⊕ ((List S146) × (List (List S142)) × Int), o := f44.l4 k k xs5 a6 a7 xs8 xs9 a10, w := f44.l4.w }
def f44.l13.hd (k : Nat) (ts_ : List (AV env)) (mm_ : Mem env) (n_ : Nat) : LCl env :=
  gTs LCl.no [1, 5, 36, 37, 45, 46] 55 ts_ fun l_ => gV LCl.no l_ fun a_ l_ => rBp LCl.no 1 0 a_ <| gV LCl.no l_ fun a_ l_ => rV LCl.no a_ fun v_ => vI LCl.no .i64 v_ fun a18 => gV LCl.no l_ fun a_ l_ => rV LCl.no a_ fun v_ => vI LCl.no .i64 v_ fun a19 => gV LCl.no l_ fun a_ l_ => rV LCl.no a_ fun v_ => vI LCl.no .i64 v_ fun a20 => gV LCl.no l_ fun a_ l_ => rV LCl.no a_ fun v_ => vI LCl.no .i64 v_ fun a21 => gV LCl.no l_ fun a_ l_ => rV LCl.no a_ fun v_ => vI LCl.no .i64 v_ fun a22 => gE LCl.no l_ <| mBox LCl.no 1 mm_ fun c_ m_ => gC LCl.no c_ fun a_ c_ => rImm LCl.no 146 a_ fun xs23 => gC LCl.no c_ fun a_ c_ => rImm LCl.no 140 a_ fun xs24 => gC LCl.no c_ fun a_ c_ => rV LCl.no a_ fun v_ => vI LCl.no .i64 v_ fun a25 => gE LCl.no c_ <| gE LCl.no m_ <| gN LCl.no 737 n_ { α := (Bool × Int × Int × (List S146) × (List (List S142)) × Int) ⊕ (Int × Int × (List S146) × (List (List S142)) × Int), o := f44.l13 k k a18 a19 a20 a21 a22 xs23 xs24 a25, w := f44.l13.w }
def f44.l10.hd (k : Nat) (ts_ : List (AV env)) (mm_ : Mem env) (n_ : Nat) : LCl env :=
  gTs LCl.no [1, 36, 37] 55 ts_ fun l_ => gV LCl.no l_ fun a_ l_ => rBp LCl.no 1 0 a_ <| gV LCl.no l_ fun a_ l_ => rV LCl.no a_ fun v_ => vI LCl.no .i64 v_ fun a13 => gV LCl.no l_ fun a_ l_ => rV LCl.no a_ fun v_ => vI LCl.no .i64 v_ fun a14 => gE LCl.no l_ <| mBox LCl.no 1 mm_ fun c_ m_ => gC LCl.no c_ fun a_ c_ => rImm LCl.no 146 a_ fun xs15 => gC LCl.no c_ fun a_ c_ => rImm LCl.no 140 a_ fun xs16 => gC LCl.no c_ fun a_ c_ => rV LCl.no a_ fun v_ => vI LCl.no .i64 v_ fun a17 => gE LCl.no c_ <| gE LCl.no m_ <| gN LCl.no 577 n_ { α := Bool ⊕ (Unit), o := f44.l10 k k a13 a14 xs15 xs16 a17, w := f44.l10.w }
def f44.step {R : Type} (k : Nat) (ret : Bool → Option R) (xs1 : List S146) (xs2 : List (List S142)) (a3 : Int) : Option R :=
  (f109 k a3 xs1).bind fun t4 => if (!t4) = false then
      if (decide ((((List.length xs2) : Nat) : Int) ≠ a3)) = true then
        ret false
      else
        (f44.l4 k k xs2 (((List.length xs2) : Nat) : Int) (0 : Int) xs1 xs2 a3).bind (Sum.elim (fun t11 => ret t11.1) (fun t12 => (f44.l10 k k (((List.length t12.2.1) : Nat) : Int) (0 : Int) t12.1 t12.2.1 t12.2.2).bind (Sum.elim (fun t29 => ret t29) (fun t30 => ret true))))
    else
      ret false
def f44 (k : Nat) (xs1 : List S146) (xs2 : List (List S142)) (a3 : Int) : Option Bool := f44.step k some xs1 xs2 a3
def f44.w {R : Type} : Bool → (Res env → Option R) → Option R := fun t37 K => K ⟨.v (.c (.s (.bool t37))), [[]]⟩
theorem f44.wn (x : Bool) : ∃ res, ∀ {R : Type} (K : Res env → Option R), f44.w x K = K res := by
  exact ⟨_, fun _ => rfl⟩
def f44.hd (k : Nat) (ps_ : List (P2 env)) : Cl env :=
  gC Cl.no ps_ fun p_ ps_ => qG Cl.no p_ fun cs_ => gC Cl.no cs_ fun c_ cs_ => qSl Cl.no 146 c_ fun xs1 => gC Cl.no cs_ fun c_ cs_ => qSl Cl.no 140 c_ fun xs2 => gC Cl.no cs_ fun c_ cs_ => qS Cl.no c_ fun v_ => vI Cl.no .i64 v_ fun a3 => gE Cl.no cs_ <| gE Cl.no ps_ <| { α := Bool, o := f44 k xs1 xs2 a3, w := f44.w, nat := fun x _ => f44.wn x }
def f44.e (k : Nat) : Entry env := ⟨fun ps => f44.hd k (coer [[.rd 146, .rd 140, .no]] ps), [], []⟩
def f44.X (k : Nat) : Ctx env := { C := lookE [(109, f109.e k), (110, f110.e k)], L := lookE [(4, fun S => f44.l4.hd k S.ts S.m S.n), (13, fun S => f44.l13.hd k S.ts S.m S.n), (10, fun S => f44.l10.hd k S.ts S.m S.n)], J := lookE [], keep := lookD [(4, [1, 22, 23, 24]), (13, [1, 5, 36, 37, 45, 46]), (10, [1, 36, 37])], keepX := lookD [(4, [1, 2]), (13, [1, 2, 36, 37]), (10, [2])], span := lookN [(4, 192), (13, 160), (10, 352)], eff := fun n => memN n [], prep := lookP [], np := 0 }
theorem f44.l4.nat {R : Type} (k : Nat) (rec_ : (List (List S142)) → Int → Int → (List S146) → (List (List S142)) → Int → Option ((Bool × (List S146) × (List (List S142)) × Int) ⊕ ((List S146) × (List (List S142)) × Int))) (g : ((Bool × (List S146) × (List (List S142)) × Int) ⊕ ((List S146) × (List (List S142)) × Int)) → Option R) (xs5 : List (List S142)) (a6 : Int) (a7 : Int) (xs8 : List S146) (xs9 : List (List S142)) (a10 : Int) : (f44.l4.step k rec_ some xs5 a6 a7 xs8 xs9 a10).bind g = f44.l4.step k (fun xs5 a6 a7 xs8 xs9 a10 => (rec_ xs5 a6 a7 xs8 xs9 a10).bind g) g xs5 a6 a7 xs8 xs9 a10 := by
  simp only [f44.l4.step, bind_ite, bind_sum, Option.bind_assoc, Option.bind_some, Option.bind_none]
theorem f44.l4.good (k : Nat) (xs5 : List (List S142)) (a6 : Int) (a7 : Int) (xs8 : List S146) (xs9 : List (List S142)) (a10 : Int) : GoodL (f44.X k) (nthC 0 (loopsOf (bodyOf Try.f44))) (f44.l4.st xs5 a6 a7 xs8 xs9 a10) { α := ((Bool × (List S146) × (List (List S142)) × Int) ⊕ ((List S146) × (List (List S142)) × Int)), o := f44.l4 k k xs5 a6 a7 xs8 xs9 a10, w := f44.l4.w } :=
  loop_good (ι := (List (List S142)) × Int × Int × (List S146) × (List (List S142)) × Int) (α := ((Bool × (List S146) × (List (List S142)) × Int) ⊕ ((List S146) × (List (List S142)) × Int))) (fun i => f44.l4.st i.1 i.2.1 i.2.2.1 i.2.2.2.1 i.2.2.2.2.1 i.2.2.2.2.2) (fun j i => f44.l4 k j i.1 i.2.1 i.2.2.1 i.2.2.2.1 i.2.2.2.2.1 i.2.2.2.2.2) f44.l4.w (fun rec_ ret i => f44.l4.step k (fun xs5 a6 a7 xs8 xs9 a10 => rec_ (xs5, a6, a7, xs8, xs9, a10)) ret i.1 i.2.1 i.2.2.1 i.2.2.2.1 i.2.2.2.2.1 i.2.2.2.2.2)
    (fun _ => rfl) (fun _ _ => rfl) (fun rec_ g i => f44.l4.nat k _ g i.1 i.2.1 i.2.2.1 i.2.2.2.1 i.2.2.2.2.1 i.2.2.2.2.2) (fun {R} i0 i rec_ K => by kernel_rfl) k (xs5, a6, a7, xs8, xs9, a10)
theorem f44.l4.all (k : Nat) (S : St env) : GoodL (f44.X k) (nthC 0 (loopsOf (bodyOf Try.f44))) S (f44.l4.hd k S.ts S.m S.n) := by
  obtain ⟨ts_, m_, n_⟩ := S
  show GoodL _ _ _ (f44.l4.hd k ts_ m_ n_)
  unfold f44.l4.hd
  refine gTs_ok (p := GoodL _ _ _) goodL_no fun _ h => ?_
  subst h
  refine gV_ok (p := GoodL _ _ _) goodL_no fun _ _ h => ?_
  subst h
  refine rBp_ok (p := GoodL _ _ _) goodL_no fun h => ?_
  subst h
  refine gV_ok (p := GoodL _ _ _) goodL_no fun _ _ h => ?_
  subst h
  refine rImm_ok (p := GoodL _ _ _) goodL_no fun _ h => ?_
  subst h
  refine gV_ok (p := GoodL _ _ _) goodL_no fun _ _ h => ?_
  subst h
  refine rV_ok (p := GoodL _ _ _) goodL_no fun _ h => ?_
  subst h
  refine vI_ok (p := GoodL _ _ _) goodL_no fun _ h => ?_
  subst h
  refine gV_ok (p := GoodL _ _ _) goodL_no fun _ _ h => ?_
  subst h
  refine rV_ok (p := GoodL _ _ _) goodL_no fun _ h => ?_
  subst h
  refine vI_ok (p := GoodL _ _ _) goodL_no fun _ h => ?_
  subst h
  refine gE_ok (p := GoodL _ _ _) goodL_no fun h => ?_
  subst h
  refine mBox_ok (p := GoodL _ _ _) goodL_no fun _ _ h => ?_
  subst h
  refine gC_ok (p := GoodL _ _ _) goodL_no fun _ _ h => ?_
  subst h
  refine rImm_ok (p := GoodL _ _ _) goodL_no fun _ h => ?_
  subst h
  refine gC_ok (p := GoodL _ _ _) goodL_no fun _ _ h => ?_
  subst h
  refine rImm_ok (p := GoodL _ _ _) goodL_no fun _ h => ?_
  subst h
  refine gC_ok (p := GoodL _ _ _) goodL_no fun _ _ h => ?_
  subst h
  refine rV_ok (p := GoodL _ _ _) goodL_no fun _ h => ?_
  subst h
  refine vI_ok (p := GoodL _ _ _) goodL_no fun _ h => ?_
  subst h
  refine gE_ok (p := GoodL _ _ _) goodL_no fun h => ?_
  subst h
  refine gE_ok (p := GoodL _ _ _) goodL_no fun h => ?_
  subst h
  refine gN_ok (p := GoodL _ _ _) goodL_no fun h => ?_
  subst h
  exact f44.l4.good k _ _ _ _ _ _
theorem f44.l13.nat {R : Type} (k : Nat) (rec_ : Int → Int → Int → Int → Int → (List S146) → (List (List S142)) → Int → Option ((Bool × Int × Int × (List S146) × (List (List S142)) × Int) ⊕ (Int × Int × (List S146) × (List (List S142)) × Int))) (g : ((Bool × Int × Int × (List S146) × (List (List S142)) × Int) ⊕ (Int × Int × (List S146) × (List (List S142)) × Int)) → Option R) (a18 : Int) (a19 : Int) (a20 : Int) (a21 : Int) (a22 : Int) (xs23 : List S146) (xs24 : List (List S142)) (a25 : Int) : (f44.l13.step k rec_ some a18 a19 a20 a21 a22 xs23 xs24 a25).bind g = f44.l13.step k (fun a18 a19 a20 a21 a22 xs23 xs24 a25 => (rec_ a18 a19 a20 a21 a22 xs23 xs24 a25).bind g) g a18 a19 a20 a21 a22 xs23 xs24 a25 := by
  simp only [f44.l13.step, bind_ite, bind_sum, Option.bind_assoc, Option.bind_some, Option.bind_none]
theorem f44.l13.good (k : Nat) (a18 : Int) (a19 : Int) (a20 : Int) (a21 : Int) (a22 : Int) (xs23 : List S146) (xs24 : List (List S142)) (a25 : Int) : GoodL (f44.X k) (nthC 2 (loopsOf (bodyOf Try.f44))) (f44.l13.st a18 a19 a20 a21 a22 xs23 xs24 a25) { α := ((Bool × Int × Int × (List S146) × (List (List S142)) × Int) ⊕ (Int × Int × (List S146) × (List (List S142)) × Int)), o := f44.l13 k k a18 a19 a20 a21 a22 xs23 xs24 a25, w := f44.l13.w } :=
  loop_good (ι := Int × Int × Int × Int × Int × (List S146) × (List (List S142)) × Int) (α := ((Bool × Int × Int × (List S146) × (List (List S142)) × Int) ⊕ (Int × Int × (List S146) × (List (List S142)) × Int))) (fun i => f44.l13.st i.1 i.2.1 i.2.2.1 i.2.2.2.1 i.2.2.2.2.1 i.2.2.2.2.2.1 i.2.2.2.2.2.2.1 i.2.2.2.2.2.2.2) (fun j i => f44.l13 k j i.1 i.2.1 i.2.2.1 i.2.2.2.1 i.2.2.2.2.1 i.2.2.2.2.2.1 i.2.2.2.2.2.2.1 i.2.2.2.2.2.2.2) f44.l13.w (fun rec_ ret i => f44.l13.step k (fun a18 a19 a20 a21 a22 xs23 xs24 a25 => rec_ (a18, a19, a20, a21, a22, xs23, xs24, a25)) ret i.1 i.2.1 i.2.2.1 i.2.2.2.1 i.2.2.2.2.1 i.2.2.2.2.2.1 i.2.2.2.2.2.2.1 i.2.2.2.2.2.2.2)
    (fun _ => rfl) (fun _ _ => rfl) (fun rec_ g i => f44.l13.nat k _ g i.1 i.2.1 i.2.2.1 i.2.2.2.1 i.2.2.2.2.1 i.2.2.2.2.2.1 i.2.2.2.2.2.2.1 i.2.2.2.2.2.2.2) (fun {R} i0 i rec_ K => by kernel_rfl) k (a18, a19, a20, a21, a22, xs23, xs24, a25)
theorem f44.l13.all (k : Nat) (S : St env) : GoodL (f44.X k) (nthC 2 (loopsOf (bodyOf Try.f44))) S (f44.l13.hd k S.ts S.m S.n) := by
  obtain ⟨ts_, m_, n_⟩ := S
  show GoodL _ _ _ (f44.l13.hd k ts_ m_ n_)
  unfold f44.l13.hd
  refine gTs_ok (p := GoodL _ _ _) goodL_no fun _ h => ?_
  subst h
  refine gV_ok (p := GoodL _ _ _) goodL_no fun _ _ h => ?_
  subst h
  refine rBp_ok (p := GoodL _ _ _) goodL_no fun h => ?_
  subst h
  refine gV_ok (p := GoodL _ _ _) goodL_no fun _ _ h => ?_
  subst h
  refine rV_ok (p := GoodL _ _ _) goodL_no fun _ h => ?_
  subst h
  refine vI_ok (p := GoodL _ _ _) goodL_no fun _ h => ?_
  subst h
  refine gV_ok (p := GoodL _ _ _) goodL_no fun _ _ h => ?_
  subst h
  refine rV_ok (p := GoodL _ _ _) goodL_no fun _ h => ?_
  subst h
  refine vI_ok (p := GoodL _ _ _) goodL_no fun _ h => ?_
  subst h
  refine gV_ok (p := GoodL _ _ _) goodL_no fun _ _ h => ?_
  subst h
  refine rV_ok (p := GoodL _ _ _) goodL_no fun _ h => ?_
  subst h
  refine vI_ok (p := GoodL _ _ _) goodL_no fun _ h => ?_
  subst h
  refine gV_ok (p := GoodL _ _ _) goodL_no fun _ _ h => ?_
  subst h
  refine rV_ok (p := GoodL _ _ _) goodL_no fun _ h => ?_
  subst h
  refine vI_ok (p := GoodL _ _ _) goodL_no fun _ h => ?_
  subst h
  refine gV_ok (p := GoodL _ _ _) goodL_no fun _ _ h => ?_
  subst h
  refine rV_ok (p := GoodL _ _ _) goodL_no fun _ h => ?_
  subst h
  refine vI_ok (p := GoodL _ _ _) goodL_no fun _ h => ?_
  subst h
  refine gE_ok (p := GoodL _ _ _) goodL_no fun h => ?_
  subst h
  refine mBox_ok (p := GoodL _ _ _) goodL_no fun _ _ h => ?_
  subst h
  refine gC_ok (p := GoodL _ _ _) goodL_no fun _ _ h => ?_
  subst h
  refine rImm_ok (p := GoodL _ _ _) goodL_no fun _ h => ?_
  subst h
  refine gC_ok (p := GoodL _ _ _) goodL_no fun _ _ h => ?_
  subst h
  refine rImm_ok (p := GoodL _ _ _) goodL_no fun _ h => ?_
  subst h
  refine gC_ok (p := GoodL _ _ _) goodL_no fun _ _ h => ?_
  subst h
  refine rV_ok (p := GoodL _ _ _) goodL_no fun _ h => ?_
  subst h
  refine vI_ok (p := GoodL _ _ _) goodL_no fun _ h => ?_
  subst h
  refine gE_ok (p := GoodL _ _ _) goodL_no fun h => ?_
  subst h
  refine gE_ok (p := GoodL _ _ _) goodL_no fun h => ?_
  subst h
  refine gN_ok (p := GoodL _ _ _) goodL_no fun h => ?_
  subst h
  exact f44.l13.good k _ _ _ _ _ _ _ _
theorem f44.l10.nat {R : Type} (k : Nat) (rec_ : Int → Int → (List S146) → (List (List S142)) → Int → Option (Bool ⊕ (Unit))) (g : (Bool ⊕ (Unit)) → Option R) (a13 : Int) (a14 : Int) (xs15 : List S146) (xs16 : List (List S142)) (a17 : Int) : (f44.l10.step k rec_ some a13 a14 xs15 xs16 a17).bind g = f44.l10.step k (fun a13 a14 xs15 xs16 a17 => (rec_ a13 a14 xs15 xs16 a17).bind g) g a13 a14 xs15 xs16 a17 := by
  simp only [f44.l10.step, bind_ite, bind_sum, Option.bind_assoc, Option.bind_some, Option.bind_none]
theorem f44.l10.good (k : Nat) (a13 : Int) (a14 : Int) (xs15 : List S146) (xs16 : List (List S142)) (a17 : Int) : GoodL (f44.X k) (nthC 1 (loopsOf (bodyOf Try.f44))) (f44.l10.st a13 a14 xs15 xs16 a17) { α := (Bool ⊕ (Unit)), o := f44.l10 k k a13 a14 xs15 xs16 a17, w := f44.l10.w } :=
  loop_good (ι := Int × Int × (List S146) × (List (List S142)) × Int) (α := (Bool ⊕ (Unit))) (fun i => f44.l10.st i.1 i.2.1 i.2.2.1 i.2.2.2.1 i.2.2.2.2) (fun j i => f44.l10 k j i.1 i.2.1 i.2.2.1 i.2.2.2.1 i.2.2.2.2) f44.l10.w (fun rec_ ret i => f44.l10.step k (fun a13 a14 xs15 xs16 a17 => rec_ (a13, a14, xs15, xs16, a17)) ret i.1 i.2.1 i.2.2.1 i.2.2.2.1 i.2.2.2.2)
    (fun _ => rfl) (fun _ _ => rfl) (fun rec_ g i => f44.l10.nat k _ g i.1 i.2.1 i.2.2.1 i.2.2.2.1 i.2.2.2.2) (fun {R} i0 i rec_ K => by kernel_rfl) k (a13, a14, xs15, xs16, a17)
theorem f44.l10.all (k : Nat) (S : St env) : GoodL (f44.X k) (nthC 1 (loopsOf (bodyOf Try.f44))) S (f44.l10.hd k S.ts S.m S.n) := by
  obtain ⟨ts_, m_, n_⟩ := S
  show GoodL _ _ _ (f44.l10.hd k ts_ m_ n_)
  unfold f44.l10.hd
  refine gTs_ok (p := GoodL _ _ _) goodL_no fun _ h => ?_
  subst h
  refine gV_ok (p := GoodL _ _ _) goodL_no fun _ _ h => ?_
  subst h
  refine rBp_ok (p := GoodL _ _ _) goodL_no fun h => ?_
  subst h
  refine gV_ok (p := GoodL _ _ _) goodL_no fun _ _ h => ?_
  subst h
  refine rV_ok (p := GoodL _ _ _) goodL_no fun _ h => ?_
  subst h
  refine vI_ok (p := GoodL _ _ _) goodL_no fun _ h => ?_
  subst h
  refine gV_ok (p := GoodL _ _ _) goodL_no fun _ _ h => ?_
  subst h
  refine rV_ok (p := GoodL _ _ _) goodL_no fun _ h => ?_
  subst h
  refine vI_ok (p := GoodL _ _ _) goodL_no fun _ h => ?_
  subst h
  refine gE_ok (p := GoodL _ _ _) goodL_no fun h => ?_
  subst h
  refine mBox_ok (p := GoodL _ _ _) goodL_no fun _ _ h => ?_
  subst h
  refine gC_ok (p := GoodL _ _ _) goodL_no fun _ _ h => ?_
  subst h
  refine rImm_ok (p := GoodL _ _ _) goodL_no fun _ h => ?_
  subst h
  refine gC_ok (p := GoodL _ _ _) goodL_no fun _ _ h => ?_
  subst h
  refine rImm_ok (p := GoodL _ _ _) goodL_no fun _ h => ?_
  subst h
  refine gC_ok (p := GoodL _ _ _) goodL_no fun _ _ h => ?_
  subst h
  refine rV_ok (p := GoodL _ _ _) goodL_no fun _ h => ?_
  subst h
  refine vI_ok (p := GoodL _ _ _) goodL_no fun _ h => ?_
  subst h
  refine gE_ok (p := GoodL _ _ _) goodL_no fun h => ?_
  subst h
  refine gE_ok (p := GoodL _ _ _) goodL_no fun h => ?_
  subst h
  refine gN_ok (p := GoodL _ _ _) goodL_no fun h => ?_
  subst h
  exact f44.l10.good k _ _ _ _ _
theorem f44.nat {R : Type} (k : Nat) (g : Bool → Option R) (xs1 : List S146) (xs2 : List (List S142)) (a3 : Int) : f44.step k g xs1 xs2 a3 = (f44 k xs1 xs2 a3).bind g := by
  simp only [f44, f44.step, bind_ite, bind_sum, Option.bind_assoc, Option.bind_some, Option.bind_none]
theorem f44.ev (k : Nat) (xs1 : List S146) (xs2 : List (List S142)) (a3 : Int) : evF (f44.X k) (bodyOf Try.f44) Try.f44.ntmps Try.f44.results.toList [.g [.sl 146 xs1, .sl 140 xs2, .s (.int .i64 a3)]] = f44.step k (fun x => f44.w x some) xs1 xs2 a3 := by kernel_rfl
theorem f44.hok (k : Nat) : HOK (f44.X k) (bodyOf Try.f44) where
  l := allP_mem (by exact ⟨ls_of (h0 := fun S => f44.l4.hd k S.ts S.m S.n) (by kernel_rfl) (f44.l4.all k), ls_of (h0 := fun S => f44.l10.hd k S.ts S.m S.n) (by kernel_rfl) (f44.l10.all k), ls_of (h0 := fun S => f44.l13.hd k S.ts S.m S.n) (by kernel_rfl) (f44.l13.all k), trivial⟩)
  j := allP_mem (by exact trivial)
theorem f44.sound0 (k : Nat) : SoundC env Try.prog 44 (f44.hd k) := by
  intro ps_
  show GoodC _ _ _ ps_ (f44.hd k ps_)
  unfold f44.hd
  refine gC_ok (p := GoodC env Try.prog 44 _) goodC_no fun _ _ h => ?_
  subst h
  refine qG_ok (p := GoodC env Try.prog 44 _) goodC_no fun _ h => ?_
  subst h
  refine gC_ok (p := GoodC env Try.prog 44 _) goodC_no fun _ _ h => ?_
  subst h
  refine qSl_ok (p := GoodC env Try.prog 44 _) goodC_no fun _ h => ?_
  subst h
  refine gC_ok (p := GoodC env Try.prog 44 _) goodC_no fun _ _ h => ?_
  subst h
  refine qSl_ok (p := GoodC env Try.prog 44 _) goodC_no fun _ h => ?_
  subst h
  refine gC_ok (p := GoodC env Try.prog 44 _) goodC_no fun _ _ h => ?_
  subst h
  refine qS_ok (p := GoodC env Try.prog 44 _) goodC_no fun _ h => ?_
  subst h
  refine vI_ok (p := GoodC env Try.prog 44 _) goodC_no fun _ h => ?_
  subst h
  refine gE_ok (p := GoodC env Try.prog 44 _) goodC_no fun h => ?_
  subst h
  refine gE_ok (p := GoodC env Try.prog 44 _) goodC_no fun h => ?_
  subst h
  exact fun_good (fun_sound envOK (cs_sound _ (by exact ⟨⟨f109.sound k, f109.fnok⟩, ⟨f110.sound k, f110.fnok⟩, trivial⟩)) (f44.hok k) Try.func44 rfl) ((f44.ev k _ _ _).trans (f44.nat k _ _ _ _))
theorem f44.sound (k : Nat) : SoundC env Try.prog 44 (f44.e k).F := soundC_coer (f44.sound0 k) [[.rd 146, .rd 140, .no]]
theorem f44.says (k : Nat) (xs1 : List S146) (xs2 : List (List S142)) (a3 : Int) (t38 : Bool) (h_ : f44 k xs1 xs2 a3 = some t38) : SoundAt env Try.prog 44 [.g [.sl 146 xs1, .sl 140 xs2, .s (.int .i64 a3)]] ⟨.v (.c (.s (.bool t38))), [[]]⟩ :=
  fun_sound envOK (cs_sound _ (by exact ⟨⟨f109.sound k, f109.fnok⟩, ⟨f110.sound k, f110.fnok⟩, trivial⟩)) (f44.hok k) Try.func44 rfl _ _ (((f44.ev k xs1 xs2 a3).trans (f44.nat k _ xs1 xs2 a3)).trans (by rw [h_]; rfl))
theorem f44.fnok : FnOK Try.prog 44 := fn_ok Try.func44 (by kernel_rfl) rfl
def f130.l3.step {R : Type} (k : Nat) (rec_ : Int → (List S142) → Int → Int → (List Int) → Option R) (ret : ((List Int)) → Option R) (a3 : Int) (xs4 : List S142) (a5 : Int) (a6 : Int) (xs7 : List Int) : Option R :=
  if (decide (a6 < a5)) = true then
    if (0 : Int) ≤ a6 then
      if a6 < ((List.length xs4 : Nat) : Int) then
        if (0 : Int) ≤ a6 then
          if a6 < ((List.length xs7 : Nat) : Int) then
            if (decide ((List.getD xs4 (Int.toNat a6) (⟨(0 : Int), (0 : Int), (0 : Int)⟩ : S142)).f1 = a3)) = true then
              if (0 : Int) ≤ a6 then
                if a6 < ((List.length (List.set xs7 (Int.toNat a6) (List.getD xs4 (Int.toNat a6) (⟨(0 : Int), (0 : Int), (0 : Int)⟩ : S142)).f0) : Nat) : Int) then
                  rec_ a3 xs4 a5 (IntKind.i64.wrap (a6 + (1 : Int))) (List.set (List.set xs7 (Int.toNat a6) (List.getD xs4 (Int.toNat a6) (⟨(0 : Int), (0 : Int), (0 : Int)⟩ : S142)).f0) (Int.toNat a6) (16 : Int))
                else none
              else none
            else
              rec_ a3 xs4 a5 (IntKind.i64.wrap (a6 + (1 : Int))) (List.set xs7 (Int.toNat a6) (List.getD xs4 (Int.toNat a6) (⟨(0 : Int), (0 : Int), (0 : Int)⟩ : S142)).f0)
          else none
        else none
      else none
    else none
  else
    ret xs7
def f130.l3 (k : Nat) : Nat → Int → (List S142) → Int → Int → (List Int) → Option ((List Int))
  | 0, _, _, _, _, _ => none
  | j + 1, a3, xs4, a5, a6, xs7 => f130.l3.step k (fun a3 xs4 a5 a6 xs7 => f130.l3 k j a3 xs4 a5 a6 xs7) some a3 xs4 a5 a6 xs7
def f130.l3.w {R : Type} : ((List Int)) → (Exit → St env → Option R) → Option R := fun t9 K => K (.exit 0) ⟨fullT [5] 0 32 [.v (.c (.row 50))], [(50, .row true 3 t9)], 498⟩
def f130.l3.st (a3 : Int) (xs4 : List S142) (a5 : Int) (a6 : Int) (xs7 : List Int) : St env := ⟨fullT [1, 5, 11, 12, 13] 0 32 [.v (.c (.s (.int .i64 a3))), .v (.c (.row 50)), .v (.c (.imm 142 xs4)), .v (.c (.s (.int .i64 a5))), .v (.c (.s (.int .i64 a6)))], [(50, .row true 3 xs7)], 130⟩
def f130.l3.hd (k : Nat) (ts_ : List (AV env)) (mm_ : Mem env) (n_ : Nat) : LCl env :=
  gTs LCl.no [1, 5, 11, 12, 13] 32 ts_ fun l_ => gV LCl.no l_ fun a_ l_ => rV LCl.no a_ fun v_ => vI LCl.no .i64 v_ fun a3 => gV LCl.no l_ fun a_ l_ => rRow LCl.no 50 a_ <| gV LCl.no l_ fun a_ l_ => rImm LCl.no 142 a_ fun xs4 => gV LCl.no l_ fun a_ l_ => rV LCl.no a_ fun v_ => vI LCl.no .i64 v_ fun a5 => gV LCl.no l_ fun a_ l_ => rV LCl.no a_ fun v_ => vI LCl.no .i64 v_ fun a6 => gE LCl.no l_ <| mRow LCl.no 50 true 3 mm_ fun xs7 m_ => gE LCl.no m_ <| gN LCl.no 130 n_ { α := (List Int), o := f130.l3 k k a3 xs4 a5 a6 xs7, w := f130.l3.w }
def f130.step {R : Type} (k : Nat) (ret : ((List Int)) → Option R) (xs1 : List S142) (a2 : Int) : Option R :=
  if (0 : Int) ≤ (((List.length xs1) : Nat) : Int) then
    if (Int.toNat (((List.length xs1) : Nat) : Int)) * 8 ≤ maxN then
      (f130.l3 k k a2 xs1 (((List.length xs1) : Nat) : Int) (0 : Int) (List.replicate (Int.toNat (((List.length xs1) : Nat) : Int)) (0 : Int))).bind fun t8 => ret t8
    else none
  else none
def f130 (k : Nat) (xs1 : List S142) (a2 : Int) : Option ((List Int)) := f130.step k some xs1 a2
def f130.w {R : Type} : ((List Int)) → (Res env → Option R) → Option R := fun t10 K => K ⟨.v (.c (.own true 3 t10)), [[], []]⟩
theorem f130.wn (x : ((List Int))) : ∃ res, ∀ {R : Type} (K : Res env → Option R), f130.w x K = K res := by
  exact ⟨_, fun _ => rfl⟩
def f130.hd (k : Nat) (ps_ : List (P2 env)) : Cl env :=
  gC Cl.no ps_ fun p_ ps_ => qC Cl.no p_ fun c_ => qSl Cl.no 142 c_ fun xs1 => gC Cl.no ps_ fun p_ ps_ => qC Cl.no p_ fun c_ => qS Cl.no c_ fun v_ => vI Cl.no .i64 v_ fun a2 => gE Cl.no ps_ <| { α := (List Int), o := f130 k xs1 a2, w := f130.w, nat := fun x _ => f130.wn x }
def f130.e (k : Nat) : Entry env := ⟨fun ps => f130.hd k (coer [[.rd 142], [.no]] ps), [], []⟩
def f130.X (k : Nat) : Ctx env := { C := lookE [], L := lookE [(3, fun S => f130.l3.hd k S.ts S.m S.n)], J := lookE [], keep := lookD [(3, [1, 5, 11, 12, 13])], keepX := lookD [(3, [5])], span := lookN [(3, 368)], eff := fun n => memN n [], prep := lookP [], np := 0 }
theorem f130.l3.nat {R : Type} (k : Nat) (rec_ : Int → (List S142) → Int → Int → (List Int) → Option ((List Int))) (g : ((List Int)) → Option R) (a3 : Int) (xs4 : List S142) (a5 : Int) (a6 : Int) (xs7 : List Int) : (f130.l3.step k rec_ some a3 xs4 a5 a6 xs7).bind g = f130.l3.step k (fun a3 xs4 a5 a6 xs7 => (rec_ a3 xs4 a5 a6 xs7).bind g) g a3 xs4 a5 a6 xs7 := by
  simp only [f130.l3.step, bind_ite, bind_sum, Option.bind_assoc, Option.bind_some, Option.bind_none]
theorem f130.l3.good (k : Nat) (a3 : Int) (xs4 : List S142) (a5 : Int) (a6 : Int) (xs7 : List Int) : GoodL (f130.X k) (nthC 0 (loopsOf (bodyOf Try.f130))) (f130.l3.st a3 xs4 a5 a6 xs7) { α := ((List Int)), o := f130.l3 k k a3 xs4 a5 a6 xs7, w := f130.l3.w } :=
  loop_good (ι := Int × (List S142) × Int × Int × (List Int)) (α := ((List Int))) (fun i => f130.l3.st i.1 i.2.1 i.2.2.1 i.2.2.2.1 i.2.2.2.2) (fun j i => f130.l3 k j i.1 i.2.1 i.2.2.1 i.2.2.2.1 i.2.2.2.2) f130.l3.w (fun rec_ ret i => f130.l3.step k (fun a3 xs4 a5 a6 xs7 => rec_ (a3, xs4, a5, a6, xs7)) ret i.1 i.2.1 i.2.2.1 i.2.2.2.1 i.2.2.2.2)
    (fun _ => rfl) (fun _ _ => rfl) (fun rec_ g i => f130.l3.nat k _ g i.1 i.2.1 i.2.2.1 i.2.2.2.1 i.2.2.2.2) (fun {R} i0 i rec_ K => by kernel_rfl) k (a3, xs4, a5, a6, xs7)
theorem f130.l3.all (k : Nat) (S : St env) : GoodL (f130.X k) (nthC 0 (loopsOf (bodyOf Try.f130))) S (f130.l3.hd k S.ts S.m S.n) := by
  obtain ⟨ts_, m_, n_⟩ := S
  show GoodL _ _ _ (f130.l3.hd k ts_ m_ n_)
  unfold f130.l3.hd
  refine gTs_ok (p := GoodL _ _ _) goodL_no fun _ h => ?_
  subst h
  refine gV_ok (p := GoodL _ _ _) goodL_no fun _ _ h => ?_
  subst h
  refine rV_ok (p := GoodL _ _ _) goodL_no fun _ h => ?_
  subst h
  refine vI_ok (p := GoodL _ _ _) goodL_no fun _ h => ?_
  subst h
  refine gV_ok (p := GoodL _ _ _) goodL_no fun _ _ h => ?_
  subst h
  refine rRow_ok (p := GoodL _ _ _) goodL_no fun h => ?_
  subst h
  refine gV_ok (p := GoodL _ _ _) goodL_no fun _ _ h => ?_
  subst h
  refine rImm_ok (p := GoodL _ _ _) goodL_no fun _ h => ?_
  subst h
  refine gV_ok (p := GoodL _ _ _) goodL_no fun _ _ h => ?_
  subst h
  refine rV_ok (p := GoodL _ _ _) goodL_no fun _ h => ?_
  subst h
  refine vI_ok (p := GoodL _ _ _) goodL_no fun _ h => ?_
  subst h
  refine gV_ok (p := GoodL _ _ _) goodL_no fun _ _ h => ?_
  subst h
  refine rV_ok (p := GoodL _ _ _) goodL_no fun _ h => ?_
  subst h
  refine vI_ok (p := GoodL _ _ _) goodL_no fun _ h => ?_
  subst h
  refine gE_ok (p := GoodL _ _ _) goodL_no fun h => ?_
  subst h
  refine mRow_ok (p := GoodL _ _ _) goodL_no fun _ _ h => ?_
  subst h
  refine gE_ok (p := GoodL _ _ _) goodL_no fun h => ?_
  subst h
  refine gN_ok (p := GoodL _ _ _) goodL_no fun h => ?_
  subst h
  exact f130.l3.good k _ _ _ _ _
theorem f130.nat {R : Type} (k : Nat) (g : ((List Int)) → Option R) (xs1 : List S142) (a2 : Int) : f130.step k g xs1 a2 = (f130 k xs1 a2).bind g := by
  simp only [f130, f130.step, bind_ite, bind_sum, Option.bind_assoc, Option.bind_some, Option.bind_none]
theorem f130.ev (k : Nat) (xs1 : List S142) (a2 : Int) : evF (f130.X k) (bodyOf Try.f130) Try.f130.ntmps Try.f130.results.toList [.v (.c (.sl 142 xs1)), .v (.c (.s (.int .i64 a2)))] = f130.step k (fun x => f130.w x some) xs1 a2 := by kernel_rfl
theorem f130.hok (k : Nat) : HOK (f130.X k) (bodyOf Try.f130) where
  l := allP_mem (by exact ⟨ls_of (h0 := fun S => f130.l3.hd k S.ts S.m S.n) (by kernel_rfl) (f130.l3.all k), trivial⟩)
  j := allP_mem (by exact trivial)
theorem f130.sound0 (k : Nat) : SoundC env Try.prog 130 (f130.hd k) := by
  intro ps_
  show GoodC _ _ _ ps_ (f130.hd k ps_)
  unfold f130.hd
  refine gC_ok (p := GoodC env Try.prog 130 _) goodC_no fun _ _ h => ?_
  subst h
  refine qC_ok (p := GoodC env Try.prog 130 _) goodC_no fun _ h => ?_
  subst h
  refine qSl_ok (p := GoodC env Try.prog 130 _) goodC_no fun _ h => ?_
  subst h
  refine gC_ok (p := GoodC env Try.prog 130 _) goodC_no fun _ _ h => ?_
  subst h
  refine qC_ok (p := GoodC env Try.prog 130 _) goodC_no fun _ h => ?_
  subst h
  refine qS_ok (p := GoodC env Try.prog 130 _) goodC_no fun _ h => ?_
  subst h
  refine vI_ok (p := GoodC env Try.prog 130 _) goodC_no fun _ h => ?_
  subst h
  refine gE_ok (p := GoodC env Try.prog 130 _) goodC_no fun h => ?_
  subst h
  exact fun_good (fun_sound envOK (cs_sound _ (by exact trivial)) (f130.hok k) Try.func130 rfl) ((f130.ev k _ _).trans (f130.nat k _ _ _))
theorem f130.sound (k : Nat) : SoundC env Try.prog 130 (f130.e k).F := soundC_coer (f130.sound0 k) [[.rd 142], [.no]]
theorem f130.says (k : Nat) (xs1 : List S142) (a2 : Int) (t11 : (List Int)) (h_ : f130 k xs1 a2 = some t11) : SoundAt env Try.prog 130 [.v (.c (.sl 142 xs1)), .v (.c (.s (.int .i64 a2)))] ⟨.v (.c (.own true 3 t11)), [[], []]⟩ :=
  fun_sound envOK (cs_sound _ (by exact trivial)) (f130.hok k) Try.func130 rfl _ _ (((f130.ev k xs1 a2).trans (f130.nat k _ xs1 a2)).trans (by rw [h_]; rfl))
theorem f130.fnok : FnOK Try.prog 130 := fn_ok Try.func130 (by kernel_rfl) rfl
def f65.step {R : Type} (k : Nat) (ret : (Int ⊕ ((List Int) × Int)) → Option R) (xs1 : List S146) (xs2 : List (List S142)) (a3 : Int) (a4 : Int) (a5 : Int) : Option R :=
  (f44 k xs1 xs2 a3).bind fun t6 => if (!t6) = true then
      ret (.inl (1 : Int))
    else
      (f83 k a4 (0 : Int) (IntKind.i64.wrap (a3 - (1 : Int)))).bind fun t7 => if (!t7) = false then
          (f83 k a5 (0 : Int) (IntKind.i64.wrap (a3 - (1 : Int)))).bind fun t8 => if (!t8) = false then
              (f129 k xs1 xs2 a3 a4 a5).bind fun t9 => if (decide (t9.1 < (0 : Int))) = true then
                  ret (.inl (4 : Int))
                else
                  if (0 : Int) ≤ a4 then
                    if a4 < ((List.length t9.2.2.1 : Nat) : Int) then
                      (f130 k (List.getD t9.2.2.1 (Int.toNat a4) []) a5).bind fun t10 => ret (.inr (t10, (0 : Int)))
                    else none
                  else none
            else
              ret (.inl (4 : Int))
        else
          ret (.inl (4 : Int))
def f65 (k : Nat) (xs1 : List S146) (xs2 : List (List S142)) (a3 : Int) (a4 : Int) (a5 : Int) : Option (Int ⊕ ((List Int) × Int)) := f65.step k some xs1 xs2 a3 a4 a5
def f65.w {R : Type} : (Int ⊕ ((List Int) × Int)) → (Res env → Option R) → Option R := fun x K => Sum.elim (fun t11 => K ⟨.tup [.c (.s (.slice none 0 0)), .c (.s (.int .i64 t11))], [[], [], []]⟩) (fun t12 => K ⟨.tup [.c (.own true 3 t12.1), .c (.s (.int .i64 t12.2))], [[], [], []]⟩) x
theorem f65.wn (x : (Int ⊕ ((List Int) × Int))) : ∃ res, ∀ {R : Type} (K : Res env → Option R), f65.w x K = K res := by
  rcases x with x | x <;> exact ⟨_, fun _ => rfl⟩
def f65.hd (k : Nat) (ps_ : List (P2 env)) : Cl env :=
  gC Cl.no ps_ fun p_ ps_ => qG Cl.no p_ fun cs_ => gC Cl.no cs_ fun c_ cs_ => qSl Cl.no 146 c_ fun xs1 => gC Cl.no cs_ fun c_ cs_ => qSl Cl.no 140 c_ fun xs2 => gC Cl.no cs_ fun c_ cs_ => qS Cl.no c_ fun v_ => vI Cl.no .i64 v_ fun a3 => gE Cl.no cs_ <| gC Cl.no ps_ fun p_ ps_ => qC Cl.no p_ fun c_ => qS Cl.no c_ fun v_ => vI Cl.no .i64 v_ fun a4 => gC Cl.no ps_ fun p_ ps_ => qC Cl.no p_ fun c_ => qS Cl.no c_ fun v_ => vI Cl.no .i64 v_ fun a5 => gE Cl.no ps_ <| { α := Int ⊕ ((List Int) × Int), o := f65 k xs1 xs2 a3 a4 a5, w := f65.w, nat := fun x _ => f65.wn x }
def f65.e (k : Nat) : Entry env := ⟨fun ps => f65.hd k (coer [[.rd 146, .rd 140, .no], [.no], [.no]] ps), [], []⟩
def f65.X (k : Nat) : Ctx env := { C := lookE [(44, f44.e k), (83, f83.e k), (129, f129.e k), (130, f130.e k)], L := lookE [], J := lookE [], keep := lookD [], keepX := lookD [], span := lookN [], eff := fun n => memN n [], prep := lookP [], np := 0 }
theorem f65.nat {R : Type} (k : Nat) (g : (Int ⊕ ((List Int) × Int)) → Option R) (xs1 : List S146) (xs2 : List (List S142)) (a3 : Int) (a4 : Int) (a5 : Int) : f65.step k g xs1 xs2 a3 a4 a5 = (f65 k xs1 xs2 a3 a4 a5).bind g := by
  simp only [f65, f65.step, bind_ite, bind_sum, Option.bind_assoc, Option.bind_some, Option.bind_none]
theorem f65.ev (k : Nat) (xs1 : List S146) (xs2 : List (List S142)) (a3 : Int) (a4 : Int) (a5 : Int) : evF (f65.X k) (bodyOf Try.f65) Try.f65.ntmps Try.f65.results.toList [.g [.sl 146 xs1, .sl 140 xs2, .s (.int .i64 a3)], .v (.c (.s (.int .i64 a4))), .v (.c (.s (.int .i64 a5)))] = f65.step k (fun x => f65.w x some) xs1 xs2 a3 a4 a5 := by kernel_rfl
theorem f65.hok (k : Nat) : HOK (f65.X k) (bodyOf Try.f65) where
  l := allP_mem (by exact trivial)
  j := allP_mem (by exact trivial)
theorem f65.sound0 (k : Nat) : SoundC env Try.prog 65 (f65.hd k) := by
  intro ps_
  show GoodC _ _ _ ps_ (f65.hd k ps_)
  unfold f65.hd
  refine gC_ok (p := GoodC env Try.prog 65 _) goodC_no fun _ _ h => ?_
  subst h
  refine qG_ok (p := GoodC env Try.prog 65 _) goodC_no fun _ h => ?_
  subst h
  refine gC_ok (p := GoodC env Try.prog 65 _) goodC_no fun _ _ h => ?_
  subst h
  refine qSl_ok (p := GoodC env Try.prog 65 _) goodC_no fun _ h => ?_
  subst h
  refine gC_ok (p := GoodC env Try.prog 65 _) goodC_no fun _ _ h => ?_
  subst h
  refine qSl_ok (p := GoodC env Try.prog 65 _) goodC_no fun _ h => ?_
  subst h
  refine gC_ok (p := GoodC env Try.prog 65 _) goodC_no fun _ _ h => ?_
  subst h
  refine qS_ok (p := GoodC env Try.prog 65 _) goodC_no fun _ h => ?_
  subst h
  refine vI_ok (p := GoodC env Try.prog 65 _) goodC_no fun _ h => ?_
  subst h
  refine gE_ok (p := GoodC env Try.prog 65 _) goodC_no fun h => ?_
  subst h
  refine gC_ok (p := GoodC env Try.prog 65 _) goodC_no fun _ _ h => ?_
  subst h
  refine qC_ok (p := GoodC env Try.prog 65 _) goodC_no fun _ h => ?_
  subst h
  refine qS_ok (p := GoodC env Try.prog 65 _) goodC_no fun _ h => ?_
  subst h
  refine vI_ok (p := GoodC env Try.prog 65 _) goodC_no fun _ h => ?_
  subst h
  refine gC_ok (p := GoodC env Try.prog 65 _) goodC_no fun _ _ h => ?_
  subst h
  refine qC_ok (p := GoodC env Try.prog 65 _) goodC_no fun _ h => ?_
  subst h
  refine qS_ok (p := GoodC env Try.prog 65 _) goodC_no fun _ h => ?_
  subst h
  refine vI_ok (p := GoodC env Try.prog 65 _) goodC_no fun _ h => ?_
  subst h
  refine gE_ok (p := GoodC env Try.prog 65 _) goodC_no fun h => ?_
  subst h
  exact fun_good (fun_sound envOK (cs_sound _ (by exact ⟨⟨f44.sound k, f44.fnok⟩, ⟨f83.sound k, f83.fnok⟩, ⟨f129.sound k, f129.fnok⟩, ⟨f130.sound k, f130.fnok⟩, trivial⟩)) (f65.hok k) Try.func65 rfl) ((f65.ev k _ _ _ _ _).trans (f65.nat k _ _ _ _ _ _))
theorem f65.sound (k : Nat) : SoundC env Try.prog 65 (f65.e k).F := soundC_coer (f65.sound0 k) [[.rd 146, .rd 140, .no], [.no], [.no]]
theorem f65.fnok : FnOK Try.prog 65 := fn_ok Try.func65 (by kernel_rfl) rfl
def f25.l4.step {R : Type} (k : Nat) (rec_ : (List Int) → (List Int) → Int → Option R) (ret : (Bool ⊕ (Unit)) → Option R) (xs3 : List Int) (xs4 : List Int) (a5 : Int) : Option R :=
  if (decide (a5 < (((List.length xs3) : Nat) : Int))) = true then
    if (0 : Int) ≤ a5 then
      if a5 < ((List.length xs3 : Nat) : Int) then
        if (0 : Int) ≤ a5 then
          if a5 < ((List.length xs4 : Nat) : Int) then
            if (decide ((List.getD xs3 (Int.toNat a5) (0 : Int)) ≠ (List.getD xs4 (Int.toNat a5) (0 : Int)))) = true then
              ret (.inl false)
            else
              rec_ xs3 xs4 (IntKind.i64.wrap (a5 + (1 : Int)))
          else none
        else none
      else none
    else none
  else
    ret (.inr ())
def f25.l4 (k : Nat) : Nat → (List Int) → (List Int) → Int → Option (Bool ⊕ (Unit))
  | 0, _, _, _ => none
  | j + 1, xs3, xs4, a5 => f25.l4.step k (fun xs3 xs4 a5 => f25.l4 k j xs3 xs4 a5) some xs3 xs4 a5
def f25.l4.w {R : Type} : (Bool ⊕ (Unit)) → (Exit → St env → Option R) → Option R := fun x K => Sum.elim (fun t8 => K .ret ⟨fullT [4] 0 26 [.v (.c (.s (.bool t8)))], [], 386⟩) (fun t9 => K (.exit 0) ⟨fullT [] 0 26 [], [], 386⟩) x
def f25.l4.st (xs3 : List Int) (xs4 : List Int) (a5 : Int) : St env := ⟨fullT [0, 1, 5] 0 26 [.v (.c (.imm 3 xs3)), .v (.c (.imm 3 xs4)), .v (.c (.s (.int .i64 a5)))], [], 114⟩
def f25.l4.hd (k : Nat) (ts_ : List (AV env)) (mm_ : Mem env) (n_ : Nat) : LCl env :=
  gTs LCl.no [0, 1, 5] 26 ts_ fun l_ => gV LCl.no l_ fun a_ l_ => rImm LCl.no 3 a_ fun xs3 => gV LCl.no l_ fun a_ l_ => rImm LCl.no 3 a_ fun xs4 => gV LCl.no l_ fun a_ l_ => rV LCl.no a_ fun v_ => vI LCl.no .i64 v_ fun a5 => gE LCl.no l_ <| gE LCl.no mm_ <| gN LCl.no 114 n_ { α := Bool ⊕ (Unit), o := f25.l4 k k xs3 xs4 a5, w := f25.l4.w }
def f25.step {R : Type} (k : Nat) (ret : Bool → Option R) (xs1 : List Int) (xs2 : List Int) : Option R :=
  if (decide ((((List.length xs1) : Nat) : Int) ≠ (((List.length xs2) : Nat) : Int))) = true then
    ret false
  else
    (f25.l4 k k xs1 xs2 (0 : Int)).bind (Sum.elim (fun t6 => ret t6) (fun t7 => ret true))
def f25 (k : Nat) (xs1 : List Int) (xs2 : List Int) : Option Bool := f25.step k some xs1 xs2
def f25.w {R : Type} : Bool → (Res env → Option R) → Option R := fun t10 K => K ⟨.v (.c (.s (.bool t10))), [[], []]⟩
theorem f25.wn (x : Bool) : ∃ res, ∀ {R : Type} (K : Res env → Option R), f25.w x K = K res := by
  exact ⟨_, fun _ => rfl⟩
def f25.hd (k : Nat) (ps_ : List (P2 env)) : Cl env :=
  gC Cl.no ps_ fun p_ ps_ => qC Cl.no p_ fun c_ => qSl Cl.no 3 c_ fun xs1 => gC Cl.no ps_ fun p_ ps_ => qC Cl.no p_ fun c_ => qSl Cl.no 3 c_ fun xs2 => gE Cl.no ps_ <| { α := Bool, o := f25 k xs1 xs2, w := f25.w, nat := fun x _ => f25.wn x }
def f25.e (k : Nat) : Entry env := ⟨fun ps => f25.hd k (coer [[.rd 3], [.rd 3]] ps), [], []⟩
def f25.X (k : Nat) : Ctx env := { C := lookE [], L := lookE [(4, fun S => f25.l4.hd k S.ts S.m S.n)], J := lookE [], keep := lookD [(4, [0, 1, 5])], keepX := lookD [(4, [4])], span := lookN [(4, 272)], eff := fun n => memN n [], prep := lookP [], np := 0 }
theorem f25.l4.nat {R : Type} (k : Nat) (rec_ : (List Int) → (List Int) → Int → Option (Bool ⊕ (Unit))) (g : (Bool ⊕ (Unit)) → Option R) (xs3 : List Int) (xs4 : List Int) (a5 : Int) : (f25.l4.step k rec_ some xs3 xs4 a5).bind g = f25.l4.step k (fun xs3 xs4 a5 => (rec_ xs3 xs4 a5).bind g) g xs3 xs4 a5 := by
  simp only [f25.l4.step, bind_ite, bind_sum, Option.bind_assoc, Option.bind_some, Option.bind_none]
theorem f25.l4.good (k : Nat) (xs3 : List Int) (xs4 : List Int) (a5 : Int) : GoodL (f25.X k) (nthC 0 (loopsOf (bodyOf Try.f25))) (f25.l4.st xs3 xs4 a5) { α := (Bool ⊕ (Unit)), o := f25.l4 k k xs3 xs4 a5, w := f25.l4.w } :=
  loop_good (ι := (List Int) × (List Int) × Int) (α := (Bool ⊕ (Unit))) (fun i => f25.l4.st i.1 i.2.1 i.2.2) (fun j i => f25.l4 k j i.1 i.2.1 i.2.2) f25.l4.w (fun rec_ ret i => f25.l4.step k (fun xs3 xs4 a5 => rec_ (xs3, xs4, a5)) ret i.1 i.2.1 i.2.2)
    (fun _ => rfl) (fun _ _ => rfl) (fun rec_ g i => f25.l4.nat k _ g i.1 i.2.1 i.2.2) (fun {R} i0 i rec_ K => by kernel_rfl) k (xs3, xs4, a5)
theorem f25.l4.all (k : Nat) (S : St env) : GoodL (f25.X k) (nthC 0 (loopsOf (bodyOf Try.f25))) S (f25.l4.hd k S.ts S.m S.n) := by
  obtain ⟨ts_, m_, n_⟩ := S
  show GoodL _ _ _ (f25.l4.hd k ts_ m_ n_)
  unfold f25.l4.hd
  refine gTs_ok (p := GoodL _ _ _) goodL_no fun _ h => ?_
  subst h
  refine gV_ok (p := GoodL _ _ _) goodL_no fun _ _ h => ?_
  subst h
  refine rImm_ok (p := GoodL _ _ _) goodL_no fun _ h => ?_
  subst h
  refine gV_ok (p := GoodL _ _ _) goodL_no fun _ _ h => ?_
  subst h
  refine rImm_ok (p := GoodL _ _ _) goodL_no fun _ h => ?_
  subst h
  refine gV_ok (p := GoodL _ _ _) goodL_no fun _ _ h => ?_
  subst h
  refine rV_ok (p := GoodL _ _ _) goodL_no fun _ h => ?_
  subst h
  refine vI_ok (p := GoodL _ _ _) goodL_no fun _ h => ?_
  subst h
  refine gE_ok (p := GoodL _ _ _) goodL_no fun h => ?_
  subst h
  refine gE_ok (p := GoodL _ _ _) goodL_no fun h => ?_
  subst h
  refine gN_ok (p := GoodL _ _ _) goodL_no fun h => ?_
  subst h
  exact f25.l4.good k _ _ _
theorem f25.nat {R : Type} (k : Nat) (g : Bool → Option R) (xs1 : List Int) (xs2 : List Int) : f25.step k g xs1 xs2 = (f25 k xs1 xs2).bind g := by
  simp only [f25, f25.step, bind_ite, bind_sum, Option.bind_assoc, Option.bind_some, Option.bind_none]
theorem f25.ev (k : Nat) (xs1 : List Int) (xs2 : List Int) : evF (f25.X k) (bodyOf Try.f25) Try.f25.ntmps Try.f25.results.toList [.v (.c (.sl 3 xs1)), .v (.c (.sl 3 xs2))] = f25.step k (fun x => f25.w x some) xs1 xs2 := by kernel_rfl
theorem f25.hok (k : Nat) : HOK (f25.X k) (bodyOf Try.f25) where
  l := allP_mem (by exact ⟨ls_of (h0 := fun S => f25.l4.hd k S.ts S.m S.n) (by kernel_rfl) (f25.l4.all k), trivial⟩)
  j := allP_mem (by exact trivial)
theorem f25.sound0 (k : Nat) : SoundC env Try.prog 25 (f25.hd k) := by
  intro ps_
  show GoodC _ _ _ ps_ (f25.hd k ps_)
  unfold f25.hd
  refine gC_ok (p := GoodC env Try.prog 25 _) goodC_no fun _ _ h => ?_
  subst h
  refine qC_ok (p := GoodC env Try.prog 25 _) goodC_no fun _ h => ?_
  subst h
  refine qSl_ok (p := GoodC env Try.prog 25 _) goodC_no fun _ h => ?_
  subst h
  refine gC_ok (p := GoodC env Try.prog 25 _) goodC_no fun _ _ h => ?_
  subst h
  refine qC_ok (p := GoodC env Try.prog 25 _) goodC_no fun _ h => ?_
  subst h
  refine qSl_ok (p := GoodC env Try.prog 25 _) goodC_no fun _ h => ?_
  subst h
  refine gE_ok (p := GoodC env Try.prog 25 _) goodC_no fun h => ?_
  subst h
  exact fun_good (fun_sound envOK (cs_sound _ (by exact trivial)) (f25.hok k) Try.func25 rfl) ((f25.ev k _ _).trans (f25.nat k _ _ _))
theorem f25.sound (k : Nat) : SoundC env Try.prog 25 (f25.e k).F := soundC_coer (f25.sound0 k) [[.rd 3], [.rd 3]]
theorem f25.says (k : Nat) (xs1 : List Int) (xs2 : List Int) (t11 : Bool) (h_ : f25 k xs1 xs2 = some t11) : SoundAt env Try.prog 25 [.v (.c (.sl 3 xs1)), .v (.c (.sl 3 xs2))] ⟨.v (.c (.s (.bool t11))), [[], []]⟩ :=
  fun_sound envOK (cs_sound _ (by exact trivial)) (f25.hok k) Try.func25 rfl _ _ (((f25.ev k xs1 xs2).trans (f25.nat k _ xs1 xs2)).trans (by rw [h_]; rfl))
theorem f25.fnok : FnOK Try.prog 25 := fn_ok Try.func25 (by kernel_rfl) rfl
def f159.step {R : Type} (k : Nat) (ret : Bool → Option R) (a1 : Int) (a2 : Int) (a3 : Int) (b4 : Bool) (a5 : Int) (a6 : Int) (a7 : Int) (b8 : Bool) : Option R :=
  if (decide (a1 ≠ a5)) = true then
    ret false
  else
    if (decide (a2 ≠ a6)) = true then
      ret false
    else
      if (decide (a3 ≠ a7)) = true then
        ret false
      else
        if (!(b4 == b8)) = true then
          ret false
        else
          ret true
def f159 (k : Nat) (a1 : Int) (a2 : Int) (a3 : Int) (b4 : Bool) (a5 : Int) (a6 : Int) (a7 : Int) (b8 : Bool) : Option Bool := f159.step k some a1 a2 a3 b4 a5 a6 a7 b8
def f159.w {R : Type} : Bool → (Res env → Option R) → Option R := fun t9 K => K ⟨.v (.c (.s (.bool t9))), [[], []]⟩
theorem f159.wn (x : Bool) : ∃ res, ∀ {R : Type} (K : Res env → Option R), f159.w x K = K res := by
  exact ⟨_, fun _ => rfl⟩
def f159.hd (k : Nat) (ps_ : List (P2 env)) : Cl env :=
  gC Cl.no ps_ fun p_ ps_ => qG Cl.no p_ fun cs_ => gC Cl.no cs_ fun c_ cs_ => qS Cl.no c_ fun v_ => vI Cl.no .i64 v_ fun a1 => gC Cl.no cs_ fun c_ cs_ => qS Cl.no c_ fun v_ => vI Cl.no .i64 v_ fun a2 => gC Cl.no cs_ fun c_ cs_ => qS Cl.no c_ fun v_ => vI Cl.no .i64 v_ fun a3 => gC Cl.no cs_ fun c_ cs_ => qS Cl.no c_ fun v_ => vB Cl.no v_ fun b4 => gE Cl.no cs_ <| gC Cl.no ps_ fun p_ ps_ => qG Cl.no p_ fun cs_ => gC Cl.no cs_ fun c_ cs_ => qS Cl.no c_ fun v_ => vI Cl.no .i64 v_ fun a5 => gC Cl.no cs_ fun c_ cs_ => qS Cl.no c_ fun v_ => vI Cl.no .i64 v_ fun a6 => gC Cl.no cs_ fun c_ cs_ => qS Cl.no c_ fun v_ => vI Cl.no .i64 v_ fun a7 => gC Cl.no cs_ fun c_ cs_ => qS Cl.no c_ fun v_ => vB Cl.no v_ fun b8 => gE Cl.no cs_ <| gE Cl.no ps_ <| { α := Bool, o := f159 k a1 a2 a3 b4 a5 a6 a7 b8, w := f159.w, nat := fun x _ => f159.wn x }
def f159.e (k : Nat) : Entry env := ⟨f159.hd k, [], []⟩
def f159.X (k : Nat) : Ctx env := { C := lookE [], L := lookE [], J := lookE [], keep := lookD [], keepX := lookD [], span := lookN [], eff := fun n => memN n [], prep := lookP [], np := 0 }
theorem f159.nat {R : Type} (k : Nat) (g : Bool → Option R) (a1 : Int) (a2 : Int) (a3 : Int) (b4 : Bool) (a5 : Int) (a6 : Int) (a7 : Int) (b8 : Bool) : f159.step k g a1 a2 a3 b4 a5 a6 a7 b8 = (f159 k a1 a2 a3 b4 a5 a6 a7 b8).bind g := by
  simp only [f159, f159.step, bind_ite, bind_sum, Option.bind_assoc, Option.bind_some, Option.bind_none]
theorem f159.ev (k : Nat) (a1 : Int) (a2 : Int) (a3 : Int) (b4 : Bool) (a5 : Int) (a6 : Int) (a7 : Int) (b8 : Bool) : evF (f159.X k) (bodyOf Try.f159) Try.f159.ntmps Try.f159.results.toList [.g [.s (.int .i64 a1), .s (.int .i64 a2), .s (.int .i64 a3), .s (.bool b4)], .g [.s (.int .i64 a5), .s (.int .i64 a6), .s (.int .i64 a7), .s (.bool b8)]] = f159.step k (fun x => f159.w x some) a1 a2 a3 b4 a5 a6 a7 b8 := by kernel_rfl
theorem f159.hok (k : Nat) : HOK (f159.X k) (bodyOf Try.f159) where
  l := allP_mem (by exact trivial)
  j := allP_mem (by exact trivial)
theorem f159.sound (k : Nat) : SoundC env Try.prog 159 ((f159.e k).F) := by
  intro ps_
  show GoodC _ _ _ ps_ (f159.hd k ps_)
  unfold f159.hd
  refine gC_ok (p := GoodC env Try.prog 159 _) goodC_no fun _ _ h => ?_
  subst h
  refine qG_ok (p := GoodC env Try.prog 159 _) goodC_no fun _ h => ?_
  subst h
  refine gC_ok (p := GoodC env Try.prog 159 _) goodC_no fun _ _ h => ?_
  subst h
  refine qS_ok (p := GoodC env Try.prog 159 _) goodC_no fun _ h => ?_
  subst h
  refine vI_ok (p := GoodC env Try.prog 159 _) goodC_no fun _ h => ?_
  subst h
  refine gC_ok (p := GoodC env Try.prog 159 _) goodC_no fun _ _ h => ?_
  subst h
  refine qS_ok (p := GoodC env Try.prog 159 _) goodC_no fun _ h => ?_
  subst h
  refine vI_ok (p := GoodC env Try.prog 159 _) goodC_no fun _ h => ?_
  subst h
  refine gC_ok (p := GoodC env Try.prog 159 _) goodC_no fun _ _ h => ?_
  subst h
  refine qS_ok (p := GoodC env Try.prog 159 _) goodC_no fun _ h => ?_
  subst h
  refine vI_ok (p := GoodC env Try.prog 159 _) goodC_no fun _ h => ?_
  subst h
  refine gC_ok (p := GoodC env Try.prog 159 _) goodC_no fun _ _ h => ?_
  subst h
  refine qS_ok (p := GoodC env Try.prog 159 _) goodC_no fun _ h => ?_
  subst h
  refine vB_ok (p := GoodC env Try.prog 159 _) goodC_no fun _ h => ?_
  subst h
  refine gE_ok (p := GoodC env Try.prog 159 _) goodC_no fun h => ?_
  subst h
  refine gC_ok (p := GoodC env Try.prog 159 _) goodC_no fun _ _ h => ?_
  subst h
  refine qG_ok (p := GoodC env Try.prog 159 _) goodC_no fun _ h => ?_
  subst h
  refine gC_ok (p := GoodC env Try.prog 159 _) goodC_no fun _ _ h => ?_
  subst h
  refine qS_ok (p := GoodC env Try.prog 159 _) goodC_no fun _ h => ?_
  subst h
  refine vI_ok (p := GoodC env Try.prog 159 _) goodC_no fun _ h => ?_
  subst h
  refine gC_ok (p := GoodC env Try.prog 159 _) goodC_no fun _ _ h => ?_
  subst h
  refine qS_ok (p := GoodC env Try.prog 159 _) goodC_no fun _ h => ?_
  subst h
  refine vI_ok (p := GoodC env Try.prog 159 _) goodC_no fun _ h => ?_
  subst h
  refine gC_ok (p := GoodC env Try.prog 159 _) goodC_no fun _ _ h => ?_
  subst h
  refine qS_ok (p := GoodC env Try.prog 159 _) goodC_no fun _ h => ?_
  subst h
  refine vI_ok (p := GoodC env Try.prog 159 _) goodC_no fun _ h => ?_
  subst h
  refine gC_ok (p := GoodC env Try.prog 159 _) goodC_no fun _ _ h => ?_
  subst h
  refine qS_ok (p := GoodC env Try.prog 159 _) goodC_no fun _ h => ?_
  subst h
  refine vB_ok (p := GoodC env Try.prog 159 _) goodC_no fun _ h => ?_
  subst h
  refine gE_ok (p := GoodC env Try.prog 159 _) goodC_no fun h => ?_
  subst h
  refine gE_ok (p := GoodC env Try.prog 159 _) goodC_no fun h => ?_
  subst h
  exact fun_good (fun_sound envOK (cs_sound _ (by exact trivial)) (f159.hok k) Try.func159 rfl) ((f159.ev k _ _ _ _ _ _ _ _).trans (f159.nat k _ _ _ _ _ _ _ _ _))
theorem f159.says (k : Nat) (a1 : Int) (a2 : Int) (a3 : Int) (b4 : Bool) (a5 : Int) (a6 : Int) (a7 : Int) (b8 : Bool) (t10 : Bool) (h_ : f159 k a1 a2 a3 b4 a5 a6 a7 b8 = some t10) : SoundAt env Try.prog 159 [.g [.s (.int .i64 a1), .s (.int .i64 a2), .s (.int .i64 a3), .s (.bool b4)], .g [.s (.int .i64 a5), .s (.int .i64 a6), .s (.int .i64 a7), .s (.bool b8)]] ⟨.v (.c (.s (.bool t10))), [[], []]⟩ :=
  fun_sound envOK (cs_sound _ (by exact trivial)) (f159.hok k) Try.func159 rfl _ _ (((f159.ev k a1 a2 a3 b4 a5 a6 a7 b8).trans (f159.nat k _ a1 a2 a3 b4 a5 a6 a7 b8)).trans (by rw [h_]; rfl))
theorem f159.fnok : FnOK Try.prog 159 := fn_ok Try.func159 (by kernel_rfl) rfl
def f111.l4.step {R : Type} (k : Nat) (rec_ : (List S146) → (List S146) → Int → Option R) (ret : (Bool ⊕ (Unit)) → Option R) (xs3 : List S146) (xs4 : List S146) (a5 : Int) : Option R :=
  if (decide (a5 < (((List.length xs3) : Nat) : Int))) = true then
    if (0 : Int) ≤ a5 then
      if a5 < ((List.length xs3 : Nat) : Int) then
        if (0 : Int) ≤ a5 then
          if a5 < ((List.length xs4 : Nat) : Int) then
            (f159 k (List.getD xs3 (Int.toNat a5) (⟨(0 : Int), (0 : Int), (0 : Int), false⟩ : S146)).f0 (List.getD xs3 (Int.toNat a5) (⟨(0 : Int), (0 : Int), (0 : Int), false⟩ : S146)).f1 (List.getD xs3 (Int.toNat a5) (⟨(0 : Int), (0 : Int), (0 : Int), false⟩ : S146)).f2 (List.getD xs3 (Int.toNat a5) (⟨(0 : Int), (0 : Int), (0 : Int), false⟩ : S146)).f3 (List.getD xs4 (Int.toNat a5) (⟨(0 : Int), (0 : Int), (0 : Int), false⟩ : S146)).f0 (List.getD xs4 (Int.toNat a5) (⟨(0 : Int), (0 : Int), (0 : Int), false⟩ : S146)).f1 (List.getD xs4 (Int.toNat a5) (⟨(0 : Int), (0 : Int), (0 : Int), false⟩ : S146)).f2 (List.getD xs4 (Int.toNat a5) (⟨(0 : Int), (0 : Int), (0 : Int), false⟩ : S146)).f3).bind fun t6 => if (!t6) = true then
                ret (.inl false)
              else
                rec_ xs3 xs4 (IntKind.i64.wrap (a5 + (1 : Int)))
          else none
        else none
      else none
    else none
  else
    ret (.inr ())
def f111.l4 (k : Nat) : Nat → (List S146) → (List S146) → Int → Option (Bool ⊕ (Unit))
  | 0, _, _, _ => none
  | j + 1, xs3, xs4, a5 => f111.l4.step k (fun xs3 xs4 a5 => f111.l4 k j xs3 xs4 a5) some xs3 xs4 a5
def f111.l4.w {R : Type} : (Bool ⊕ (Unit)) → (Exit → St env → Option R) → Option R := fun x K => Sum.elim (fun t9 => K .ret ⟨fullT [4] 0 27 [.v (.c (.s (.bool t9)))], [], 402⟩) (fun t10 => K (.exit 0) ⟨fullT [] 0 27 [], [], 402⟩) x
def f111.l4.st (xs3 : List S146) (xs4 : List S146) (a5 : Int) : St env := ⟨fullT [0, 1, 5] 0 27 [.v (.c (.imm 146 xs3)), .v (.c (.imm 146 xs4)), .v (.c (.s (.int .i64 a5)))], [], 114⟩
def f111.l4.hd (k : Nat) (ts_ : List (AV env)) (mm_ : Mem env) (n_ : Nat) : LCl env :=
  gTs LCl.no [0, 1, 5] 27 ts_ fun l_ => gV LCl.no l_ fun a_ l_ => rImm LCl.no 146 a_ fun xs3 => gV LCl.no l_ fun a_ l_ => rImm LCl.no 146 a_ fun xs4 => gV LCl.no l_ fun a_ l_ => rV LCl.no a_ fun v_ => vI LCl.no .i64 v_ fun a5 => gE LCl.no l_ <| gE LCl.no mm_ <| gN LCl.no 114 n_ { α := Bool ⊕ (Unit), o := f111.l4 k k xs3 xs4 a5, w := f111.l4.w }
def f111.step {R : Type} (k : Nat) (ret : Bool → Option R) (xs1 : List S146) (xs2 : List S146) : Option R :=
  if (decide ((((List.length xs1) : Nat) : Int) ≠ (((List.length xs2) : Nat) : Int))) = true then
    ret false
  else
    (f111.l4 k k xs1 xs2 (0 : Int)).bind (Sum.elim (fun t7 => ret t7) (fun t8 => ret true))
def f111 (k : Nat) (xs1 : List S146) (xs2 : List S146) : Option Bool := f111.step k some xs1 xs2
def f111.w {R : Type} : Bool → (Res env → Option R) → Option R := fun t11 K => K ⟨.v (.c (.s (.bool t11))), [[], []]⟩
theorem f111.wn (x : Bool) : ∃ res, ∀ {R : Type} (K : Res env → Option R), f111.w x K = K res := by
  exact ⟨_, fun _ => rfl⟩
def f111.hd (k : Nat) (ps_ : List (P2 env)) : Cl env :=
  gC Cl.no ps_ fun p_ ps_ => qC Cl.no p_ fun c_ => qSl Cl.no 146 c_ fun xs1 => gC Cl.no ps_ fun p_ ps_ => qC Cl.no p_ fun c_ => qSl Cl.no 146 c_ fun xs2 => gE Cl.no ps_ <| { α := Bool, o := f111 k xs1 xs2, w := f111.w, nat := fun x _ => f111.wn x }
def f111.e (k : Nat) : Entry env := ⟨fun ps => f111.hd k (coer [[.rd 146], [.rd 146]] ps), [], []⟩
def f111.X (k : Nat) : Ctx env := { C := lookE [(159, f159.e k)], L := lookE [(4, fun S => f111.l4.hd k S.ts S.m S.n)], J := lookE [], keep := lookD [(4, [0, 1, 5])], keepX := lookD [(4, [4])], span := lookN [(4, 288)], eff := fun n => memN n [], prep := lookP [], np := 0 }
theorem f111.l4.nat {R : Type} (k : Nat) (rec_ : (List S146) → (List S146) → Int → Option (Bool ⊕ (Unit))) (g : (Bool ⊕ (Unit)) → Option R) (xs3 : List S146) (xs4 : List S146) (a5 : Int) : (f111.l4.step k rec_ some xs3 xs4 a5).bind g = f111.l4.step k (fun xs3 xs4 a5 => (rec_ xs3 xs4 a5).bind g) g xs3 xs4 a5 := by
  simp only [f111.l4.step, bind_ite, bind_sum, Option.bind_assoc, Option.bind_some, Option.bind_none]
theorem f111.l4.good (k : Nat) (xs3 : List S146) (xs4 : List S146) (a5 : Int) : GoodL (f111.X k) (nthC 0 (loopsOf (bodyOf Try.f111))) (f111.l4.st xs3 xs4 a5) { α := (Bool ⊕ (Unit)), o := f111.l4 k k xs3 xs4 a5, w := f111.l4.w } :=
  loop_good (ι := (List S146) × (List S146) × Int) (α := (Bool ⊕ (Unit))) (fun i => f111.l4.st i.1 i.2.1 i.2.2) (fun j i => f111.l4 k j i.1 i.2.1 i.2.2) f111.l4.w (fun rec_ ret i => f111.l4.step k (fun xs3 xs4 a5 => rec_ (xs3, xs4, a5)) ret i.1 i.2.1 i.2.2)
    (fun _ => rfl) (fun _ _ => rfl) (fun rec_ g i => f111.l4.nat k _ g i.1 i.2.1 i.2.2) (fun {R} i0 i rec_ K => by kernel_rfl) k (xs3, xs4, a5)
theorem f111.l4.all (k : Nat) (S : St env) : GoodL (f111.X k) (nthC 0 (loopsOf (bodyOf Try.f111))) S (f111.l4.hd k S.ts S.m S.n) := by
  obtain ⟨ts_, m_, n_⟩ := S
  show GoodL _ _ _ (f111.l4.hd k ts_ m_ n_)
  unfold f111.l4.hd
  refine gTs_ok (p := GoodL _ _ _) goodL_no fun _ h => ?_
  subst h
  refine gV_ok (p := GoodL _ _ _) goodL_no fun _ _ h => ?_
  subst h
  refine rImm_ok (p := GoodL _ _ _) goodL_no fun _ h => ?_
  subst h
  refine gV_ok (p := GoodL _ _ _) goodL_no fun _ _ h => ?_
  subst h
  refine rImm_ok (p := GoodL _ _ _) goodL_no fun _ h => ?_
  subst h
  refine gV_ok (p := GoodL _ _ _) goodL_no fun _ _ h => ?_
  subst h
  refine rV_ok (p := GoodL _ _ _) goodL_no fun _ h => ?_
  subst h
  refine vI_ok (p := GoodL _ _ _) goodL_no fun _ h => ?_
  subst h
  refine gE_ok (p := GoodL _ _ _) goodL_no fun h => ?_
  subst h
  refine gE_ok (p := GoodL _ _ _) goodL_no fun h => ?_
  subst h
  refine gN_ok (p := GoodL _ _ _) goodL_no fun h => ?_
  subst h
  exact f111.l4.good k _ _ _
theorem f111.nat {R : Type} (k : Nat) (g : Bool → Option R) (xs1 : List S146) (xs2 : List S146) : f111.step k g xs1 xs2 = (f111 k xs1 xs2).bind g := by
  simp only [f111, f111.step, bind_ite, bind_sum, Option.bind_assoc, Option.bind_some, Option.bind_none]
theorem f111.ev (k : Nat) (xs1 : List S146) (xs2 : List S146) : evF (f111.X k) (bodyOf Try.f111) Try.f111.ntmps Try.f111.results.toList [.v (.c (.sl 146 xs1)), .v (.c (.sl 146 xs2))] = f111.step k (fun x => f111.w x some) xs1 xs2 := by kernel_rfl
theorem f111.hok (k : Nat) : HOK (f111.X k) (bodyOf Try.f111) where
  l := allP_mem (by exact ⟨ls_of (h0 := fun S => f111.l4.hd k S.ts S.m S.n) (by kernel_rfl) (f111.l4.all k), trivial⟩)
  j := allP_mem (by exact trivial)
theorem f111.sound0 (k : Nat) : SoundC env Try.prog 111 (f111.hd k) := by
  intro ps_
  show GoodC _ _ _ ps_ (f111.hd k ps_)
  unfold f111.hd
  refine gC_ok (p := GoodC env Try.prog 111 _) goodC_no fun _ _ h => ?_
  subst h
  refine qC_ok (p := GoodC env Try.prog 111 _) goodC_no fun _ h => ?_
  subst h
  refine qSl_ok (p := GoodC env Try.prog 111 _) goodC_no fun _ h => ?_
  subst h
  refine gC_ok (p := GoodC env Try.prog 111 _) goodC_no fun _ _ h => ?_
  subst h
  refine qC_ok (p := GoodC env Try.prog 111 _) goodC_no fun _ h => ?_
  subst h
  refine qSl_ok (p := GoodC env Try.prog 111 _) goodC_no fun _ h => ?_
  subst h
  refine gE_ok (p := GoodC env Try.prog 111 _) goodC_no fun h => ?_
  subst h
  exact fun_good (fun_sound envOK (cs_sound _ (by exact ⟨⟨f159.sound k, f159.fnok⟩, trivial⟩)) (f111.hok k) Try.func111 rfl) ((f111.ev k _ _).trans (f111.nat k _ _ _))
theorem f111.sound (k : Nat) : SoundC env Try.prog 111 (f111.e k).F := soundC_coer (f111.sound0 k) [[.rd 146], [.rd 146]]
theorem f111.says (k : Nat) (xs1 : List S146) (xs2 : List S146) (t12 : Bool) (h_ : f111 k xs1 xs2 = some t12) : SoundAt env Try.prog 111 [.v (.c (.sl 146 xs1)), .v (.c (.sl 146 xs2))] ⟨.v (.c (.s (.bool t12))), [[], []]⟩ :=
  fun_sound envOK (cs_sound _ (by exact ⟨⟨f159.sound k, f159.fnok⟩, trivial⟩)) (f111.hok k) Try.func111 rfl _ _ (((f111.ev k xs1 xs2).trans (f111.nat k _ xs1 xs2)).trans (by rw [h_]; rfl))
theorem f111.fnok : FnOK Try.prog 111 := fn_ok Try.func111 (by kernel_rfl) rfl
def f187.step {R : Type} (k : Nat) (ret : Bool → Option R) (a1 : Int) (a2 : Int) (a3 : Int) (a4 : Int) (a5 : Int) (a6 : Int) : Option R :=
  if (decide (a1 ≠ a4)) = true then
    ret false
  else
    if (decide (a2 ≠ a5)) = true then
      ret false
    else
      if (decide (a3 ≠ a6)) = true then
        ret false
      else
        ret true
def f187 (k : Nat) (a1 : Int) (a2 : Int) (a3 : Int) (a4 : Int) (a5 : Int) (a6 : Int) : Option Bool := f187.step k some a1 a2 a3 a4 a5 a6
def f187.w {R : Type} : Bool → (Res env → Option R) → Option R := fun t7 K => K ⟨.v (.c (.s (.bool t7))), [[], []]⟩
theorem f187.wn (x : Bool) : ∃ res, ∀ {R : Type} (K : Res env → Option R), f187.w x K = K res := by
  exact ⟨_, fun _ => rfl⟩
def f187.hd (k : Nat) (ps_ : List (P2 env)) : Cl env :=
  gC Cl.no ps_ fun p_ ps_ => qG Cl.no p_ fun cs_ => gC Cl.no cs_ fun c_ cs_ => qS Cl.no c_ fun v_ => vI Cl.no .i64 v_ fun a1 => gC Cl.no cs_ fun c_ cs_ => qS Cl.no c_ fun v_ => vI Cl.no .i64 v_ fun a2 => gC Cl.no cs_ fun c_ cs_ => qS Cl.no c_ fun v_ => vI Cl.no .i64 v_ fun a3 => gE Cl.no cs_ <| gC Cl.no ps_ fun p_ ps_ => qG Cl.no p_ fun cs_ => gC Cl.no cs_ fun c_ cs_ => qS Cl.no c_ fun v_ => vI Cl.no .i64 v_ fun a4 => gC Cl.no cs_ fun c_ cs_ => qS Cl.no c_ fun v_ => vI Cl.no .i64 v_ fun a5 => gC Cl.no cs_ fun c_ cs_ => qS Cl.no c_ fun v_ => vI Cl.no .i64 v_ fun a6 => gE Cl.no cs_ <| gE Cl.no ps_ <| { α := Bool, o := f187 k a1 a2 a3 a4 a5 a6, w := f187.w, nat := fun x _ => f187.wn x }
def f187.e (k : Nat) : Entry env := ⟨f187.hd k, [], []⟩
def f187.X (k : Nat) : Ctx env := { C := lookE [], L := lookE [], J := lookE [], keep := lookD [], keepX := lookD [], span := lookN [], eff := fun n => memN n [], prep := lookP [], np := 0 }
theorem f187.nat {R : Type} (k : Nat) (g : Bool → Option R) (a1 : Int) (a2 : Int) (a3 : Int) (a4 : Int) (a5 : Int) (a6 : Int) : f187.step k g a1 a2 a3 a4 a5 a6 = (f187 k a1 a2 a3 a4 a5 a6).bind g := by
  simp only [f187, f187.step, bind_ite, bind_sum, Option.bind_assoc, Option.bind_some, Option.bind_none]
theorem f187.ev (k : Nat) (a1 : Int) (a2 : Int) (a3 : Int) (a4 : Int) (a5 : Int) (a6 : Int) : evF (f187.X k) (bodyOf Try.f187) Try.f187.ntmps Try.f187.results.toList [.g [.s (.int .i64 a1), .s (.int .i64 a2), .s (.int .i64 a3)], .g [.s (.int .i64 a4), .s (.int .i64 a5), .s (.int .i64 a6)]] = f187.step k (fun x => f187.w x some) a1 a2 a3 a4 a5 a6 := by kernel_rfl
theorem f187.hok (k : Nat) : HOK (f187.X k) (bodyOf Try.f187) where
  l := allP_mem (by exact trivial)
  j := allP_mem (by exact trivial)
theorem f187.sound (k : Nat) : SoundC env Try.prog 187 ((f187.e k).F) := by
  intro ps_
  show GoodC _ _ _ ps_ (f187.hd k ps_)
  unfold f187.hd
  refine gC_ok (p := GoodC env Try.prog 187 _) goodC_no fun _ _ h => ?_
  subst h
  refine qG_ok (p := GoodC env Try.prog 187 _) goodC_no fun _ h => ?_
  subst h
  refine gC_ok (p := GoodC env Try.prog 187 _) goodC_no fun _ _ h => ?_
  subst h
  refine qS_ok (p := GoodC env Try.prog 187 _) goodC_no fun _ h => ?_
  subst h
  refine vI_ok (p := GoodC env Try.prog 187 _) goodC_no fun _ h => ?_
  subst h
  refine gC_ok (p := GoodC env Try.prog 187 _) goodC_no fun _ _ h => ?_
  subst h
  refine qS_ok (p := GoodC env Try.prog 187 _) goodC_no fun _ h => ?_
  subst h
  refine vI_ok (p := GoodC env Try.prog 187 _) goodC_no fun _ h => ?_
  subst h
  refine gC_ok (p := GoodC env Try.prog 187 _) goodC_no fun _ _ h => ?_
  subst h
  refine qS_ok (p := GoodC env Try.prog 187 _) goodC_no fun _ h => ?_
  subst h
  refine vI_ok (p := GoodC env Try.prog 187 _) goodC_no fun _ h => ?_
  subst h
  refine gE_ok (p := GoodC env Try.prog 187 _) goodC_no fun h => ?_
  subst h
  refine gC_ok (p := GoodC env Try.prog 187 _) goodC_no fun _ _ h => ?_
  subst h
  refine qG_ok (p := GoodC env Try.prog 187 _) goodC_no fun _ h => ?_
  subst h
  refine gC_ok (p := GoodC env Try.prog 187 _) goodC_no fun _ _ h => ?_
  subst h
  refine qS_ok (p := GoodC env Try.prog 187 _) goodC_no fun _ h => ?_
  subst h
  refine vI_ok (p := GoodC env Try.prog 187 _) goodC_no fun _ h => ?_
  subst h
  refine gC_ok (p := GoodC env Try.prog 187 _) goodC_no fun _ _ h => ?_
  subst h
  refine qS_ok (p := GoodC env Try.prog 187 _) goodC_no fun _ h => ?_
  subst h
  refine vI_ok (p := GoodC env Try.prog 187 _) goodC_no fun _ h => ?_
  subst h
  refine gC_ok (p := GoodC env Try.prog 187 _) goodC_no fun _ _ h => ?_
  subst h
  refine qS_ok (p := GoodC env Try.prog 187 _) goodC_no fun _ h => ?_
  subst h
  refine vI_ok (p := GoodC env Try.prog 187 _) goodC_no fun _ h => ?_
  subst h
  refine gE_ok (p := GoodC env Try.prog 187 _) goodC_no fun h => ?_
  subst h
  refine gE_ok (p := GoodC env Try.prog 187 _) goodC_no fun h => ?_
  subst h
  exact fun_good (fun_sound envOK (cs_sound _ (by exact trivial)) (f187.hok k) Try.func187 rfl) ((f187.ev k _ _ _ _ _ _).trans (f187.nat k _ _ _ _ _ _ _))
theorem f187.says (k : Nat) (a1 : Int) (a2 : Int) (a3 : Int) (a4 : Int) (a5 : Int) (a6 : Int) (t8 : Bool) (h_ : f187 k a1 a2 a3 a4 a5 a6 = some t8) : SoundAt env Try.prog 187 [.g [.s (.int .i64 a1), .s (.int .i64 a2), .s (.int .i64 a3)], .g [.s (.int .i64 a4), .s (.int .i64 a5), .s (.int .i64 a6)]] ⟨.v (.c (.s (.bool t8))), [[], []]⟩ :=
  fun_sound envOK (cs_sound _ (by exact trivial)) (f187.hok k) Try.func187 rfl _ _ (((f187.ev k a1 a2 a3 a4 a5 a6).trans (f187.nat k _ a1 a2 a3 a4 a5 a6)).trans (by rw [h_]; rfl))
theorem f187.fnok : FnOK Try.prog 187 := fn_ok Try.func187 (by kernel_rfl) rfl
def f160.l4.step {R : Type} (k : Nat) (rec_ : (List S142) → (List S142) → Int → Option R) (ret : (Bool ⊕ (Unit)) → Option R) (xs3 : List S142) (xs4 : List S142) (a5 : Int) : Option R :=
  if (decide (a5 < (((List.length xs3) : Nat) : Int))) = true then
    if (0 : Int) ≤ a5 then
      if a5 < ((List.length xs3 : Nat) : Int) then
        if (0 : Int) ≤ a5 then
          if a5 < ((List.length xs4 : Nat) : Int) then
            (f187 k (List.getD xs3 (Int.toNat a5) (⟨(0 : Int), (0 : Int), (0 : Int)⟩ : S142)).f0 (List.getD xs3 (Int.toNat a5) (⟨(0 : Int), (0 : Int), (0 : Int)⟩ : S142)).f1 (List.getD xs3 (Int.toNat a5) (⟨(0 : Int), (0 : Int), (0 : Int)⟩ : S142)).f2 (List.getD xs4 (Int.toNat a5) (⟨(0 : Int), (0 : Int), (0 : Int)⟩ : S142)).f0 (List.getD xs4 (Int.toNat a5) (⟨(0 : Int), (0 : Int), (0 : Int)⟩ : S142)).f1 (List.getD xs4 (Int.toNat a5) (⟨(0 : Int), (0 : Int), (0 : Int)⟩ : S142)).f2).bind fun t6 => if (!t6) = true then
                ret (.inl false)
              else
                rec_ xs3 xs4 (IntKind.i64.wrap (a5 + (1 : Int)))
          else none
        else none
      else none
    else none
  else
    ret (.inr ())
def f160.l4 (k : Nat) : Nat → (List S142) → (List S142) → Int → Option (Bool ⊕ (Unit))
  | 0, _, _, _ => none
  | j + 1, xs3, xs4, a5 => f160.l4.step k (fun xs3 xs4 a5 => f160.l4 k j xs3 xs4 a5) some xs3 xs4 a5
def f160.l4.w {R : Type} : (Bool ⊕ (Unit)) → (Exit → St env → Option R) → Option R := fun x K => Sum.elim (fun t9 => K .ret ⟨fullT [4] 0 27 [.v (.c (.s (.bool t9)))], [], 402⟩) (fun t10 => K (.exit 0) ⟨fullT [] 0 27 [], [], 402⟩) x
def f160.l4.st (xs3 : List S142) (xs4 : List S142) (a5 : Int) : St env := ⟨fullT [0, 1, 5] 0 27 [.v (.c (.imm 142 xs3)), .v (.c (.imm 142 xs4)), .v (.c (.s (.int .i64 a5)))], [], 114⟩
def f160.l4.hd (k : Nat) (ts_ : List (AV env)) (mm_ : Mem env) (n_ : Nat) : LCl env :=
  gTs LCl.no [0, 1, 5] 27 ts_ fun l_ => gV LCl.no l_ fun a_ l_ => rImm LCl.no 142 a_ fun xs3 => gV LCl.no l_ fun a_ l_ => rImm LCl.no 142 a_ fun xs4 => gV LCl.no l_ fun a_ l_ => rV LCl.no a_ fun v_ => vI LCl.no .i64 v_ fun a5 => gE LCl.no l_ <| gE LCl.no mm_ <| gN LCl.no 114 n_ { α := Bool ⊕ (Unit), o := f160.l4 k k xs3 xs4 a5, w := f160.l4.w }
def f160.step {R : Type} (k : Nat) (ret : Bool → Option R) (xs1 : List S142) (xs2 : List S142) : Option R :=
  if (decide ((((List.length xs1) : Nat) : Int) ≠ (((List.length xs2) : Nat) : Int))) = true then
    ret false
  else
    (f160.l4 k k xs1 xs2 (0 : Int)).bind (Sum.elim (fun t7 => ret t7) (fun t8 => ret true))
def f160 (k : Nat) (xs1 : List S142) (xs2 : List S142) : Option Bool := f160.step k some xs1 xs2
def f160.w {R : Type} : Bool → (Res env → Option R) → Option R := fun t11 K => K ⟨.v (.c (.s (.bool t11))), [[], []]⟩
theorem f160.wn (x : Bool) : ∃ res, ∀ {R : Type} (K : Res env → Option R), f160.w x K = K res := by
  exact ⟨_, fun _ => rfl⟩
def f160.hd (k : Nat) (ps_ : List (P2 env)) : Cl env :=
  gC Cl.no ps_ fun p_ ps_ => qC Cl.no p_ fun c_ => qSl Cl.no 142 c_ fun xs1 => gC Cl.no ps_ fun p_ ps_ => qC Cl.no p_ fun c_ => qSl Cl.no 142 c_ fun xs2 => gE Cl.no ps_ <| { α := Bool, o := f160 k xs1 xs2, w := f160.w, nat := fun x _ => f160.wn x }
def f160.e (k : Nat) : Entry env := ⟨fun ps => f160.hd k (coer [[.rd 142], [.rd 142]] ps), [], []⟩
def f160.X (k : Nat) : Ctx env := { C := lookE [(187, f187.e k)], L := lookE [(4, fun S => f160.l4.hd k S.ts S.m S.n)], J := lookE [], keep := lookD [(4, [0, 1, 5])], keepX := lookD [(4, [4])], span := lookN [(4, 288)], eff := fun n => memN n [], prep := lookP [], np := 0 }
theorem f160.l4.nat {R : Type} (k : Nat) (rec_ : (List S142) → (List S142) → Int → Option (Bool ⊕ (Unit))) (g : (Bool ⊕ (Unit)) → Option R) (xs3 : List S142) (xs4 : List S142) (a5 : Int) : (f160.l4.step k rec_ some xs3 xs4 a5).bind g = f160.l4.step k (fun xs3 xs4 a5 => (rec_ xs3 xs4 a5).bind g) g xs3 xs4 a5 := by
  simp only [f160.l4.step, bind_ite, bind_sum, Option.bind_assoc, Option.bind_some, Option.bind_none]
theorem f160.l4.good (k : Nat) (xs3 : List S142) (xs4 : List S142) (a5 : Int) : GoodL (f160.X k) (nthC 0 (loopsOf (bodyOf Try.f160))) (f160.l4.st xs3 xs4 a5) { α := (Bool ⊕ (Unit)), o := f160.l4 k k xs3 xs4 a5, w := f160.l4.w } :=
  loop_good (ι := (List S142) × (List S142) × Int) (α := (Bool ⊕ (Unit))) (fun i => f160.l4.st i.1 i.2.1 i.2.2) (fun j i => f160.l4 k j i.1 i.2.1 i.2.2) f160.l4.w (fun rec_ ret i => f160.l4.step k (fun xs3 xs4 a5 => rec_ (xs3, xs4, a5)) ret i.1 i.2.1 i.2.2)
    (fun _ => rfl) (fun _ _ => rfl) (fun rec_ g i => f160.l4.nat k _ g i.1 i.2.1 i.2.2) (fun {R} i0 i rec_ K => by kernel_rfl) k (xs3, xs4, a5)
theorem f160.l4.all (k : Nat) (S : St env) : GoodL (f160.X k) (nthC 0 (loopsOf (bodyOf Try.f160))) S (f160.l4.hd k S.ts S.m S.n) := by
  obtain ⟨ts_, m_, n_⟩ := S
  show GoodL _ _ _ (f160.l4.hd k ts_ m_ n_)
  unfold f160.l4.hd
  refine gTs_ok (p := GoodL _ _ _) goodL_no fun _ h => ?_
  subst h
  refine gV_ok (p := GoodL _ _ _) goodL_no fun _ _ h => ?_
  subst h
  refine rImm_ok (p := GoodL _ _ _) goodL_no fun _ h => ?_
  subst h
  refine gV_ok (p := GoodL _ _ _) goodL_no fun _ _ h => ?_
  subst h
  refine rImm_ok (p := GoodL _ _ _) goodL_no fun _ h => ?_
  subst h
  refine gV_ok (p := GoodL _ _ _) goodL_no fun _ _ h => ?_
  subst h
  refine rV_ok (p := GoodL _ _ _) goodL_no fun _ h => ?_
  subst h
  refine vI_ok (p := GoodL _ _ _) goodL_no fun _ h => ?_
  subst h
  refine gE_ok (p := GoodL _ _ _) goodL_no fun h => ?_
  subst h
  refine gE_ok (p := GoodL _ _ _) goodL_no fun h => ?_
  subst h
  refine gN_ok (p := GoodL _ _ _) goodL_no fun h => ?_
  subst h
  exact f160.l4.good k _ _ _
theorem f160.nat {R : Type} (k : Nat) (g : Bool → Option R) (xs1 : List S142) (xs2 : List S142) : f160.step k g xs1 xs2 = (f160 k xs1 xs2).bind g := by
  simp only [f160, f160.step, bind_ite, bind_sum, Option.bind_assoc, Option.bind_some, Option.bind_none]
theorem f160.ev (k : Nat) (xs1 : List S142) (xs2 : List S142) : evF (f160.X k) (bodyOf Try.f160) Try.f160.ntmps Try.f160.results.toList [.v (.c (.sl 142 xs1)), .v (.c (.sl 142 xs2))] = f160.step k (fun x => f160.w x some) xs1 xs2 := by kernel_rfl
theorem f160.hok (k : Nat) : HOK (f160.X k) (bodyOf Try.f160) where
  l := allP_mem (by exact ⟨ls_of (h0 := fun S => f160.l4.hd k S.ts S.m S.n) (by kernel_rfl) (f160.l4.all k), trivial⟩)
  j := allP_mem (by exact trivial)
theorem f160.sound0 (k : Nat) : SoundC env Try.prog 160 (f160.hd k) := by
  intro ps_
  show GoodC _ _ _ ps_ (f160.hd k ps_)
  unfold f160.hd
  refine gC_ok (p := GoodC env Try.prog 160 _) goodC_no fun _ _ h => ?_
  subst h
  refine qC_ok (p := GoodC env Try.prog 160 _) goodC_no fun _ h => ?_
  subst h
  refine qSl_ok (p := GoodC env Try.prog 160 _) goodC_no fun _ h => ?_
  subst h
  refine gC_ok (p := GoodC env Try.prog 160 _) goodC_no fun _ _ h => ?_
  subst h
  refine qC_ok (p := GoodC env Try.prog 160 _) goodC_no fun _ h => ?_
  subst h
  refine qSl_ok (p := GoodC env Try.prog 160 _) goodC_no fun _ h => ?_
  subst h
  refine gE_ok (p := GoodC env Try.prog 160 _) goodC_no fun h => ?_
  subst h
  exact fun_good (fun_sound envOK (cs_sound _ (by exact ⟨⟨f187.sound k, f187.fnok⟩, trivial⟩)) (f160.hok k) Try.func160 rfl) ((f160.ev k _ _).trans (f160.nat k _ _ _))
theorem f160.sound (k : Nat) : SoundC env Try.prog 160 (f160.e k).F := soundC_coer (f160.sound0 k) [[.rd 142], [.rd 142]]
theorem f160.says (k : Nat) (xs1 : List S142) (xs2 : List S142) (t12 : Bool) (h_ : f160 k xs1 xs2 = some t12) : SoundAt env Try.prog 160 [.v (.c (.sl 142 xs1)), .v (.c (.sl 142 xs2))] ⟨.v (.c (.s (.bool t12))), [[], []]⟩ :=
  fun_sound envOK (cs_sound _ (by exact ⟨⟨f187.sound k, f187.fnok⟩, trivial⟩)) (f160.hok k) Try.func160 rfl _ _ (((f160.ev k xs1 xs2).trans (f160.nat k _ xs1 xs2)).trans (by rw [h_]; rfl))
theorem f160.fnok : FnOK Try.prog 160 := fn_ok Try.func160 (by kernel_rfl) rfl
def f112.l4.step {R : Type} (k : Nat) (rec_ : (List (List S142)) → (List (List S142)) → Int → Option R) (ret : (Bool ⊕ (Unit)) → Option R) (xs3 : List (List S142)) (xs4 : List (List S142)) (a5 : Int) : Option R :=
  if (decide (a5 < (((List.length xs3) : Nat) : Int))) = true then
    if (0 : Int) ≤ a5 then
      if a5 < ((List.length xs3 : Nat) : Int) then
        if (0 : Int) ≤ a5 then
          if a5 < ((List.length xs4 : Nat) : Int) then
            (f160 k (List.getD xs3 (Int.toNat a5) []) (List.getD xs4 (Int.toNat a5) [])).bind fun t6 => if (!t6) = true then
                ret (.inl false)
              else
                rec_ xs3 xs4 (IntKind.i64.wrap (a5 + (1 : Int)))
          else none
        else none
      else none
    else none
  else
    ret (.inr ())
def f112.l4 (k : Nat) : Nat → (List (List S142)) → (List (List S142)) → Int → Option (Bool ⊕ (Unit))
  | 0, _, _, _ => none
  | j + 1, xs3, xs4, a5 => f112.l4.step k (fun xs3 xs4 a5 => f112.l4 k j xs3 xs4 a5) some xs3 xs4 a5
def f112.l4.w {R : Type} : (Bool ⊕ (Unit)) → (Exit → St env → Option R) → Option R := fun x K => Sum.elim (fun t9 => K .ret ⟨fullT [4] 0 27 [.v (.c (.s (.bool t9)))], [], 402⟩) (fun t10 => K (.exit 0) ⟨fullT [] 0 27 [], [], 402⟩) x
def f112.l4.st (xs3 : List (List S142)) (xs4 : List (List S142)) (a5 : Int) : St env := ⟨fullT [0, 1, 5] 0 27 [.v (.c (.imm 140 xs3)), .v (.c (.imm 140 xs4)), .v (.c (.s (.int .i64 a5)))], [], 114⟩
def f112.l4.hd (k : Nat) (ts_ : List (AV env)) (mm_ : Mem env) (n_ : Nat) : LCl env :=
  gTs LCl.no [0, 1, 5] 27 ts_ fun l_ => gV LCl.no l_ fun a_ l_ => rImm LCl.no 140 a_ fun xs3 => gV LCl.no l_ fun a_ l_ => rImm LCl.no 140 a_ fun xs4 => gV LCl.no l_ fun a_ l_ => rV LCl.no a_ fun v_ => vI LCl.no .i64 v_ fun a5 => gE LCl.no l_ <| gE LCl.no mm_ <| gN LCl.no 114 n_ { α := Bool ⊕ (Unit), o := f112.l4 k k xs3 xs4 a5, w := f112.l4.w }
def f112.step {R : Type} (k : Nat) (ret : Bool → Option R) (xs1 : List (List S142)) (xs2 : List (List S142)) : Option R :=
  if (decide ((((List.length xs1) : Nat) : Int) ≠ (((List.length xs2) : Nat) : Int))) = true then
    ret false
  else
    (f112.l4 k k xs1 xs2 (0 : Int)).bind (Sum.elim (fun t7 => ret t7) (fun t8 => ret true))
def f112 (k : Nat) (xs1 : List (List S142)) (xs2 : List (List S142)) : Option Bool := f112.step k some xs1 xs2
def f112.w {R : Type} : Bool → (Res env → Option R) → Option R := fun t11 K => K ⟨.v (.c (.s (.bool t11))), [[], []]⟩
theorem f112.wn (x : Bool) : ∃ res, ∀ {R : Type} (K : Res env → Option R), f112.w x K = K res := by
  exact ⟨_, fun _ => rfl⟩
def f112.hd (k : Nat) (ps_ : List (P2 env)) : Cl env :=
  gC Cl.no ps_ fun p_ ps_ => qC Cl.no p_ fun c_ => qSl Cl.no 140 c_ fun xs1 => gC Cl.no ps_ fun p_ ps_ => qC Cl.no p_ fun c_ => qSl Cl.no 140 c_ fun xs2 => gE Cl.no ps_ <| { α := Bool, o := f112 k xs1 xs2, w := f112.w, nat := fun x _ => f112.wn x }
def f112.e (k : Nat) : Entry env := ⟨fun ps => f112.hd k (coer [[.rd 140], [.rd 140]] ps), [], []⟩
def f112.X (k : Nat) : Ctx env := { C := lookE [(160, f160.e k)], L := lookE [(4, fun S => f112.l4.hd k S.ts S.m S.n)], J := lookE [], keep := lookD [(4, [0, 1, 5])], keepX := lookD [(4, [4])], span := lookN [(4, 288)], eff := fun n => memN n [], prep := lookP [], np := 0 }
theorem f112.l4.nat {R : Type} (k : Nat) (rec_ : (List (List S142)) → (List (List S142)) → Int → Option (Bool ⊕ (Unit))) (g : (Bool ⊕ (Unit)) → Option R) (xs3 : List (List S142)) (xs4 : List (List S142)) (a5 : Int) : (f112.l4.step k rec_ some xs3 xs4 a5).bind g = f112.l4.step k (fun xs3 xs4 a5 => (rec_ xs3 xs4 a5).bind g) g xs3 xs4 a5 := by
  simp only [f112.l4.step, bind_ite, bind_sum, Option.bind_assoc, Option.bind_some, Option.bind_none]
theorem f112.l4.good (k : Nat) (xs3 : List (List S142)) (xs4 : List (List S142)) (a5 : Int) : GoodL (f112.X k) (nthC 0 (loopsOf (bodyOf Try.f112))) (f112.l4.st xs3 xs4 a5) { α := (Bool ⊕ (Unit)), o := f112.l4 k k xs3 xs4 a5, w := f112.l4.w } :=
  loop_good (ι := (List (List S142)) × (List (List S142)) × Int) (α := (Bool ⊕ (Unit))) (fun i => f112.l4.st i.1 i.2.1 i.2.2) (fun j i => f112.l4 k j i.1 i.2.1 i.2.2) f112.l4.w (fun rec_ ret i => f112.l4.step k (fun xs3 xs4 a5 => rec_ (xs3, xs4, a5)) ret i.1 i.2.1 i.2.2)
    (fun _ => rfl) (fun _ _ => rfl) (fun rec_ g i => f112.l4.nat k _ g i.1 i.2.1 i.2.2) (fun {R} i0 i rec_ K => by kernel_rfl) k (xs3, xs4, a5)
theorem f112.l4.all (k : Nat) (S : St env) : GoodL (f112.X k) (nthC 0 (loopsOf (bodyOf Try.f112))) S (f112.l4.hd k S.ts S.m S.n) := by
  obtain ⟨ts_, m_, n_⟩ := S
  show GoodL _ _ _ (f112.l4.hd k ts_ m_ n_)
  unfold f112.l4.hd
  refine gTs_ok (p := GoodL _ _ _) goodL_no fun _ h => ?_
  subst h
  refine gV_ok (p := GoodL _ _ _) goodL_no fun _ _ h => ?_
  subst h
  refine rImm_ok (p := GoodL _ _ _) goodL_no fun _ h => ?_
  subst h
  refine gV_ok (p := GoodL _ _ _) goodL_no fun _ _ h => ?_
  subst h
  refine rImm_ok (p := GoodL _ _ _) goodL_no fun _ h => ?_
  subst h
  refine gV_ok (p := GoodL _ _ _) goodL_no fun _ _ h => ?_
  subst h
  refine rV_ok (p := GoodL _ _ _) goodL_no fun _ h => ?_
  subst h
  refine vI_ok (p := GoodL _ _ _) goodL_no fun _ h => ?_
  subst h
  refine gE_ok (p := GoodL _ _ _) goodL_no fun h => ?_
  subst h
  refine gE_ok (p := GoodL _ _ _) goodL_no fun h => ?_
  subst h
  refine gN_ok (p := GoodL _ _ _) goodL_no fun h => ?_
  subst h
  exact f112.l4.good k _ _ _
theorem f112.nat {R : Type} (k : Nat) (g : Bool → Option R) (xs1 : List (List S142)) (xs2 : List (List S142)) : f112.step k g xs1 xs2 = (f112 k xs1 xs2).bind g := by
  simp only [f112, f112.step, bind_ite, bind_sum, Option.bind_assoc, Option.bind_some, Option.bind_none]
theorem f112.ev (k : Nat) (xs1 : List (List S142)) (xs2 : List (List S142)) : evF (f112.X k) (bodyOf Try.f112) Try.f112.ntmps Try.f112.results.toList [.v (.c (.sl 140 xs1)), .v (.c (.sl 140 xs2))] = f112.step k (fun x => f112.w x some) xs1 xs2 := by kernel_rfl
theorem f112.hok (k : Nat) : HOK (f112.X k) (bodyOf Try.f112) where
  l := allP_mem (by exact ⟨ls_of (h0 := fun S => f112.l4.hd k S.ts S.m S.n) (by kernel_rfl) (f112.l4.all k), trivial⟩)
  j := allP_mem (by exact trivial)
theorem f112.sound0 (k : Nat) : SoundC env Try.prog 112 (f112.hd k) := by
  intro ps_
  show GoodC _ _ _ ps_ (f112.hd k ps_)
  unfold f112.hd
  refine gC_ok (p := GoodC env Try.prog 112 _) goodC_no fun _ _ h => ?_
  subst h
  refine qC_ok (p := GoodC env Try.prog 112 _) goodC_no fun _ h => ?_
  subst h
  refine qSl_ok (p := GoodC env Try.prog 112 _) goodC_no fun _ h => ?_
  subst h
  refine gC_ok (p := GoodC env Try.prog 112 _) goodC_no fun _ _ h => ?_
  subst h
  refine qC_ok (p := GoodC env Try.prog 112 _) goodC_no fun _ h => ?_
  subst h
  refine qSl_ok (p := GoodC env Try.prog 112 _) goodC_no fun _ h => ?_
  subst h
  refine gE_ok (p := GoodC env Try.prog 112 _) goodC_no fun h => ?_
  subst h
  exact fun_good (fun_sound envOK (cs_sound _ (by exact ⟨⟨f160.sound k, f160.fnok⟩, trivial⟩)) (f112.hok k) Try.func112 rfl) ((f112.ev k _ _).trans (f112.nat k _ _ _))
theorem f112.sound (k : Nat) : SoundC env Try.prog 112 (f112.e k).F := soundC_coer (f112.sound0 k) [[.rd 140], [.rd 140]]
theorem f112.says (k : Nat) (xs1 : List (List S142)) (xs2 : List (List S142)) (t12 : Bool) (h_ : f112 k xs1 xs2 = some t12) : SoundAt env Try.prog 112 [.v (.c (.sl 140 xs1)), .v (.c (.sl 140 xs2))] ⟨.v (.c (.s (.bool t12))), [[], []]⟩ :=
  fun_sound envOK (cs_sound _ (by exact ⟨⟨f160.sound k, f160.fnok⟩, trivial⟩)) (f112.hok k) Try.func112 rfl _ _ (((f112.ev k xs1 xs2).trans (f112.nat k _ xs1 xs2)).trans (by rw [h_]; rfl))
theorem f112.fnok : FnOK Try.prog 112 := fn_ok Try.func112 (by kernel_rfl) rfl
def f45.step {R : Type} (k : Nat) (ret : Bool → Option R) (xs1 : List S146) (xs2 : List (List S142)) (a3 : Int) (xs4 : List S146) (xs5 : List (List S142)) (a6 : Int) : Option R :=
  (f111 k xs1 xs4).bind fun t7 => if (!t7) = true then
      ret false
    else
      (f112 k xs2 xs5).bind fun t8 => if (!t8) = true then
          ret false
        else
          if (decide (a3 ≠ a6)) = true then
            ret false
          else
            ret true
def f45 (k : Nat) (xs1 : List S146) (xs2 : List (List S142)) (a3 : Int) (xs4 : List S146) (xs5 : List (List S142)) (a6 : Int) : Option Bool := f45.step k some xs1 xs2 a3 xs4 xs5 a6
def f45.w {R : Type} : Bool → (Res env → Option R) → Option R := fun t9 K => K ⟨.v (.c (.s (.bool t9))), [[], []]⟩
theorem f45.wn (x : Bool) : ∃ res, ∀ {R : Type} (K : Res env → Option R), f45.w x K = K res := by
  exact ⟨_, fun _ => rfl⟩
def f45.hd (k : Nat) (ps_ : List (P2 env)) : Cl env :=
  gC Cl.no ps_ fun p_ ps_ => qG Cl.no p_ fun cs_ => gC Cl.no cs_ fun c_ cs_ => qSl Cl.no 146 c_ fun xs1 => gC Cl.no cs_ fun c_ cs_ => qSl Cl.no 140 c_ fun xs2 => gC Cl.no cs_ fun c_ cs_ => qS Cl.no c_ fun v_ => vI Cl.no .i64 v_ fun a3 => gE Cl.no cs_ <| gC Cl.no ps_ fun p_ ps_ => qG Cl.no p_ fun cs_ => gC Cl.no cs_ fun c_ cs_ => qSl Cl.no 146 c_ fun xs4 => gC Cl.no cs_ fun c_ cs_ => qSl Cl.no 140 c_ fun xs5 => gC Cl.no cs_ fun c_ cs_ => qS Cl.no c_ fun v_ => vI Cl.no .i64 v_ fun a6 => gE Cl.no cs_ <| gE Cl.no ps_ <| { α := Bool, o := f45 k xs1 xs2 a3 xs4 xs5 a6, w := f45.w, nat := fun x _ => f45.wn x }
def f45.e (k : Nat) : Entry env := ⟨fun ps => f45.hd k (coer [[.rd 146, .rd 140, .no], [.rd 146, .rd 140, .no]] ps), [], []⟩
def f45.X (k : Nat) : Ctx env := { C := lookE [(111, f111.e k), (112, f112.e k)], L := lookE [], J := lookE [], keep := lookD [], keepX := lookD [], span := lookN [], eff := fun n => memN n [], prep := lookP [], np := 0 }
theorem f45.nat {R : Type} (k : Nat) (g : Bool → Option R) (xs1 : List S146) (xs2 : List (List S142)) (a3 : Int) (xs4 : List S146) (xs5 : List (List S142)) (a6 : Int) : f45.step k g xs1 xs2 a3 xs4 xs5 a6 = (f45 k xs1 xs2 a3 xs4 xs5 a6).bind g := by
  simp only [f45, f45.step, bind_ite, bind_sum, Option.bind_assoc, Option.bind_some, Option.bind_none]
theorem f45.ev (k : Nat) (xs1 : List S146) (xs2 : List (List S142)) (a3 : Int) (xs4 : List S146) (xs5 : List (List S142)) (a6 : Int) : evF (f45.X k) (bodyOf Try.f45) Try.f45.ntmps Try.f45.results.toList [.g [.sl 146 xs1, .sl 140 xs2, .s (.int .i64 a3)], .g [.sl 146 xs4, .sl 140 xs5, .s (.int .i64 a6)]] = f45.step k (fun x => f45.w x some) xs1 xs2 a3 xs4 xs5 a6 := by kernel_rfl
theorem f45.hok (k : Nat) : HOK (f45.X k) (bodyOf Try.f45) where
  l := allP_mem (by exact trivial)
  j := allP_mem (by exact trivial)
theorem f45.sound0 (k : Nat) : SoundC env Try.prog 45 (f45.hd k) := by
  intro ps_
  show GoodC _ _ _ ps_ (f45.hd k ps_)
  unfold f45.hd
  refine gC_ok (p := GoodC env Try.prog 45 _) goodC_no fun _ _ h => ?_
  subst h
  refine qG_ok (p := GoodC env Try.prog 45 _) goodC_no fun _ h => ?_
  subst h
  refine gC_ok (p := GoodC env Try.prog 45 _) goodC_no fun _ _ h => ?_
  subst h
  refine qSl_ok (p := GoodC env Try.prog 45 _) goodC_no fun _ h => ?_
  subst h
  refine gC_ok (p := GoodC env Try.prog 45 _) goodC_no fun _ _ h => ?_
  subst h
  refine qSl_ok (p := GoodC env Try.prog 45 _) goodC_no fun _ h => ?_
  subst h
  refine gC_ok (p := GoodC env Try.prog 45 _) goodC_no fun _ _ h => ?_
  subst h
  refine qS_ok (p := GoodC env Try.prog 45 _) goodC_no fun _ h => ?_
  subst h
  refine vI_ok (p := GoodC env Try.prog 45 _) goodC_no fun _ h => ?_
  subst h
  refine gE_ok (p := GoodC env Try.prog 45 _) goodC_no fun h => ?_
  subst h
  refine gC_ok (p := GoodC env Try.prog 45 _) goodC_no fun _ _ h => ?_
  subst h
  refine qG_ok (p := GoodC env Try.prog 45 _) goodC_no fun _ h => ?_
  subst h
  refine gC_ok (p := GoodC env Try.prog 45 _) goodC_no fun _ _ h => ?_
  subst h
  refine qSl_ok (p := GoodC env Try.prog 45 _) goodC_no fun _ h => ?_
  subst h
  refine gC_ok (p := GoodC env Try.prog 45 _) goodC_no fun _ _ h => ?_
  subst h
  refine qSl_ok (p := GoodC env Try.prog 45 _) goodC_no fun _ h => ?_
  subst h
  refine gC_ok (p := GoodC env Try.prog 45 _) goodC_no fun _ _ h => ?_
  subst h
  refine qS_ok (p := GoodC env Try.prog 45 _) goodC_no fun _ h => ?_
  subst h
  refine vI_ok (p := GoodC env Try.prog 45 _) goodC_no fun _ h => ?_
  subst h
  refine gE_ok (p := GoodC env Try.prog 45 _) goodC_no fun h => ?_
  subst h
  refine gE_ok (p := GoodC env Try.prog 45 _) goodC_no fun h => ?_
  subst h
  exact fun_good (fun_sound envOK (cs_sound _ (by exact ⟨⟨f111.sound k, f111.fnok⟩, ⟨f112.sound k, f112.fnok⟩, trivial⟩)) (f45.hok k) Try.func45 rfl) ((f45.ev k _ _ _ _ _ _).trans (f45.nat k _ _ _ _ _ _ _))
theorem f45.sound (k : Nat) : SoundC env Try.prog 45 (f45.e k).F := soundC_coer (f45.sound0 k) [[.rd 146, .rd 140, .no], [.rd 146, .rd 140, .no]]
theorem f45.says (k : Nat) (xs1 : List S146) (xs2 : List (List S142)) (a3 : Int) (xs4 : List S146) (xs5 : List (List S142)) (a6 : Int) (t10 : Bool) (h_ : f45 k xs1 xs2 a3 xs4 xs5 a6 = some t10) : SoundAt env Try.prog 45 [.g [.sl 146 xs1, .sl 140 xs2, .s (.int .i64 a3)], .g [.sl 146 xs4, .sl 140 xs5, .s (.int .i64 a6)]] ⟨.v (.c (.s (.bool t10))), [[], []]⟩ :=
  fun_sound envOK (cs_sound _ (by exact ⟨⟨f111.sound k, f111.fnok⟩, ⟨f112.sound k, f112.fnok⟩, trivial⟩)) (f45.hok k) Try.func45 rfl _ _ (((f45.ev k xs1 xs2 a3 xs4 xs5 a6).trans (f45.nat k _ xs1 xs2 a3 xs4 xs5 a6)).trans (by rw [h_]; rfl))
theorem f45.fnok : FnOK Try.prog 45 := fn_ok Try.func45 (by kernel_rfl) rfl
def f131.l2.step {R : Type} (k : Nat) (rec_ : Int → Int → (List S146) → Option R) (ret : (Int × (List S146)) → Option R) (a3 : Int) (a4 : Int) (xs5 : List S146) : Option R :=
  if (decide (a4 < (((List.length xs5) : Nat) : Int))) = true then
    if (0 : Int) ≤ a4 then
      if a4 < ((List.length xs5 : Nat) : Int) then
        if (0 : Int) ≤ a4 then
          if a4 < ((List.length (set146 xs5 (Int.toNat a4) 0 [.s (.int .i64 a3)]) : Nat) : Int) then
            if (0 : Int) ≤ a4 then
              if a4 < ((List.length (set146 (set146 xs5 (Int.toNat a4) 0 [.s (.int .i64 a3)]) (Int.toNat a4) 1 [.s (.int .i64 (IntKind.i64.wrap (a3 + (1 : Int))))]) : Nat) : Int) then
                if (0 : Int) ≤ a4 then
                  if a4 < ((List.length (set146 (set146 (set146 xs5 (Int.toNat a4) 0 [.s (.int .i64 a3)]) (Int.toNat a4) 1 [.s (.int .i64 (IntKind.i64.wrap (a3 + (1 : Int))))]) (Int.toNat a4) 2 [.s (.int .i64 (IntKind.i64.wrap ((IntKind.i64.wrap (a3 + (1 : Int))) + (1 : Int))))]) : Nat) : Int) then
                    rec_ (IntKind.i64.wrap ((IntKind.i64.wrap ((IntKind.i64.wrap ((IntKind.i64.wrap (a3 + (1 : Int))) + (1 : Int))) + (1 : Int))) + (1 : Int))) (IntKind.i64.wrap (a4 + (1 : Int))) (set146 (set146 (set146 (set146 xs5 (Int.toNat a4) 0 [.s (.int .i64 a3)]) (Int.toNat a4) 1 [.s (.int .i64 (IntKind.i64.wrap (a3 + (1 : Int))))]) (Int.toNat a4) 2 [.s (.int .i64 (IntKind.i64.wrap ((IntKind.i64.wrap (a3 + (1 : Int))) + (1 : Int))))]) (Int.toNat a4) 3 [.s (.bool (decide ((Int.tmod (IntKind.i64.wrap ((IntKind.i64.wrap ((IntKind.i64.wrap (a3 + (1 : Int))) + (1 : Int))) + (1 : Int))) (3 : Int)) = (0 : Int))))])
                  else none
                else none
              else none
            else none
          else none
        else none
      else none
    else none
  else
    ret (a3, xs5)
def f131.l2 (k : Nat) : Nat → Int → Int → (List S146) → Option (Int × (List S146))
  | 0, _, _, _ => none
  | j + 1, a3, a4, xs5 => f131.l2.step k (fun a3 a4 xs5 => f131.l2 k j a3 a4 xs5) some a3 a4 xs5
def f131.l2.w {R : Type} : (Int × (List S146)) → (Exit → St env → Option R) → Option R := fun t7 K => K (.exit 0) ⟨fullT [0, 1] 0 43 [.v (.c (.row 2)), .v (.c (.s (.int .i64 t7.1)))], [(2, .row true 146 t7.2)], 882⟩
def f131.l2.st (a3 : Int) (a4 : Int) (xs5 : List S146) : St env := ⟨fullT [0, 1, 5] 0 43 [.v (.c (.row 2)), .v (.c (.s (.int .i64 a3))), .v (.c (.s (.int .i64 a4)))], [(2, .row true 146 xs5)], 162⟩
def f131.l2.hd (k : Nat) (ts_ : List (AV env)) (mm_ : Mem env) (n_ : Nat) : LCl env :=
  gTs LCl.no [0, 1, 5] 43 ts_ fun l_ => gV LCl.no l_ fun a_ l_ => rRow LCl.no 2 a_ <| gV LCl.no l_ fun a_ l_ => rV LCl.no a_ fun v_ => vI LCl.no .i64 v_ fun a3 => gV LCl.no l_ fun a_ l_ => rV LCl.no a_ fun v_ => vI LCl.no .i64 v_ fun a4 => gE LCl.no l_ <| mRow LCl.no 2 true 146 mm_ fun xs5 m_ => gE LCl.no m_ <| gN LCl.no 162 n_ { α := Int × (List S146), o := f131.l2 k k a3 a4 xs5, w := f131.l2.w }
def f131.step {R : Type} (k : Nat) (ret : (Int × (List S146)) → Option R) (xs1 : List S146) (a2 : Int) : Option R :=
  (f131.l2 k k a2 (0 : Int) xs1).bind fun t6 => ret (t6.1, t6.2)
def f131 (k : Nat) (xs1 : List S146) (a2 : Int) : Option (Int × (List S146)) := f131.step k some xs1 a2
def f131.w {R : Type} : (Int × (List S146)) → (Res env → Option R) → Option R := fun t8 K => K ⟨.v (.c (.s (.int .i64 t8.1))), [[.sl 146 t8.2], []]⟩
theorem f131.wn (x : (Int × (List S146))) : ∃ res, ∀ {R : Type} (K : Res env → Option R), f131.w x K = K res := by
  exact ⟨_, fun _ => rfl⟩
def f131.hd (k : Nat) (ps_ : List (P2 env)) : Cl env :=
  gC Cl.no ps_ fun p_ ps_ => qC Cl.no p_ fun c_ => qWr Cl.no 146 c_ fun xs1 => gC Cl.no ps_ fun p_ ps_ => qC Cl.no p_ fun c_ => qS Cl.no c_ fun v_ => vI Cl.no .i64 v_ fun a2 => gE Cl.no ps_ <| { α := Int × (List S146), o := f131 k xs1 a2, w := f131.w, nat := fun x _ => f131.wn x }
def f131.e (k : Nat) : Entry env := ⟨fun ps => f131.hd k (coer [[.wr 146], [.no]] ps), [(0, 0)], []⟩
def f131.X (k : Nat) : Ctx env := { C := lookE [], L := lookE [(2, fun S => f131.l2.hd k S.ts S.m S.n)], J := lookE [], keep := lookD [(2, [0, 1, 5])], keepX := lookD [(2, [0, 1])], span := lookN [(2, 720)], eff := fun n => memN n [], prep := lookP [], np := 130 }
theorem f131.l2.nat {R : Type} (k : Nat) (rec_ : Int → Int → (List S146) → Option (Int × (List S146))) (g : (Int × (List S146)) → Option R) (a3 : Int) (a4 : Int) (xs5 : List S146) : (f131.l2.step k rec_ some a3 a4 xs5).bind g = f131.l2.step k (fun a3 a4 xs5 => (rec_ a3 a4 xs5).bind g) g a3 a4 xs5 := by
  simp only [f131.l2.step, bind_ite, bind_sum, Option.bind_assoc, Option.bind_some, Option.bind_none]
theorem f131.l2.good (k : Nat) (a3 : Int) (a4 : Int) (xs5 : List S146) : GoodL (f131.X k) (nthC 0 (loopsOf (bodyOf Try.f131))) (f131.l2.st a3 a4 xs5) { α := (Int × (List S146)), o := f131.l2 k k a3 a4 xs5, w := f131.l2.w } :=
  loop_good (ι := Int × Int × (List S146)) (α := (Int × (List S146))) (fun i => f131.l2.st i.1 i.2.1 i.2.2) (fun j i => f131.l2 k j i.1 i.2.1 i.2.2) f131.l2.w (fun rec_ ret i => f131.l2.step k (fun a3 a4 xs5 => rec_ (a3, a4, xs5)) ret i.1 i.2.1 i.2.2)
    (fun _ => rfl) (fun _ _ => rfl) (fun rec_ g i => f131.l2.nat k _ g i.1 i.2.1 i.2.2) (fun {R} i0 i rec_ K => by kernel_rfl) k (a3, a4, xs5)
theorem f131.l2.all (k : Nat) (S : St env) : GoodL (f131.X k) (nthC 0 (loopsOf (bodyOf Try.f131))) S (f131.l2.hd k S.ts S.m S.n) := by
  obtain ⟨ts_, m_, n_⟩ := S
  show GoodL _ _ _ (f131.l2.hd k ts_ m_ n_)
  unfold f131.l2.hd
  refine gTs_ok (p := GoodL _ _ _) goodL_no fun _ h => ?_
  subst h
  refine gV_ok (p := GoodL _ _ _) goodL_no fun _ _ h => ?_
  subst h
  refine rRow_ok (p := GoodL _ _ _) goodL_no fun h => ?_
  subst h
  refine gV_ok (p := GoodL _ _ _) goodL_no fun _ _ h => ?_
  subst h
  refine rV_ok (p := GoodL _ _ _) goodL_no fun _ h => ?_
  subst h
  refine vI_ok (p := GoodL _ _ _) goodL_no fun _ h => ?_
  subst h
  refine gV_ok (p := GoodL _ _ _) goodL_no fun _ _ h => ?_
  subst h
  refine rV_ok (p := GoodL _ _ _) goodL_no fun _ h => ?_
  subst h
  refine vI_ok (p := GoodL _ _ _) goodL_no fun _ h => ?_
  subst h
  refine gE_ok (p := GoodL _ _ _) goodL_no fun h => ?_
  subst h
  refine mRow_ok (p := GoodL _ _ _) goodL_no fun _ _ h => ?_
  subst h
  refine gE_ok (p := GoodL _ _ _) goodL_no fun h => ?_
  subst h
  refine gN_ok (p := GoodL _ _ _) goodL_no fun h => ?_
  subst h
  exact f131.l2.good k _ _ _
theorem f131.nat {R : Type} (k : Nat) (g : (Int × (List S146)) → Option R) (xs1 : List S146) (a2 : Int) : f131.step k g xs1 a2 = (f131 k xs1 a2).bind g := by
  simp only [f131, f131.step, bind_ite, bind_sum, Option.bind_assoc, Option.bind_some, Option.bind_none]
theorem f131.ev (k : Nat) (xs1 : List S146) (a2 : Int) : evF (f131.X k) (bodyOf Try.f131) Try.f131.ntmps Try.f131.results.toList [.v (.c (.wr 146 xs1)), .v (.c (.s (.int .i64 a2)))] = f131.step k (fun x => f131.w x some) xs1 a2 := by kernel_rfl
theorem f131.hok (k : Nat) : HOK (f131.X k) (bodyOf Try.f131) where
  l := allP_mem (by exact ⟨ls_of (h0 := fun S => f131.l2.hd k S.ts S.m S.n) (by kernel_rfl) (f131.l2.all k), trivial⟩)
  j := allP_mem (by exact trivial)
theorem f131.sound0 (k : Nat) : SoundC env Try.prog 131 (f131.hd k) := by
  intro ps_
  show GoodC _ _ _ ps_ (f131.hd k ps_)
  unfold f131.hd
  refine gC_ok (p := GoodC env Try.prog 131 _) goodC_no fun _ _ h => ?_
  subst h
  refine qC_ok (p := GoodC env Try.prog 131 _) goodC_no fun _ h => ?_
  subst h
  refine qWr_ok (p := GoodC env Try.prog 131 _) goodC_no fun _ h => ?_
  subst h
  refine gC_ok (p := GoodC env Try.prog 131 _) goodC_no fun _ _ h => ?_
  subst h
  refine qC_ok (p := GoodC env Try.prog 131 _) goodC_no fun _ h => ?_
  subst h
  refine qS_ok (p := GoodC env Try.prog 131 _) goodC_no fun _ h => ?_
  subst h
  refine vI_ok (p := GoodC env Try.prog 131 _) goodC_no fun _ h => ?_
  subst h
  refine gE_ok (p := GoodC env Try.prog 131 _) goodC_no fun h => ?_
  subst h
  exact fun_good (fun_sound envOK (cs_sound _ (by exact trivial)) (f131.hok k) Try.func131 rfl) ((f131.ev k _ _).trans (f131.nat k _ _ _))
theorem f131.sound (k : Nat) : SoundC env Try.prog 131 (f131.e k).F := soundC_coer (f131.sound0 k) [[.wr 146], [.no]]
theorem f131.says (k : Nat) (xs1 : List S146) (a2 : Int) (t9 : Int × (List S146)) (h_ : f131 k xs1 a2 = some t9) : SoundAt env Try.prog 131 [.v (.c (.wr 146 xs1)), .v (.c (.s (.int .i64 a2)))] ⟨.v (.c (.s (.int .i64 t9.1))), [[.sl 146 t9.2], []]⟩ :=
  fun_sound envOK (cs_sound _ (by exact trivial)) (f131.hok k) Try.func131 rfl _ _ (((f131.ev k xs1 a2).trans (f131.nat k _ xs1 a2)).trans (by rw [h_]; rfl))
theorem f131.fnok : FnOK Try.prog 131 := fn_ok Try.func131 (by kernel_rfl) rfl
def f172.l2.step {R : Type} (k : Nat) (rec_ : Int → Int → (List S142) → Option R) (ret : (Int × (List S142)) → Option R) (a3 : Int) (a4 : Int) (xs5 : List S142) : Option R :=
  if (decide (a4 < (((List.length xs5) : Nat) : Int))) = true then
    if (0 : Int) ≤ a4 then
      if a4 < ((List.length xs5 : Nat) : Int) then
        if (0 : Int) ≤ a4 then
          if a4 < ((List.length (set142 xs5 (Int.toNat a4) 0 [.s (.int .i64 a3)]) : Nat) : Int) then
            if (0 : Int) ≤ a4 then
              if a4 < ((List.length (set142 (set142 xs5 (Int.toNat a4) 0 [.s (.int .i64 a3)]) (Int.toNat a4) 1 [.s (.int .i64 (IntKind.i64.wrap (a3 + (1 : Int))))]) : Nat) : Int) then
                rec_ (IntKind.i64.wrap ((IntKind.i64.wrap ((IntKind.i64.wrap (a3 + (1 : Int))) + (1 : Int))) + (1 : Int))) (IntKind.i64.wrap (a4 + (1 : Int))) (set142 (set142 (set142 xs5 (Int.toNat a4) 0 [.s (.int .i64 a3)]) (Int.toNat a4) 1 [.s (.int .i64 (IntKind.i64.wrap (a3 + (1 : Int))))]) (Int.toNat a4) 2 [.s (.int .i64 (IntKind.i64.wrap ((IntKind.i64.wrap (a3 + (1 : Int))) + (1 : Int))))])
              else none
            else none
          else none
        else none
      else none
    else none
  else
    ret (a3, xs5)
def f172.l2 (k : Nat) : Nat → Int → Int → (List S142) → Option (Int × (List S142))
  | 0, _, _, _ => none
  | j + 1, a3, a4, xs5 => f172.l2.step k (fun a3 a4 xs5 => f172.l2 k j a3 a4 xs5) some a3 a4 xs5
def f172.l2.w {R : Type} : (Int × (List S142)) → (Exit → St env → Option R) → Option R := fun t7 K => K (.exit 0) ⟨fullT [0, 1] 0 34 [.v (.c (.row 2)), .v (.c (.s (.int .i64 t7.1)))], [(2, .row true 142 t7.2)], 706⟩
def f172.l2.st (a3 : Int) (a4 : Int) (xs5 : List S142) : St env := ⟨fullT [0, 1, 5] 0 34 [.v (.c (.row 2)), .v (.c (.s (.int .i64 a3))), .v (.c (.s (.int .i64 a4)))], [(2, .row true 142 xs5)], 162⟩
def f172.l2.hd (k : Nat) (ts_ : List (AV env)) (mm_ : Mem env) (n_ : Nat) : LCl env :=
  gTs LCl.no [0, 1, 5] 34 ts_ fun l_ => gV LCl.no l_ fun a_ l_ => rRow LCl.no 2 a_ <| gV LCl.no l_ fun a_ l_ => rV LCl.no a_ fun v_ => vI LCl.no .i64 v_ fun a3 => gV LCl.no l_ fun a_ l_ => rV LCl.no a_ fun v_ => vI LCl.no .i64 v_ fun a4 => gE LCl.no l_ <| mRow LCl.no 2 true 142 mm_ fun xs5 m_ => gE LCl.no m_ <| gN LCl.no 162 n_ { α := Int × (List S142), o := f172.l2 k k a3 a4 xs5, w := f172.l2.w }
def f172.step {R : Type} (k : Nat) (ret : (Int × (List S142)) → Option R) (xs1 : List S142) (a2 : Int) : Option R :=
  (f172.l2 k k a2 (0 : Int) xs1).bind fun t6 => ret (t6.1, t6.2)
def f172 (k : Nat) (xs1 : List S142) (a2 : Int) : Option (Int × (List S142)) := f172.step k some xs1 a2
def f172.w {R : Type} : (Int × (List S142)) → (Res env → Option R) → Option R := fun t8 K => K ⟨.v (.c (.s (.int .i64 t8.1))), [[.sl 142 t8.2], []]⟩
theorem f172.wn (x : (Int × (List S142))) : ∃ res, ∀ {R : Type} (K : Res env → Option R), f172.w x K = K res := by
  exact ⟨_, fun _ => rfl⟩
def f172.hd (k : Nat) (ps_ : List (P2 env)) : Cl env :=
  gC Cl.no ps_ fun p_ ps_ => qC Cl.no p_ fun c_ => qWr Cl.no 142 c_ fun xs1 => gC Cl.no ps_ fun p_ ps_ => qC Cl.no p_ fun c_ => qS Cl.no c_ fun v_ => vI Cl.no .i64 v_ fun a2 => gE Cl.no ps_ <| { α := Int × (List S142), o := f172 k xs1 a2, w := f172.w, nat := fun x _ => f172.wn x }
def f172.e (k : Nat) : Entry env := ⟨fun ps => f172.hd k (coer [[.wr 142], [.no]] ps), [(0, 0)], []⟩
def f172.X (k : Nat) : Ctx env := { C := lookE [], L := lookE [(2, fun S => f172.l2.hd k S.ts S.m S.n)], J := lookE [], keep := lookD [(2, [0, 1, 5])], keepX := lookD [(2, [0, 1])], span := lookN [(2, 544)], eff := fun n => memN n [], prep := lookP [], np := 130 }
theorem f172.l2.nat {R : Type} (k : Nat) (rec_ : Int → Int → (List S142) → Option (Int × (List S142))) (g : (Int × (List S142)) → Option R) (a3 : Int) (a4 : Int) (xs5 : List S142) : (f172.l2.step k rec_ some a3 a4 xs5).bind g = f172.l2.step k (fun a3 a4 xs5 => (rec_ a3 a4 xs5).bind g) g a3 a4 xs5 := by
  simp only [f172.l2.step, bind_ite, bind_sum, Option.bind_assoc, Option.bind_some, Option.bind_none]
theorem f172.l2.good (k : Nat) (a3 : Int) (a4 : Int) (xs5 : List S142) : GoodL (f172.X k) (nthC 0 (loopsOf (bodyOf Try.f172))) (f172.l2.st a3 a4 xs5) { α := (Int × (List S142)), o := f172.l2 k k a3 a4 xs5, w := f172.l2.w } :=
  loop_good (ι := Int × Int × (List S142)) (α := (Int × (List S142))) (fun i => f172.l2.st i.1 i.2.1 i.2.2) (fun j i => f172.l2 k j i.1 i.2.1 i.2.2) f172.l2.w (fun rec_ ret i => f172.l2.step k (fun a3 a4 xs5 => rec_ (a3, a4, xs5)) ret i.1 i.2.1 i.2.2)
    (fun _ => rfl) (fun _ _ => rfl) (fun rec_ g i => f172.l2.nat k _ g i.1 i.2.1 i.2.2) (fun {R} i0 i rec_ K => by kernel_rfl) k (a3, a4, xs5)
theorem f172.l2.all (k : Nat) (S : St env) : GoodL (f172.X k) (nthC 0 (loopsOf (bodyOf Try.f172))) S (f172.l2.hd k S.ts S.m S.n) := by
  obtain ⟨ts_, m_, n_⟩ := S
  show GoodL _ _ _ (f172.l2.hd k ts_ m_ n_)
  unfold f172.l2.hd
  refine gTs_ok (p := GoodL _ _ _) goodL_no fun _ h => ?_
  subst h
  refine gV_ok (p := GoodL _ _ _) goodL_no fun _ _ h => ?_
  subst h
  refine rRow_ok (p := GoodL _ _ _) goodL_no fun h => ?_
  subst h
  refine gV_ok (p := GoodL _ _ _) goodL_no fun _ _ h => ?_
  subst h
  refine rV_ok (p := GoodL _ _ _) goodL_no fun _ h => ?_
  subst h
  refine vI_ok (p := GoodL _ _ _) goodL_no fun _ h => ?_
  subst h
  refine gV_ok (p := GoodL _ _ _) goodL_no fun _ _ h => ?_
  subst h
  refine rV_ok (p := GoodL _ _ _) goodL_no fun _ h => ?_
  subst h
  refine vI_ok (p := GoodL _ _ _) goodL_no fun _ h => ?_
  subst h
  refine gE_ok (p := GoodL _ _ _) goodL_no fun h => ?_
  subst h
  refine mRow_ok (p := GoodL _ _ _) goodL_no fun _ _ h => ?_
  subst h
  refine gE_ok (p := GoodL _ _ _) goodL_no fun h => ?_
  subst h
  refine gN_ok (p := GoodL _ _ _) goodL_no fun h => ?_
  subst h
  exact f172.l2.good k _ _ _
theorem f172.nat {R : Type} (k : Nat) (g : (Int × (List S142)) → Option R) (xs1 : List S142) (a2 : Int) : f172.step k g xs1 a2 = (f172 k xs1 a2).bind g := by
  simp only [f172, f172.step, bind_ite, bind_sum, Option.bind_assoc, Option.bind_some, Option.bind_none]
theorem f172.ev (k : Nat) (xs1 : List S142) (a2 : Int) : evF (f172.X k) (bodyOf Try.f172) Try.f172.ntmps Try.f172.results.toList [.v (.c (.wr 142 xs1)), .v (.c (.s (.int .i64 a2)))] = f172.step k (fun x => f172.w x some) xs1 a2 := by kernel_rfl
theorem f172.hok (k : Nat) : HOK (f172.X k) (bodyOf Try.f172) where
  l := allP_mem (by exact ⟨ls_of (h0 := fun S => f172.l2.hd k S.ts S.m S.n) (by kernel_rfl) (f172.l2.all k), trivial⟩)
  j := allP_mem (by exact trivial)
theorem f172.sound0 (k : Nat) : SoundC env Try.prog 172 (f172.hd k) := by
  intro ps_
  show GoodC _ _ _ ps_ (f172.hd k ps_)
  unfold f172.hd
  refine gC_ok (p := GoodC env Try.prog 172 _) goodC_no fun _ _ h => ?_
  subst h
  refine qC_ok (p := GoodC env Try.prog 172 _) goodC_no fun _ h => ?_
  subst h
  refine qWr_ok (p := GoodC env Try.prog 172 _) goodC_no fun _ h => ?_
  subst h
  refine gC_ok (p := GoodC env Try.prog 172 _) goodC_no fun _ _ h => ?_
  subst h
  refine qC_ok (p := GoodC env Try.prog 172 _) goodC_no fun _ h => ?_
  subst h
  refine qS_ok (p := GoodC env Try.prog 172 _) goodC_no fun _ h => ?_
  subst h
  refine vI_ok (p := GoodC env Try.prog 172 _) goodC_no fun _ h => ?_
  subst h
  refine gE_ok (p := GoodC env Try.prog 172 _) goodC_no fun h => ?_
  subst h
  exact fun_good (fun_sound envOK (cs_sound _ (by exact trivial)) (f172.hok k) Try.func172 rfl) ((f172.ev k _ _).trans (f172.nat k _ _ _))
theorem f172.sound (k : Nat) : SoundC env Try.prog 172 (f172.e k).F := soundC_coer (f172.sound0 k) [[.wr 142], [.no]]
theorem f172.says (k : Nat) (xs1 : List S142) (a2 : Int) (t9 : Int × (List S142)) (h_ : f172 k xs1 a2 = some t9) : SoundAt env Try.prog 172 [.v (.c (.wr 142 xs1)), .v (.c (.s (.int .i64 a2)))] ⟨.v (.c (.s (.int .i64 t9.1))), [[.sl 142 t9.2], []]⟩ :=
  fun_sound envOK (cs_sound _ (by exact trivial)) (f172.hok k) Try.func172 rfl _ _ (((f172.ev k xs1 a2).trans (f172.nat k _ xs1 a2)).trans (by rw [h_]; rfl))
theorem f172.fnok : FnOK Try.prog 172 := fn_ok Try.func172 (by kernel_rfl) rfl
def f132.l2.step {R : Type} (k : Nat) (rec_ : Int → Int → (List (List S142)) → Option R) (ret : (Int × (List (List S142))) → Option R) (a3 : Int) (a4 : Int) (xs5 : List (List S142)) : Option R :=
  if (decide (a4 < (((List.length xs5) : Nat) : Int))) = true then
    if (0 : Int) ≤ a4 then
      if a4 < ((List.length xs5 : Nat) : Int) then
        (f172 k (List.getD xs5 (Int.toNat a4) []) a3).bind fun t6 => rec_ t6.1 (IntKind.i64.wrap (a4 + (1 : Int))) (List.set xs5 (Int.toNat a4) t6.2)
      else none
    else none
  else
    ret (a3, xs5)
def f132.l2 (k : Nat) : Nat → Int → Int → (List (List S142)) → Option (Int × (List (List S142)))
  | 0, _, _, _ => none
  | j + 1, a3, a4, xs5 => f132.l2.step k (fun a3 a4 xs5 => f132.l2 k j a3 a4 xs5) some a3 a4 xs5
def f132.l2.w {R : Type} : (Int × (List (List S142))) → (Exit → St env → Option R) → Option R := fun t8 K => K (.exit 0) ⟨fullT [0, 1] 0 19 [.v (.c (.row 2)), .v (.c (.s (.int .i64 t8.1)))], [(2, .row true 140 t8.2)], 386⟩
def f132.l2.st (a3 : Int) (a4 : Int) (xs5 : List (List S142)) : St env := ⟨fullT [0, 1, 5] 0 19 [.v (.c (.row 2)), .v (.c (.s (.int .i64 a3))), .v (.c (.s (.int .i64 a4)))], [(2, .row true 140 xs5)], 162⟩
def f132.l2.hd (k : Nat) (ts_ : List (AV env)) (mm_ : Mem env) (n_ : Nat) : LCl env :=
  gTs LCl.no [0, 1, 5] 19 ts_ fun l_ => gV LCl.no l_ fun a_ l_ => rRow LCl.no 2 a_ <| gV LCl.no l_ fun a_ l_ => rV LCl.no a_ fun v_ => vI LCl.no .i64 v_ fun a3 => gV LCl.no l_ fun a_ l_ => rV LCl.no a_ fun v_ => vI LCl.no .i64 v_ fun a4 => gE LCl.no l_ <| mRow LCl.no 2 true 140 mm_ fun xs5 m_ => gE LCl.no m_ <| gN LCl.no 162 n_ { α := Int × (List (List S142)), o := f132.l2 k k a3 a4 xs5, w := f132.l2.w }
def f132.step {R : Type} (k : Nat) (ret : (Int × (List (List S142))) → Option R) (xs1 : List (List S142)) (a2 : Int) : Option R :=
  (f132.l2 k k a2 (0 : Int) xs1).bind fun t7 => ret (t7.1, t7.2)
def f132 (k : Nat) (xs1 : List (List S142)) (a2 : Int) : Option (Int × (List (List S142))) := f132.step k some xs1 a2
def f132.w {R : Type} : (Int × (List (List S142))) → (Res env → Option R) → Option R := fun t9 K => K ⟨.v (.c (.s (.int .i64 t9.1))), [[.sl 140 t9.2], []]⟩
theorem f132.wn (x : (Int × (List (List S142)))) : ∃ res, ∀ {R : Type} (K : Res env → Option R), f132.w x K = K res := by
  exact ⟨_, fun _ => rfl⟩
def f132.hd (k : Nat) (ps_ : List (P2 env)) : Cl env :=
  gC Cl.no ps_ fun p_ ps_ => qC Cl.no p_ fun c_ => qWr Cl.no 140 c_ fun xs1 => gC Cl.no ps_ fun p_ ps_ => qC Cl.no p_ fun c_ => qS Cl.no c_ fun v_ => vI Cl.no .i64 v_ fun a2 => gE Cl.no ps_ <| { α := Int × (List (List S142)), o := f132 k xs1 a2, w := f132.w, nat := fun x _ => f132.wn x }
def f132.e (k : Nat) : Entry env := ⟨fun ps => f132.hd k (coer [[.wr 140], [.no]] ps), [(0, 0)], []⟩
def f132.X (k : Nat) : Ctx env := { C := lookE [(172, f172.e k)], L := lookE [(2, fun S => f132.l2.hd k S.ts S.m S.n)], J := lookE [], keep := lookD [(2, [0, 1, 5])], keepX := lookD [(2, [0, 1])], span := lookN [(2, 224)], eff := fun n => memN n [], prep := lookP [], np := 130 }
theorem f132.l2.nat {R : Type} (k : Nat) (rec_ : Int → Int → (List (List S142)) → Option (Int × (List (List S142)))) (g : (Int × (List (List S142))) → Option R) (a3 : Int) (a4 : Int) (xs5 : List (List S142)) : (f132.l2.step k rec_ some a3 a4 xs5).bind g = f132.l2.step k (fun a3 a4 xs5 => (rec_ a3 a4 xs5).bind g) g a3 a4 xs5 := by
  simp only [f132.l2.step, bind_ite, bind_sum, Option.bind_assoc, Option.bind_some, Option.bind_none]
theorem f132.l2.good (k : Nat) (a3 : Int) (a4 : Int) (xs5 : List (List S142)) : GoodL (f132.X k) (nthC 0 (loopsOf (bodyOf Try.f132))) (f132.l2.st a3 a4 xs5) { α := (Int × (List (List S142))), o := f132.l2 k k a3 a4 xs5, w := f132.l2.w } :=
  loop_good (ι := Int × Int × (List (List S142))) (α := (Int × (List (List S142)))) (fun i => f132.l2.st i.1 i.2.1 i.2.2) (fun j i => f132.l2 k j i.1 i.2.1 i.2.2) f132.l2.w (fun rec_ ret i => f132.l2.step k (fun a3 a4 xs5 => rec_ (a3, a4, xs5)) ret i.1 i.2.1 i.2.2)
    (fun _ => rfl) (fun _ _ => rfl) (fun rec_ g i => f132.l2.nat k _ g i.1 i.2.1 i.2.2) (fun {R} i0 i rec_ K => by kernel_rfl) k (a3, a4, xs5)
theorem f132.l2.all (k : Nat) (S : St env) : GoodL (f132.X k) (nthC 0 (loopsOf (bodyOf Try.f132))) S (f132.l2.hd k S.ts S.m S.n) := by
  obtain ⟨ts_, m_, n_⟩ := S
  show GoodL _ _ _ (f132.l2.hd k ts_ m_ n_)
  unfold f132.l2.hd
  refine gTs_ok (p := GoodL _ _ _) goodL_no fun _ h => ?_
  subst h
  refine gV_ok (p := GoodL _ _ _) goodL_no fun _ _ h => ?_
  subst h
  refine rRow_ok (p := GoodL _ _ _) goodL_no fun h => ?_
  subst h
  refine gV_ok (p := GoodL _ _ _) goodL_no fun _ _ h => ?_
  subst h
  refine rV_ok (p := GoodL _ _ _) goodL_no fun _ h => ?_
  subst h
  refine vI_ok (p := GoodL _ _ _) goodL_no fun _ h => ?_
  subst h
  refine gV_ok (p := GoodL _ _ _) goodL_no fun _ _ h => ?_
  subst h
  refine rV_ok (p := GoodL _ _ _) goodL_no fun _ h => ?_
  subst h
  refine vI_ok (p := GoodL _ _ _) goodL_no fun _ h => ?_
  subst h
  refine gE_ok (p := GoodL _ _ _) goodL_no fun h => ?_
  subst h
  refine mRow_ok (p := GoodL _ _ _) goodL_no fun _ _ h => ?_
  subst h
  refine gE_ok (p := GoodL _ _ _) goodL_no fun h => ?_
  subst h
  refine gN_ok (p := GoodL _ _ _) goodL_no fun h => ?_
  subst h
  exact f132.l2.good k _ _ _
theorem f132.nat {R : Type} (k : Nat) (g : (Int × (List (List S142))) → Option R) (xs1 : List (List S142)) (a2 : Int) : f132.step k g xs1 a2 = (f132 k xs1 a2).bind g := by
  simp only [f132, f132.step, bind_ite, bind_sum, Option.bind_assoc, Option.bind_some, Option.bind_none]
theorem f132.ev (k : Nat) (xs1 : List (List S142)) (a2 : Int) : evF (f132.X k) (bodyOf Try.f132) Try.f132.ntmps Try.f132.results.toList [.v (.c (.wr 140 xs1)), .v (.c (.s (.int .i64 a2)))] = f132.step k (fun x => f132.w x some) xs1 a2 := by kernel_rfl
theorem f132.hok (k : Nat) : HOK (f132.X k) (bodyOf Try.f132) where
  l := allP_mem (by exact ⟨ls_of (h0 := fun S => f132.l2.hd k S.ts S.m S.n) (by kernel_rfl) (f132.l2.all k), trivial⟩)
  j := allP_mem (by exact trivial)
theorem f132.sound0 (k : Nat) : SoundC env Try.prog 132 (f132.hd k) := by
  intro ps_
  show GoodC _ _ _ ps_ (f132.hd k ps_)
  unfold f132.hd
  refine gC_ok (p := GoodC env Try.prog 132 _) goodC_no fun _ _ h => ?_
  subst h
  refine qC_ok (p := GoodC env Try.prog 132 _) goodC_no fun _ h => ?_
  subst h
  refine qWr_ok (p := GoodC env Try.prog 132 _) goodC_no fun _ h => ?_
  subst h
  refine gC_ok (p := GoodC env Try.prog 132 _) goodC_no fun _ _ h => ?_
  subst h
  refine qC_ok (p := GoodC env Try.prog 132 _) goodC_no fun _ h => ?_
  subst h
  refine qS_ok (p := GoodC env Try.prog 132 _) goodC_no fun _ h => ?_
  subst h
  refine vI_ok (p := GoodC env Try.prog 132 _) goodC_no fun _ h => ?_
  subst h
  refine gE_ok (p := GoodC env Try.prog 132 _) goodC_no fun h => ?_
  subst h
  exact fun_good (fun_sound envOK (cs_sound _ (by exact ⟨⟨f172.sound k, f172.fnok⟩, trivial⟩)) (f132.hok k) Try.func132 rfl) ((f132.ev k _ _).trans (f132.nat k _ _ _))
theorem f132.sound (k : Nat) : SoundC env Try.prog 132 (f132.e k).F := soundC_coer (f132.sound0 k) [[.wr 140], [.no]]
theorem f132.says (k : Nat) (xs1 : List (List S142)) (a2 : Int) (t10 : Int × (List (List S142))) (h_ : f132 k xs1 a2 = some t10) : SoundAt env Try.prog 132 [.v (.c (.wr 140 xs1)), .v (.c (.s (.int .i64 a2)))] ⟨.v (.c (.s (.int .i64 t10.1))), [[.sl 140 t10.2], []]⟩ :=
  fun_sound envOK (cs_sound _ (by exact ⟨⟨f172.sound k, f172.fnok⟩, trivial⟩)) (f132.hok k) Try.func132 rfl _ _ (((f132.ev k xs1 a2).trans (f132.nat k _ xs1 a2)).trans (by rw [h_]; rfl))
theorem f132.fnok : FnOK Try.prog 132 := fn_ok Try.func132 (by kernel_rfl) rfl
def f66.step {R : Type} (k : Nat) (ret : (Int × (List S146) × (List (List S142)) × Bool) → Option R) (xs1 : List S146) (xs2 : List (List S142)) (a3 : Int) (a4 : Int) : Option R :=
  (f131 k xs1 a4).bind fun t5 => (f132 k xs2 t5.1).bind fun t6 => ret (t6.1, t5.2, t6.2, false)
def f66 (k : Nat) (xs1 : List S146) (xs2 : List (List S142)) (a3 : Int) (a4 : Int) : Option (Int × (List S146) × (List (List S142)) × Bool) := f66.step k some xs1 xs2 a3 a4
def f66.w {R : Type} : (Int × (List S146) × (List (List S142)) × Bool) → (Res env → Option R) → Option R := fun t7 K => K ⟨.v (.c (.s (.int .i64 t7.1))), [[.sl 146 t7.2.1, .sl 140 t7.2.2.1, .s (.bool t7.2.2.2)], []]⟩
theorem f66.wn (x : (Int × (List S146) × (List (List S142)) × Bool)) : ∃ res, ∀ {R : Type} (K : Res env → Option R), f66.w x K = K res := by
  exact ⟨_, fun _ => rfl⟩
def f66.hd (k : Nat) (ps_ : List (P2 env)) : Cl env :=
  gC Cl.no ps_ fun p_ ps_ => qG Cl.no p_ fun cs_ => gC Cl.no cs_ fun c_ cs_ => qWr Cl.no 146 c_ fun xs1 => gC Cl.no cs_ fun c_ cs_ => qWr Cl.no 140 c_ fun xs2 => gC Cl.no cs_ fun c_ cs_ => qS Cl.no c_ fun v_ => vI Cl.no .i64 v_ fun a3 => gE Cl.no cs_ <| gC Cl.no ps_ fun p_ ps_ => qC Cl.no p_ fun c_ => qS Cl.no c_ fun v_ => vI Cl.no .i64 v_ fun a4 => gE Cl.no ps_ <| { α := Int × (List S146) × (List (List S142)) × Bool, o := f66 k xs1 xs2 a3 a4, w := f66.w, nat := fun x _ => f66.wn x }
def f66.e (k : Nat) : Entry env := ⟨fun ps => f66.hd k (coer [[.wr 146, .wr 140, .no], [.no]] ps), [(0, 0), (0, 1)], []⟩
def f66.X (k : Nat) : Ctx env := { C := lookE [(131, f131.e k), (132, f132.e k)], L := lookE [], J := lookE [], keep := lookD [], keepX := lookD [], span := lookN [], eff := fun n => memN n [], prep := lookP [], np := 130 }
theorem f66.nat {R : Type} (k : Nat) (g : (Int × (List S146) × (List (List S142)) × Bool) → Option R) (xs1 : List S146) (xs2 : List (List S142)) (a3 : Int) (a4 : Int) : f66.step k g xs1 xs2 a3 a4 = (f66 k xs1 xs2 a3 a4).bind g := by
  simp only [f66, f66.step, bind_ite, bind_sum, Option.bind_assoc, Option.bind_some, Option.bind_none]
theorem f66.ev (k : Nat) (xs1 : List S146) (xs2 : List (List S142)) (a3 : Int) (a4 : Int) : evF (f66.X k) (bodyOf Try.f66) Try.f66.ntmps Try.f66.results.toList [.g [.wr 146 xs1, .wr 140 xs2, .s (.int .i64 a3)], .v (.c (.s (.int .i64 a4)))] = f66.step k (fun x => f66.w x some) xs1 xs2 a3 a4 := by kernel_rfl
theorem f66.hok (k : Nat) : HOK (f66.X k) (bodyOf Try.f66) where
  l := allP_mem (by exact trivial)
  j := allP_mem (by exact trivial)
theorem f66.sound0 (k : Nat) : SoundC env Try.prog 66 (f66.hd k) := by
  intro ps_
  show GoodC _ _ _ ps_ (f66.hd k ps_)
  unfold f66.hd
  refine gC_ok (p := GoodC env Try.prog 66 _) goodC_no fun _ _ h => ?_
  subst h
  refine qG_ok (p := GoodC env Try.prog 66 _) goodC_no fun _ h => ?_
  subst h
  refine gC_ok (p := GoodC env Try.prog 66 _) goodC_no fun _ _ h => ?_
  subst h
  refine qWr_ok (p := GoodC env Try.prog 66 _) goodC_no fun _ h => ?_
  subst h
  refine gC_ok (p := GoodC env Try.prog 66 _) goodC_no fun _ _ h => ?_
  subst h
  refine qWr_ok (p := GoodC env Try.prog 66 _) goodC_no fun _ h => ?_
  subst h
  refine gC_ok (p := GoodC env Try.prog 66 _) goodC_no fun _ _ h => ?_
  subst h
  refine qS_ok (p := GoodC env Try.prog 66 _) goodC_no fun _ h => ?_
  subst h
  refine vI_ok (p := GoodC env Try.prog 66 _) goodC_no fun _ h => ?_
  subst h
  refine gE_ok (p := GoodC env Try.prog 66 _) goodC_no fun h => ?_
  subst h
  refine gC_ok (p := GoodC env Try.prog 66 _) goodC_no fun _ _ h => ?_
  subst h
  refine qC_ok (p := GoodC env Try.prog 66 _) goodC_no fun _ h => ?_
  subst h
  refine qS_ok (p := GoodC env Try.prog 66 _) goodC_no fun _ h => ?_
  subst h
  refine vI_ok (p := GoodC env Try.prog 66 _) goodC_no fun _ h => ?_
  subst h
  refine gE_ok (p := GoodC env Try.prog 66 _) goodC_no fun h => ?_
  subst h
  exact fun_good (fun_sound envOK (cs_sound _ (by exact ⟨⟨f131.sound k, f131.fnok⟩, ⟨f132.sound k, f132.fnok⟩, trivial⟩)) (f66.hok k) Try.func66 rfl) ((f66.ev k _ _ _ _).trans (f66.nat k _ _ _ _ _))
theorem f66.sound (k : Nat) : SoundC env Try.prog 66 (f66.e k).F := soundC_coer (f66.sound0 k) [[.wr 146, .wr 140, .no], [.no]]
theorem f66.says (k : Nat) (xs1 : List S146) (xs2 : List (List S142)) (a3 : Int) (a4 : Int) (t8 : Int × (List S146) × (List (List S142)) × Bool) (h_ : f66 k xs1 xs2 a3 a4 = some t8) : SoundAt env Try.prog 66 [.g [.wr 146 xs1, .wr 140 xs2, .s (.int .i64 a3)], .v (.c (.s (.int .i64 a4)))] ⟨.v (.c (.s (.int .i64 t8.1))), [[.sl 146 t8.2.1, .sl 140 t8.2.2.1, .s (.bool t8.2.2.2)], []]⟩ :=
  fun_sound envOK (cs_sound _ (by exact ⟨⟨f131.sound k, f131.fnok⟩, ⟨f132.sound k, f132.fnok⟩, trivial⟩)) (f66.hok k) Try.func66 rfl _ _ (((f66.ev k xs1 xs2 a3 a4).trans (f66.nat k _ xs1 xs2 a3 a4)).trans (by rw [h_]; rfl))
theorem f66.fnok : FnOK Try.prog 66 := fn_ok Try.func66 (by kernel_rfl) rfl
def f26.l2.step {R : Type} (k : Nat) (rec_ : Int → Int → (List Int) → Option R) (ret : (Int × (List Int)) → Option R) (a3 : Int) (a4 : Int) (xs5 : List Int) : Option R :=
  if (decide (a4 < (((List.length xs5) : Nat) : Int))) = true then
    if (0 : Int) ≤ a4 then
      if a4 < ((List.length xs5 : Nat) : Int) then
        rec_ (IntKind.i64.wrap (a3 + (1 : Int))) (IntKind.i64.wrap (a4 + (1 : Int))) (List.set xs5 (Int.toNat a4) a3)
      else none
    else none
  else
    ret (a3, xs5)
def f26.l2 (k : Nat) : Nat → Int → Int → (List Int) → Option (Int × (List Int))
  | 0, _, _, _ => none
  | j + 1, a3, a4, xs5 => f26.l2.step k (fun a3 a4 xs5 => f26.l2 k j a3 a4 xs5) some a3 a4 xs5
def f26.l2.w {R : Type} : (Int × (List Int)) → (Exit → St env → Option R) → Option R := fun t7 K => K (.exit 0) ⟨fullT [0, 1] 0 19 [.v (.c (.row 2)), .v (.c (.s (.int .i64 t7.1)))], [(2, .row true 3 t7.2)], 402⟩
def f26.l2.st (a3 : Int) (a4 : Int) (xs5 : List Int) : St env := ⟨fullT [0, 1, 5] 0 19 [.v (.c (.row 2)), .v (.c (.s (.int .i64 a3))), .v (.c (.s (.int .i64 a4)))], [(2, .row true 3 xs5)], 162⟩
def f26.l2.hd (k : Nat) (ts_ : List (AV env)) (mm_ : Mem env) (n_ : Nat) : LCl env :=
  gTs LCl.no [0, 1, 5] 19 ts_ fun l_ => gV LCl.no l_ fun a_ l_ => rRow LCl.no 2 a_ <| gV LCl.no l_ fun a_ l_ => rV LCl.no a_ fun v_ => vI LCl.no .i64 v_ fun a3 => gV LCl.no l_ fun a_ l_ => rV LCl.no a_ fun v_ => vI LCl.no .i64 v_ fun a4 => gE LCl.no l_ <| mRow LCl.no 2 true 3 mm_ fun xs5 m_ => gE LCl.no m_ <| gN LCl.no 162 n_ { α := Int × (List Int), o := f26.l2 k k a3 a4 xs5, w := f26.l2.w }
def f26.step {R : Type} (k : Nat) (ret : (Int × (List Int)) → Option R) (xs1 : List Int) (a2 : Int) : Option R :=
  (f26.l2 k k a2 (0 : Int) xs1).bind fun t6 => ret (t6.1, t6.2)
def f26 (k : Nat) (xs1 : List Int) (a2 : Int) : Option (Int × (List Int)) := f26.step k some xs1 a2
def f26.w {R : Type} : (Int × (List Int)) → (Res env → Option R) → Option R := fun t8 K => K ⟨.v (.c (.s (.int .i64 t8.1))), [[.sl 3 t8.2], []]⟩
theorem f26.wn (x : (Int × (List Int))) : ∃ res, ∀ {R : Type} (K : Res env → Option R), f26.w x K = K res := by
  exact ⟨_, fun _ => rfl⟩
def f26.hd (k : Nat) (ps_ : List (P2 env)) : Cl env :=
  gC Cl.no ps_ fun p_ ps_ => qC Cl.no p_ fun c_ => qWr Cl.no 3 c_ fun xs1 => gC Cl.no ps_ fun p_ ps_ => qC Cl.no p_ fun c_ => qS Cl.no c_ fun v_ => vI Cl.no .i64 v_ fun a2 => gE Cl.no ps_ <| { α := Int × (List Int), o := f26 k xs1 a2, w := f26.w, nat := fun x _ => f26.wn x }
def f26.e (k : Nat) : Entry env := ⟨fun ps => f26.hd k (coer [[.wr 3], [.no]] ps), [(0, 0)], []⟩
def f26.X (k : Nat) : Ctx env := { C := lookE [], L := lookE [(2, fun S => f26.l2.hd k S.ts S.m S.n)], J := lookE [], keep := lookD [(2, [0, 1, 5])], keepX := lookD [(2, [0, 1])], span := lookN [(2, 240)], eff := fun n => memN n [], prep := lookP [], np := 130 }
theorem f26.l2.nat {R : Type} (k : Nat) (rec_ : Int → Int → (List Int) → Option (Int × (List Int))) (g : (Int × (List Int)) → Option R) (a3 : Int) (a4 : Int) (xs5 : List Int) : (f26.l2.step k rec_ some a3 a4 xs5).bind g = f26.l2.step k (fun a3 a4 xs5 => (rec_ a3 a4 xs5).bind g) g a3 a4 xs5 := by
  simp only [f26.l2.step, bind_ite, bind_sum, Option.bind_assoc, Option.bind_some, Option.bind_none]
theorem f26.l2.good (k : Nat) (a3 : Int) (a4 : Int) (xs5 : List Int) : GoodL (f26.X k) (nthC 0 (loopsOf (bodyOf Try.f26))) (f26.l2.st a3 a4 xs5) { α := (Int × (List Int)), o := f26.l2 k k a3 a4 xs5, w := f26.l2.w } :=
  loop_good (ι := Int × Int × (List Int)) (α := (Int × (List Int))) (fun i => f26.l2.st i.1 i.2.1 i.2.2) (fun j i => f26.l2 k j i.1 i.2.1 i.2.2) f26.l2.w (fun rec_ ret i => f26.l2.step k (fun a3 a4 xs5 => rec_ (a3, a4, xs5)) ret i.1 i.2.1 i.2.2)
    (fun _ => rfl) (fun _ _ => rfl) (fun rec_ g i => f26.l2.nat k _ g i.1 i.2.1 i.2.2) (fun {R} i0 i rec_ K => by kernel_rfl) k (a3, a4, xs5)
theorem f26.l2.all (k : Nat) (S : St env) : GoodL (f26.X k) (nthC 0 (loopsOf (bodyOf Try.f26))) S (f26.l2.hd k S.ts S.m S.n) := by
  obtain ⟨ts_, m_, n_⟩ := S
  show GoodL _ _ _ (f26.l2.hd k ts_ m_ n_)
  unfold f26.l2.hd
  refine gTs_ok (p := GoodL _ _ _) goodL_no fun _ h => ?_
  subst h
  refine gV_ok (p := GoodL _ _ _) goodL_no fun _ _ h => ?_
  subst h
  refine rRow_ok (p := GoodL _ _ _) goodL_no fun h => ?_
  subst h
  refine gV_ok (p := GoodL _ _ _) goodL_no fun _ _ h => ?_
  subst h
  refine rV_ok (p := GoodL _ _ _) goodL_no fun _ h => ?_
  subst h
  refine vI_ok (p := GoodL _ _ _) goodL_no fun _ h => ?_
  subst h
  refine gV_ok (p := GoodL _ _ _) goodL_no fun _ _ h => ?_
  subst h
  refine rV_ok (p := GoodL _ _ _) goodL_no fun _ h => ?_
  subst h
  refine vI_ok (p := GoodL _ _ _) goodL_no fun _ h => ?_
  subst h
  refine gE_ok (p := GoodL _ _ _) goodL_no fun h => ?_
  subst h
  refine mRow_ok (p := GoodL _ _ _) goodL_no fun _ _ h => ?_
  subst h
  refine gE_ok (p := GoodL _ _ _) goodL_no fun h => ?_
  subst h
  refine gN_ok (p := GoodL _ _ _) goodL_no fun h => ?_
  subst h
  exact f26.l2.good k _ _ _
theorem f26.nat {R : Type} (k : Nat) (g : (Int × (List Int)) → Option R) (xs1 : List Int) (a2 : Int) : f26.step k g xs1 a2 = (f26 k xs1 a2).bind g := by
  simp only [f26, f26.step, bind_ite, bind_sum, Option.bind_assoc, Option.bind_some, Option.bind_none]
theorem f26.ev (k : Nat) (xs1 : List Int) (a2 : Int) : evF (f26.X k) (bodyOf Try.f26) Try.f26.ntmps Try.f26.results.toList [.v (.c (.wr 3 xs1)), .v (.c (.s (.int .i64 a2)))] = f26.step k (fun x => f26.w x some) xs1 a2 := by kernel_rfl
theorem f26.hok (k : Nat) : HOK (f26.X k) (bodyOf Try.f26) where
  l := allP_mem (by exact ⟨ls_of (h0 := fun S => f26.l2.hd k S.ts S.m S.n) (by kernel_rfl) (f26.l2.all k), trivial⟩)
  j := allP_mem (by exact trivial)
theorem f26.sound0 (k : Nat) : SoundC env Try.prog 26 (f26.hd k) := by
  intro ps_
  show GoodC _ _ _ ps_ (f26.hd k ps_)
  unfold f26.hd
  refine gC_ok (p := GoodC env Try.prog 26 _) goodC_no fun _ _ h => ?_
  subst h
  refine qC_ok (p := GoodC env Try.prog 26 _) goodC_no fun _ h => ?_
  subst h
  refine qWr_ok (p := GoodC env Try.prog 26 _) goodC_no fun _ h => ?_
  subst h
  refine gC_ok (p := GoodC env Try.prog 26 _) goodC_no fun _ _ h => ?_
  subst h
  refine qC_ok (p := GoodC env Try.prog 26 _) goodC_no fun _ h => ?_
  subst h
  refine qS_ok (p := GoodC env Try.prog 26 _) goodC_no fun _ h => ?_
  subst h
  refine vI_ok (p := GoodC env Try.prog 26 _) goodC_no fun _ h => ?_
  subst h
  refine gE_ok (p := GoodC env Try.prog 26 _) goodC_no fun h => ?_
  subst h
  exact fun_good (fun_sound envOK (cs_sound _ (by exact trivial)) (f26.hok k) Try.func26 rfl) ((f26.ev k _ _).trans (f26.nat k _ _ _))
theorem f26.sound (k : Nat) : SoundC env Try.prog 26 (f26.e k).F := soundC_coer (f26.sound0 k) [[.wr 3], [.no]]
theorem f26.says (k : Nat) (xs1 : List Int) (a2 : Int) (t9 : Int × (List Int)) (h_ : f26 k xs1 a2 = some t9) : SoundAt env Try.prog 26 [.v (.c (.wr 3 xs1)), .v (.c (.s (.int .i64 a2)))] ⟨.v (.c (.s (.int .i64 t9.1))), [[.sl 3 t9.2], []]⟩ :=
  fun_sound envOK (cs_sound _ (by exact trivial)) (f26.hok k) Try.func26 rfl _ _ (((f26.ev k xs1 a2).trans (f26.nat k _ xs1 a2)).trans (by rw [h_]; rfl))
theorem f26.fnok : FnOK Try.prog 26 := fn_ok Try.func26 (by kernel_rfl) rfl
def f67.l2.step {R : Type} (k : Nat) (rec_ : (List Int) → Int → Int → Option R) (ret : ((Int × Int) ⊕ (Int)) → Option R) (xs3 : List Int) (a4 : Int) (a5 : Int) : Option R :=
  if (decide (a5 < (((List.length xs3) : Nat) : Int))) = true then
    if (0 : Int) ≤ a5 then
      if a5 < ((List.length xs3 : Nat) : Int) then
        if (decide ((List.getD xs3 (Int.toNat a5) (0 : Int)) ≠ a4)) = true then
          ret (.inl (a4, (-1 : Int)))
        else
          rec_ xs3 (IntKind.i64.wrap (a4 + (1 : Int))) (IntKind.i64.wrap (a5 + (1 : Int)))
      else none
    else none
  else
    ret (.inr a4)
def f67.l2 (k : Nat) : Nat → (List Int) → Int → Int → Option ((Int × Int) ⊕ (Int))
  | 0, _, _, _ => none
  | j + 1, xs3, a4, a5 => f67.l2.step k (fun xs3 a4 a5 => f67.l2 k j xs3 a4 a5) some xs3 a4 a5
def f67.l2.w {R : Type} : ((Int × Int) ⊕ (Int)) → (Exit → St env → Option R) → Option R := fun x K => Sum.elim (fun t8 => K .ret ⟨fullT [1, 4] 0 21 [.v (.c (.s (.int .i64 t8.1))), .v (.c (.s (.int .i64 t8.2)))], [], 306⟩) (fun t9 => K (.exit 0) ⟨fullT [1] 0 21 [.v (.c (.s (.int .i64 t9)))], [], 306⟩) x
def f67.l2.st (xs3 : List Int) (a4 : Int) (a5 : Int) : St env := ⟨fullT [0, 1, 5] 0 21 [.v (.c (.imm 3 xs3)), .v (.c (.s (.int .i64 a4))), .v (.c (.s (.int .i64 a5)))], [], 34⟩
def f67.l2.hd (k : Nat) (ts_ : List (AV env)) (mm_ : Mem env) (n_ : Nat) : LCl env :=
  gTs LCl.no [0, 1, 5] 21 ts_ fun l_ => gV LCl.no l_ fun a_ l_ => rImm LCl.no 3 a_ fun xs3 => gV LCl.no l_ fun a_ l_ => rV LCl.no a_ fun v_ => vI LCl.no .i64 v_ fun a4 => gV LCl.no l_ fun a_ l_ => rV LCl.no a_ fun v_ => vI LCl.no .i64 v_ fun a5 => gE LCl.no l_ <| gE LCl.no mm_ <| gN LCl.no 34 n_ { α := (Int × Int) ⊕ (Int), o := f67.l2 k k xs3 a4 a5, w := f67.l2.w }
def f67.step {R : Type} (k : Nat) (ret : Int → Option R) (xs1 : List Int) (a2 : Int) : Option R :=
  (f67.l2 k k xs1 a2 (0 : Int)).bind (Sum.elim (fun t6 => ret t6.2) (fun t7 => ret t7))
def f67 (k : Nat) (xs1 : List Int) (a2 : Int) : Option Int := f67.step k some xs1 a2
def f67.w {R : Type} : Int → (Res env → Option R) → Option R := fun t10 K => K ⟨.v (.c (.s (.int .i64 t10))), [[], []]⟩
theorem f67.wn (x : Int) : ∃ res, ∀ {R : Type} (K : Res env → Option R), f67.w x K = K res := by
  exact ⟨_, fun _ => rfl⟩
def f67.hd (k : Nat) (ps_ : List (P2 env)) : Cl env :=
  gC Cl.no ps_ fun p_ ps_ => qC Cl.no p_ fun c_ => qSl Cl.no 3 c_ fun xs1 => gC Cl.no ps_ fun p_ ps_ => qC Cl.no p_ fun c_ => qS Cl.no c_ fun v_ => vI Cl.no .i64 v_ fun a2 => gE Cl.no ps_ <| { α := Int, o := f67 k xs1 a2, w := f67.w, nat := fun x _ => f67.wn x }
def f67.e (k : Nat) : Entry env := ⟨fun ps => f67.hd k (coer [[.rd 3], [.no]] ps), [], []⟩
def f67.X (k : Nat) : Ctx env := { C := lookE [], L := lookE [(2, fun S => f67.l2.hd k S.ts S.m S.n)], J := lookE [], keep := lookD [(2, [0, 1, 5])], keepX := lookD [(2, [1, 4])], span := lookN [(2, 272)], eff := fun n => memN n [], prep := lookP [], np := 0 }
theorem f67.l2.nat {R : Type} (k : Nat) (rec_ : (List Int) → Int → Int → Option ((Int × Int) ⊕ (Int))) (g : ((Int × Int) ⊕ (Int)) → Option R) (xs3 : List Int) (a4 : Int) (a5 : Int) : (f67.l2.step k rec_ some xs3 a4 a5).bind g = f67.l2.step k (fun xs3 a4 a5 => (rec_ xs3 a4 a5).bind g) g xs3 a4 a5 := by
  simp only [f67.l2.step, bind_ite, bind_sum, Option.bind_assoc, Option.bind_some, Option.bind_none]
theorem f67.l2.good (k : Nat) (xs3 : List Int) (a4 : Int) (a5 : Int) : GoodL (f67.X k) (nthC 0 (loopsOf (bodyOf Try.f67))) (f67.l2.st xs3 a4 a5) { α := ((Int × Int) ⊕ (Int)), o := f67.l2 k k xs3 a4 a5, w := f67.l2.w } :=
  loop_good (ι := (List Int) × Int × Int) (α := ((Int × Int) ⊕ (Int))) (fun i => f67.l2.st i.1 i.2.1 i.2.2) (fun j i => f67.l2 k j i.1 i.2.1 i.2.2) f67.l2.w (fun rec_ ret i => f67.l2.step k (fun xs3 a4 a5 => rec_ (xs3, a4, a5)) ret i.1 i.2.1 i.2.2)
    (fun _ => rfl) (fun _ _ => rfl) (fun rec_ g i => f67.l2.nat k _ g i.1 i.2.1 i.2.2) (fun {R} i0 i rec_ K => by kernel_rfl) k (xs3, a4, a5)
theorem f67.l2.all (k : Nat) (S : St env) : GoodL (f67.X k) (nthC 0 (loopsOf (bodyOf Try.f67))) S (f67.l2.hd k S.ts S.m S.n) := by
  obtain ⟨ts_, m_, n_⟩ := S
  show GoodL _ _ _ (f67.l2.hd k ts_ m_ n_)
  unfold f67.l2.hd
  refine gTs_ok (p := GoodL _ _ _) goodL_no fun _ h => ?_
  subst h
  refine gV_ok (p := GoodL _ _ _) goodL_no fun _ _ h => ?_
  subst h
  refine rImm_ok (p := GoodL _ _ _) goodL_no fun _ h => ?_
  subst h
  refine gV_ok (p := GoodL _ _ _) goodL_no fun _ _ h => ?_
  subst h
  refine rV_ok (p := GoodL _ _ _) goodL_no fun _ h => ?_
  subst h
  refine vI_ok (p := GoodL _ _ _) goodL_no fun _ h => ?_
  subst h
  refine gV_ok (p := GoodL _ _ _) goodL_no fun _ _ h => ?_
  subst h
  refine rV_ok (p := GoodL _ _ _) goodL_no fun _ h => ?_
  subst h
  refine vI_ok (p := GoodL _ _ _) goodL_no fun _ h => ?_
  subst h
  refine gE_ok (p := GoodL _ _ _) goodL_no fun h => ?_
  subst h
  refine gE_ok (p := GoodL _ _ _) goodL_no fun h => ?_
  subst h
  refine gN_ok (p := GoodL _ _ _) goodL_no fun h => ?_
  subst h
  exact f67.l2.good k _ _ _
theorem f67.nat {R : Type} (k : Nat) (g : Int → Option R) (xs1 : List Int) (a2 : Int) : f67.step k g xs1 a2 = (f67 k xs1 a2).bind g := by
  simp only [f67, f67.step, bind_ite, bind_sum, Option.bind_assoc, Option.bind_some, Option.bind_none]
theorem f67.ev (k : Nat) (xs1 : List Int) (a2 : Int) : evF (f67.X k) (bodyOf Try.f67) Try.f67.ntmps Try.f67.results.toList [.v (.c (.sl 3 xs1)), .v (.c (.s (.int .i64 a2)))] = f67.step k (fun x => f67.w x some) xs1 a2 := by kernel_rfl
theorem f67.hok (k : Nat) : HOK (f67.X k) (bodyOf Try.f67) where
  l := allP_mem (by exact ⟨ls_of (h0 := fun S => f67.l2.hd k S.ts S.m S.n) (by kernel_rfl) (f67.l2.all k), trivial⟩)
  j := allP_mem (by exact trivial)
theorem f67.sound0 (k : Nat) : SoundC env Try.prog 67 (f67.hd k) := by
  intro ps_
  show GoodC _ _ _ ps_ (f67.hd k ps_)
  unfold f67.hd
  refine gC_ok (p := GoodC env Try.prog 67 _) goodC_no fun _ _ h => ?_
  subst h
  refine qC_ok (p := GoodC env Try.prog 67 _) goodC_no fun _ h => ?_
  subst h
  refine qSl_ok (p := GoodC env Try.prog 67 _) goodC_no fun _ h => ?_
  subst h
  refine gC_ok (p := GoodC env Try.prog 67 _) goodC_no fun _ _ h => ?_
  subst h
  refine qC_ok (p := GoodC env Try.prog 67 _) goodC_no fun _ h => ?_
  subst h
  refine qS_ok (p := GoodC env Try.prog 67 _) goodC_no fun _ h => ?_
  subst h
  refine vI_ok (p := GoodC env Try.prog 67 _) goodC_no fun _ h => ?_
  subst h
  refine gE_ok (p := GoodC env Try.prog 67 _) goodC_no fun h => ?_
  subst h
  exact fun_good (fun_sound envOK (cs_sound _ (by exact trivial)) (f67.hok k) Try.func67 rfl) ((f67.ev k _ _).trans (f67.nat k _ _ _))
theorem f67.sound (k : Nat) : SoundC env Try.prog 67 (f67.e k).F := soundC_coer (f67.sound0 k) [[.rd 3], [.no]]
theorem f67.says (k : Nat) (xs1 : List Int) (a2 : Int) (t11 : Int) (h_ : f67 k xs1 a2 = some t11) : SoundAt env Try.prog 67 [.v (.c (.sl 3 xs1)), .v (.c (.s (.int .i64 a2)))] ⟨.v (.c (.s (.int .i64 t11))), [[], []]⟩ :=
  fun_sound envOK (cs_sound _ (by exact trivial)) (f67.hok k) Try.func67 rfl _ _ (((f67.ev k xs1 a2).trans (f67.nat k _ xs1 a2)).trans (by rw [h_]; rfl))
theorem f67.fnok : FnOK Try.prog 67 := fn_ok Try.func67 (by kernel_rfl) rfl
def f11.step {R : Type} (k : Nat) (ret : Bool → Option R) (xs1 : List S195) (xs2 : List (List S225)) (a3 : Int) (a4 : Int) (a5 : Int) : Option R :=
  (f41 k xs1 xs2 a3 (1048576 : Int)).bind fun t6 => if (decide (t6 < (0 : Int))) = true then
      ret true
    else
      (f43 k xs1 xs2 a3).bind fun t7 => (f64 k t7.1 t7.2.1 t7.2.2 a4 a5).bind fun t8 => (f43 k xs1 xs2 a3).bind fun t9 => (f65 k t9.1 t9.2.1 t9.2.2 a4 a5).bind (Sum.elim (fun t10 => (f25 k ([] : List Int) t8.1).bind fun t11 => if (!t11) = false then
                  if (decide (t10 ≠ t8.2)) = true then
                    ret false
                  else
                    (f43 k xs1 xs2 a3).bind fun t12 => (f45 k t9.1 t9.2.1 t9.2.2 t12.1 t12.2.1 t12.2.2).bind fun t13 => if (!t13) = true then
                          ret false
                        else
                          (f66 k t9.1 t9.2.1 t9.2.2 (1 : Int)).bind fun t14 => if (decide (t14.1 < (0 : Int))) = false then
                              (f25 k ([] : List Int) t8.1).bind fun t15 => if (!t15) = false then
                                  if (decide (t10 ≠ t8.2)) = true then
                                    ret false
                                  else
                                    (f26 k ([] : List Int) (1 : Int)).bind fun t16 => (f67 k ([] : List Int) (1 : Int)).bind fun t17 => if (decide (t17 < (0 : Int))) = true then
                                          ret false
                                        else
                                          if (decide (t17 ≠ t16.1)) = true then
                                            ret false
                                          else
                                            (f43 k xs1 xs2 a3).bind fun t18 => (f65 k t18.1 t18.2.1 t18.2.2 a4 a5).bind (Sum.elim (fun t19 => (f25 k ([] : List Int) t8.1).bind fun t20 => if (!t20) = false then
                                                    if (decide (t19 ≠ t8.2)) = true then
                                                      ret false
                                                    else
                                                      (f67 k ([] : List Int) (1 : Int)).bind fun t21 => if (decide (t21 < (0 : Int))) = true then
                                                          ret false
                                                        else
                                                          if (decide (t21 ≠ t16.1)) = true then
                                                            ret false
                                                          else
                                                            ret true
                                                  else
                                                    ret false) (fun t22 => (f25 k t22.1 t8.1).bind fun t23 => if (!t23) = false then
                                                    if (decide (t22.2 ≠ t8.2)) = true then
                                                      ret false
                                                    else
                                                      (f67 k ([] : List Int) (1 : Int)).bind fun t24 => if (decide (t24 < (0 : Int))) = true then
                                                          ret false
                                                        else
                                                          if (decide (t24 ≠ t16.1)) = true then
                                                            ret false
                                                          else
                                                            ret true
                                                  else
                                                    ret false))
                                else
                                  ret false
                            else
                              ret false
                else
                  ret false) (fun t25 => (f25 k t25.1 t8.1).bind fun t26 => if (!t26) = false then
                  if (decide (t25.2 ≠ t8.2)) = true then
                    ret false
                  else
                    (f43 k xs1 xs2 a3).bind fun t27 => (f45 k t9.1 t9.2.1 t9.2.2 t27.1 t27.2.1 t27.2.2).bind fun t28 => if (!t28) = true then
                          ret false
                        else
                          (f66 k t9.1 t9.2.1 t9.2.2 (1 : Int)).bind fun t29 => if (decide (t29.1 < (0 : Int))) = false then
                              (f25 k t25.1 t8.1).bind fun t30 => if (!t30) = false then
                                  if (decide (t25.2 ≠ t8.2)) = true then
                                    ret false
                                  else
                                    (f26 k t25.1 (1 : Int)).bind fun t31 => (f67 k t31.2 (1 : Int)).bind fun t32 => if (decide (t32 < (0 : Int))) = true then
                                          ret false
                                        else
                                          if (decide (t32 ≠ t31.1)) = true then
                                            ret false
                                          else
                                            (f43 k xs1 xs2 a3).bind fun t33 => (f65 k t33.1 t33.2.1 t33.2.2 a4 a5).bind (Sum.elim (fun t34 => (f25 k ([] : List Int) t8.1).bind fun t35 => if (!t35) = false then
                                                    if (decide (t34 ≠ t8.2)) = true then
                                                      ret false
                                                    else
                                                      (f67 k t31.2 (1 : Int)).bind fun t36 => if (decide (t36 < (0 : Int))) = true then
                                                          ret false
                                                        else
                                                          if (decide (t36 ≠ t31.1)) = true then
                                                            ret false
                                                          else
                                                            ret true
                                                  else
                                                    ret false) (fun t37 => (f25 k t37.1 t8.1).bind fun t38 => if (!t38) = false then
                                                    if (decide (t37.2 ≠ t8.2)) = true then
                                                      ret false
                                                    else
                                                      (f67 k t31.2 (1 : Int)).bind fun t39 => if (decide (t39 < (0 : Int))) = true then
                                                          ret false
                                                        else
                                                          if (decide (t39 ≠ t31.1)) = true then
                                                            ret false
                                                          else
                                                            ret true
                                                  else
                                                    ret false))
                                else
                                  ret false
                            else
                              ret false
                else
                  ret false))
def f11 (k : Nat) (xs1 : List S195) (xs2 : List (List S225)) (a3 : Int) (a4 : Int) (a5 : Int) : Option Bool := f11.step k some xs1 xs2 a3 a4 a5
def f11.w {R : Type} : Bool → (Res env → Option R) → Option R := fun t40 K => K ⟨.v (.c (.s (.bool t40))), [[], [], []]⟩
theorem f11.wn (x : Bool) : ∃ res, ∀ {R : Type} (K : Res env → Option R), f11.w x K = K res := by
  exact ⟨_, fun _ => rfl⟩
def f11.hd (k : Nat) (ps_ : List (P2 env)) : Cl env :=
  gC Cl.no ps_ fun p_ ps_ => qG Cl.no p_ fun cs_ => gC Cl.no cs_ fun c_ cs_ => qSl Cl.no 195 c_ fun xs1 => gC Cl.no cs_ fun c_ cs_ => qSl Cl.no 193 c_ fun xs2 => gC Cl.no cs_ fun c_ cs_ => qS Cl.no c_ fun v_ => vI Cl.no .i64 v_ fun a3 => gE Cl.no cs_ <| gC Cl.no ps_ fun p_ ps_ => qC Cl.no p_ fun c_ => qS Cl.no c_ fun v_ => vI Cl.no .i64 v_ fun a4 => gC Cl.no ps_ fun p_ ps_ => qC Cl.no p_ fun c_ => qS Cl.no c_ fun v_ => vI Cl.no .i64 v_ fun a5 => gE Cl.no ps_ <| { α := Bool, o := f11 k xs1 xs2 a3 a4 a5, w := f11.w, nat := fun x _ => f11.wn x }
def f11.e (k : Nat) : Entry env := ⟨fun ps => f11.hd k (coer [[.rd 195, .rd 193, .no], [.no], [.no]] ps), [], []⟩
def f11.X (k : Nat) : Ctx env := { C := lookE [(25, f25.e k), (26, f26.e k), (41, f41.e k), (43, f43.e k), (45, f45.e k), (64, f64.e k), (65, f65.e k), (66, f66.e k), (67, f67.e k)], L := lookE [], J := lookE [], keep := lookD [], keepX := lookD [], span := lookN [], eff := fun n => memN n [10], prep := lookP [], np := 0 }
theorem f11.nat {R : Type} (k : Nat) (g : Bool → Option R) (xs1 : List S195) (xs2 : List (List S225)) (a3 : Int) (a4 : Int) (a5 : Int) : f11.step k g xs1 xs2 a3 a4 a5 = (f11 k xs1 xs2 a3 a4 a5).bind g := by
  simp only [f11, f11.step, bind_ite, bind_sum, Option.bind_assoc, Option.bind_some, Option.bind_none]
theorem f11.ev (k : Nat) (xs1 : List S195) (xs2 : List (List S225)) (a3 : Int) (a4 : Int) (a5 : Int) : evF (f11.X k) (bodyOf Try.f11) Try.f11.ntmps Try.f11.results.toList [.g [.sl 195 xs1, .sl 193 xs2, .s (.int .i64 a3)], .v (.c (.s (.int .i64 a4))), .v (.c (.s (.int .i64 a5)))] = f11.step k (fun x => f11.w x some) xs1 xs2 a3 a4 a5 := by kernel_rfl
theorem f11.hok (k : Nat) : HOK (f11.X k) (bodyOf Try.f11) where
  l := allP_mem (by exact trivial)
  j := allP_mem (by exact trivial)
theorem f11.sound0 (k : Nat) : SoundC env Try.prog 11 (f11.hd k) := by
  intro ps_
  show GoodC _ _ _ ps_ (f11.hd k ps_)
  unfold f11.hd
  refine gC_ok (p := GoodC env Try.prog 11 _) goodC_no fun _ _ h => ?_
  subst h
  refine qG_ok (p := GoodC env Try.prog 11 _) goodC_no fun _ h => ?_
  subst h
  refine gC_ok (p := GoodC env Try.prog 11 _) goodC_no fun _ _ h => ?_
  subst h
  refine qSl_ok (p := GoodC env Try.prog 11 _) goodC_no fun _ h => ?_
  subst h
  refine gC_ok (p := GoodC env Try.prog 11 _) goodC_no fun _ _ h => ?_
  subst h
  refine qSl_ok (p := GoodC env Try.prog 11 _) goodC_no fun _ h => ?_
  subst h
  refine gC_ok (p := GoodC env Try.prog 11 _) goodC_no fun _ _ h => ?_
  subst h
  refine qS_ok (p := GoodC env Try.prog 11 _) goodC_no fun _ h => ?_
  subst h
  refine vI_ok (p := GoodC env Try.prog 11 _) goodC_no fun _ h => ?_
  subst h
  refine gE_ok (p := GoodC env Try.prog 11 _) goodC_no fun h => ?_
  subst h
  refine gC_ok (p := GoodC env Try.prog 11 _) goodC_no fun _ _ h => ?_
  subst h
  refine qC_ok (p := GoodC env Try.prog 11 _) goodC_no fun _ h => ?_
  subst h
  refine qS_ok (p := GoodC env Try.prog 11 _) goodC_no fun _ h => ?_
  subst h
  refine vI_ok (p := GoodC env Try.prog 11 _) goodC_no fun _ h => ?_
  subst h
  refine gC_ok (p := GoodC env Try.prog 11 _) goodC_no fun _ _ h => ?_
  subst h
  refine qC_ok (p := GoodC env Try.prog 11 _) goodC_no fun _ h => ?_
  subst h
  refine qS_ok (p := GoodC env Try.prog 11 _) goodC_no fun _ h => ?_
  subst h
  refine vI_ok (p := GoodC env Try.prog 11 _) goodC_no fun _ h => ?_
  subst h
  refine gE_ok (p := GoodC env Try.prog 11 _) goodC_no fun h => ?_
  subst h
  exact fun_good (fun_sound envOK (cs_sound _ (by exact ⟨⟨f25.sound k, f25.fnok⟩, ⟨f26.sound k, f26.fnok⟩, ⟨f41.sound k, f41.fnok⟩, ⟨f43.sound k, f43.fnok⟩, ⟨f45.sound k, f45.fnok⟩, ⟨f64.sound k, f64.fnok⟩, ⟨f65.sound k, f65.fnok⟩, ⟨f66.sound k, f66.fnok⟩, ⟨f67.sound k, f67.fnok⟩, trivial⟩)) (f11.hok k) Try.func11 rfl) ((f11.ev k _ _ _ _ _).trans (f11.nat k _ _ _ _ _ _))
theorem f11.sound (k : Nat) : SoundC env Try.prog 11 (f11.e k).F := soundC_coer (f11.sound0 k) [[.rd 195, .rd 193, .no], [.no], [.no]]
theorem f11.says (k : Nat) (xs1 : List S195) (xs2 : List (List S225)) (a3 : Int) (a4 : Int) (a5 : Int) (t41 : Bool) (h_ : f11 k xs1 xs2 a3 a4 a5 = some t41) : SoundAt env Try.prog 11 [.g [.sl 195 xs1, .sl 193 xs2, .s (.int .i64 a3)], .v (.c (.s (.int .i64 a4))), .v (.c (.s (.int .i64 a5)))] ⟨.v (.c (.s (.bool t41))), [[], [], []]⟩ :=
  fun_sound envOK (cs_sound _ (by exact ⟨⟨f25.sound k, f25.fnok⟩, ⟨f26.sound k, f26.fnok⟩, ⟨f41.sound k, f41.fnok⟩, ⟨f43.sound k, f43.fnok⟩, ⟨f45.sound k, f45.fnok⟩, ⟨f64.sound k, f64.fnok⟩, ⟨f65.sound k, f65.fnok⟩, ⟨f66.sound k, f66.fnok⟩, ⟨f67.sound k, f67.fnok⟩, trivial⟩)) (f11.hok k) Try.func11 rfl _ _ (((f11.ev k xs1 xs2 a3 a4 a5).trans (f11.nat k _ xs1 xs2 a3 a4 a5)).trans (by rw [h_]; rfl))
theorem f11.fnok : FnOK Try.prog 11 := fn_ok Try.func11 (by kernel_rfl) rfl
end Go.Proofs.Ytildepkogbcdpaa.B

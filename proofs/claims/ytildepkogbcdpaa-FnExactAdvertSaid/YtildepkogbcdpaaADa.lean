/- Written by a program of this session. -/
import Derived.Test.YtildepkogbcdpaaBEnv
import Derived.Test.YtildepkogbcdpaaBHd
namespace Go.Proofs.Ytildepkogbcdpaa.B
open Go Go.B
set_option linter.unusedVariables false
set_option linter.unusedSimpArgs false
def f102.step {R : Type} (k : Nat) (ret : Int → Option R) (xs1 : List S195) (a2 : Int) : Option R :=
  if (decide ((IntKind.i64.wrap (a2 - (((List.length xs1) : Nat) : Int))) < (0 : Int))) = true then
    ret (-1 : Int)
  else
    ret (IntKind.i64.wrap (a2 - (((List.length xs1) : Nat) : Int)))
def f102 (k : Nat) (xs1 : List S195) (a2 : Int) : Option Int := f102.step k some xs1 a2
def f102.w {R : Type} : Int → (Res env → Option R) → Option R := fun t3 K => K ⟨.v (.c (.s (.int .i64 t3))), [[], []]⟩
theorem f102.wn (x : Int) : ∃ res, ∀ {R : Type} (K : Res env → Option R), f102.w x K = K res := by
  exact ⟨_, fun _ => rfl⟩
def f102.hd (k : Nat) (ps_ : List (P2 env)) : Cl env :=
  gC Cl.no ps_ fun p_ ps_ => qC Cl.no p_ fun c_ => qSl Cl.no 195 c_ fun xs1 => gC Cl.no ps_ fun p_ ps_ => qC Cl.no p_ fun c_ => qS Cl.no c_ fun v_ => vI Cl.no .i64 v_ fun a2 => gE Cl.no ps_ <| { α := Int, o := f102 k xs1 a2, w := f102.w, nat := fun x _ => f102.wn x }
def f102.e (k : Nat) : Entry env := ⟨fun ps => f102.hd k (coer [[.rd 195], [.no]] ps), [], []⟩
def f102.X (k : Nat) : Ctx env := { C := lookE [], L := lookE [], J := lookE [], keep := lookD [], keepX := lookD [], span := lookN [], eff := fun n => memN n [], prep := lookP [], np := 0 }
theorem f102.nat {R : Type} (k : Nat) (g : Int → Option R) (xs1 : List S195) (a2 : Int) : f102.step k g xs1 a2 = (f102 k xs1 a2).bind g := by
  simp only [f102, f102.step, bind_ite, bind_sum, Option.bind_assoc, Option.bind_some, Option.bind_none]
theorem f102.ev (k : Nat) (xs1 : List S195) (a2 : Int) : evF (f102.X k) (bodyOf Try.f102) Try.f102.ntmps Try.f102.results.toList [.v (.c (.sl 195 xs1)), .v (.c (.s (.int .i64 a2)))] = f102.step k (fun x => f102.w x some) xs1 a2 := by kernel_rfl
theorem f102.hok (k : Nat) : HOK (f102.X k) (bodyOf Try.f102) where
  l := allP_mem (by exact trivial)
  j := allP_mem (by exact trivial)
theorem f102.sound0 (k : Nat) : SoundC env Try.prog 102 (f102.hd k) := by
  intro ps_
  show GoodC _ _ _ ps_ (f102.hd k ps_)
  unfold f102.hd
  refine gC_ok (p := GoodC env Try.prog 102 _) goodC_no fun _ _ h => ?_
  subst h
  refine qC_ok (p := GoodC env Try.prog 102 _) goodC_no fun _ h => ?_
  subst h
  refine qSl_ok (p := GoodC env Try.prog 102 _) goodC_no fun _ h => ?_
  subst h
  refine gC_ok (p := GoodC env Try.prog 102 _) goodC_no fun _ _ h => ?_
  subst h
  refine qC_ok (p := GoodC env Try.prog 102 _) goodC_no fun _ h => ?_
  subst h
  refine qS_ok (p := GoodC env Try.prog 102 _) goodC_no fun _ h => ?_
  subst h
  refine vI_ok (p := GoodC env Try.prog 102 _) goodC_no fun _ h => ?_
  subst h
  refine gE_ok (p := GoodC env Try.prog 102 _) goodC_no fun h => ?_
  subst h
  exact fun_good (fun_sound envOK (cs_sound _ (by exact trivial)) (f102.hok k) Try.func102 rfl) ((f102.ev k _ _).trans (f102.nat k _ _ _))
theorem f102.sound (k : Nat) : SoundC env Try.prog 102 (f102.e k).F := soundC_coer (f102.sound0 k) [[.rd 195], [.no]]
theorem f102.says (k : Nat) (xs1 : List S195) (a2 : Int) (t4 : Int) (h_ : f102 k xs1 a2 = some t4) : SoundAt env Try.prog 102 [.v (.c (.sl 195 xs1)), .v (.c (.s (.int .i64 a2)))] ⟨.v (.c (.s (.int .i64 t4))), [[], []]⟩ :=
  fun_sound envOK (cs_sound _ (by exact trivial)) (f102.hok k) Try.func102 rfl _ _ (((f102.ev k xs1 a2).trans (f102.nat k _ xs1 a2)).trans (by rw [h_]; rfl))
theorem f102.fnok : FnOK Try.prog 102 := fn_ok Try.func102 (by kernel_rfl) rfl
def f156.step {R : Type} (k : Nat) (ret : Int → Option R) (xs1 : List S225) (a2 : Int) : Option R :=
  if (decide ((IntKind.i64.wrap (a2 - (((List.length xs1) : Nat) : Int))) < (0 : Int))) = true then
    ret (-1 : Int)
  else
    ret (IntKind.i64.wrap (a2 - (((List.length xs1) : Nat) : Int)))
def f156 (k : Nat) (xs1 : List S225) (a2 : Int) : Option Int := f156.step k some xs1 a2
def f156.w {R : Type} : Int → (Res env → Option R) → Option R := fun t3 K => K ⟨.v (.c (.s (.int .i64 t3))), [[], []]⟩
theorem f156.wn (x : Int) : ∃ res, ∀ {R : Type} (K : Res env → Option R), f156.w x K = K res := by
  exact ⟨_, fun _ => rfl⟩
def f156.hd (k : Nat) (ps_ : List (P2 env)) : Cl env :=
  gC Cl.no ps_ fun p_ ps_ => qC Cl.no p_ fun c_ => qSl Cl.no 225 c_ fun xs1 => gC Cl.no ps_ fun p_ ps_ => qC Cl.no p_ fun c_ => qS Cl.no c_ fun v_ => vI Cl.no .i64 v_ fun a2 => gE Cl.no ps_ <| { α := Int, o := f156 k xs1 a2, w := f156.w, nat := fun x _ => f156.wn x }
def f156.e (k : Nat) : Entry env := ⟨fun ps => f156.hd k (coer [[.rd 225], [.no]] ps), [], []⟩
def f156.X (k : Nat) : Ctx env := { C := lookE [], L := lookE [], J := lookE [], keep := lookD [], keepX := lookD [], span := lookN [], eff := fun n => memN n [], prep := lookP [], np := 0 }
theorem f156.nat {R : Type} (k : Nat) (g : Int → Option R) (xs1 : List S225) (a2 : Int) : f156.step k g xs1 a2 = (f156 k xs1 a2).bind g := by
  simp only [f156, f156.step, bind_ite, bind_sum, Option.bind_assoc, Option.bind_some, Option.bind_none]
theorem f156.ev (k : Nat) (xs1 : List S225) (a2 : Int) : evF (f156.X k) (bodyOf Try.f156) Try.f156.ntmps Try.f156.results.toList [.v (.c (.sl 225 xs1)), .v (.c (.s (.int .i64 a2)))] = f156.step k (fun x => f156.w x some) xs1 a2 := by kernel_rfl
theorem f156.hok (k : Nat) : HOK (f156.X k) (bodyOf Try.f156) where
  l := allP_mem (by exact trivial)
  j := allP_mem (by exact trivial)
theorem f156.sound0 (k : Nat) : SoundC env Try.prog 156 (f156.hd k) := by
  intro ps_
  show GoodC _ _ _ ps_ (f156.hd k ps_)
  unfold f156.hd
  refine gC_ok (p := GoodC env Try.prog 156 _) goodC_no fun _ _ h => ?_
  subst h
  refine qC_ok (p := GoodC env Try.prog 156 _) goodC_no fun _ h => ?_
  subst h
  refine qSl_ok (p := GoodC env Try.prog 156 _) goodC_no fun _ h => ?_
  subst h
  refine gC_ok (p := GoodC env Try.prog 156 _) goodC_no fun _ _ h => ?_
  subst h
  refine qC_ok (p := GoodC env Try.prog 156 _) goodC_no fun _ h => ?_
  subst h
  refine qS_ok (p := GoodC env Try.prog 156 _) goodC_no fun _ h => ?_
  subst h
  refine vI_ok (p := GoodC env Try.prog 156 _) goodC_no fun _ h => ?_
  subst h
  refine gE_ok (p := GoodC env Try.prog 156 _) goodC_no fun h => ?_
  subst h
  exact fun_good (fun_sound envOK (cs_sound _ (by exact trivial)) (f156.hok k) Try.func156 rfl) ((f156.ev k _ _).trans (f156.nat k _ _ _))
theorem f156.sound (k : Nat) : SoundC env Try.prog 156 (f156.e k).F := soundC_coer (f156.sound0 k) [[.rd 225], [.no]]
theorem f156.says (k : Nat) (xs1 : List S225) (a2 : Int) (t4 : Int) (h_ : f156 k xs1 a2 = some t4) : SoundAt env Try.prog 156 [.v (.c (.sl 225 xs1)), .v (.c (.s (.int .i64 a2)))] ⟨.v (.c (.s (.int .i64 t4))), [[], []]⟩ :=
  fun_sound envOK (cs_sound _ (by exact trivial)) (f156.hok k) Try.func156 rfl _ _ (((f156.ev k xs1 a2).trans (f156.nat k _ xs1 a2)).trans (by rw [h_]; rfl))
theorem f156.fnok : FnOK Try.prog 156 := fn_ok Try.func156 (by kernel_rfl) rfl
def f103.l5.step {R : Type} (k : Nat) (rec_ : (List (List S225)) → Int → Int → Option R) (ret : ((Int × Int) ⊕ (Int)) → Option R) (xs3 : List (List S225)) (a4 : Int) (a5 : Int) : Option R :=
  if (decide (a5 < (((List.length xs3) : Nat) : Int))) = true then
    if (0 : Int) ≤ a5 then
      if a5 < ((List.length xs3 : Nat) : Int) then
        (f156 k (List.getD xs3 (Int.toNat a5) []) a4).bind fun t6 => if (decide (t6 < (0 : Int))) = true then
            ret (.inl (t6, (-1 : Int)))
          else
            rec_ xs3 t6 (IntKind.i64.wrap (a5 + (1 : Int)))
      else none
    else none
  else
    ret (.inr a4)
def f103.l5 (k : Nat) : Nat → (List (List S225)) → Int → Int → Option ((Int × Int) ⊕ (Int))
  | 0, _, _, _ => none
  | j + 1, xs3, a4, a5 => f103.l5.step k (fun xs3 a4 a5 => f103.l5 k j xs3 a4 a5) some xs3 a4 a5
def f103.l5.w {R : Type} : ((Int × Int) ⊕ (Int)) → (Exit → St env → Option R) → Option R := fun x K => Sum.elim (fun t9 => K .ret ⟨fullT [1, 4] 0 27 [.v (.c (.s (.int .i64 t9.1))), .v (.c (.s (.int .i64 t9.2)))], [], 418⟩) (fun t10 => K (.exit 0) ⟨fullT [1] 0 27 [.v (.c (.s (.int .i64 t10)))], [], 418⟩) x
def f103.l5.st (xs3 : List (List S225)) (a4 : Int) (a5 : Int) : St env := ⟨fullT [0, 1, 5] 0 27 [.v (.c (.imm 193 xs3)), .v (.c (.s (.int .i64 a4))), .v (.c (.s (.int .i64 a5)))], [], 146⟩
def f103.l5.hd (k : Nat) (ts_ : List (AV env)) (mm_ : Mem env) (n_ : Nat) : LCl env :=
  gTs LCl.no [0, 1, 5] 27 ts_ fun l_ => gV LCl.no l_ fun a_ l_ => rImm LCl.no 193 a_ fun xs3 => gV LCl.no l_ fun a_ l_ => rV LCl.no a_ fun v_ => vI LCl.no .i64 v_ fun a4 => gV LCl.no l_ fun a_ l_ => rV LCl.no a_ fun v_ => vI LCl.no .i64 v_ fun a5 => gE LCl.no l_ <| gE LCl.no mm_ <| gN LCl.no 146 n_ { α := (Int × Int) ⊕ (Int), o := f103.l5 k k xs3 a4 a5, w := f103.l5.w }
def f103.step {R : Type} (k : Nat) (ret : Int → Option R) (xs1 : List (List S225)) (a2 : Int) : Option R :=
  if (decide ((IntKind.i64.wrap (a2 - (((List.length xs1) : Nat) : Int))) < (0 : Int))) = true then
    ret (-1 : Int)
  else
    (f103.l5 k k xs1 (IntKind.i64.wrap (a2 - (((List.length xs1) : Nat) : Int))) (0 : Int)).bind (Sum.elim (fun t7 => ret t7.2) (fun t8 => ret t8))
def f103 (k : Nat) (xs1 : List (List S225)) (a2 : Int) : Option Int := f103.step k some xs1 a2
def f103.w {R : Type} : Int → (Res env → Option R) → Option R := fun t11 K => K ⟨.v (.c (.s (.int .i64 t11))), [[], []]⟩
theorem f103.wn (x : Int) : ∃ res, ∀ {R : Type} (K : Res env → Option R), f103.w x K = K res := by
  exact ⟨_, fun _ => rfl⟩
def f103.hd (k : Nat) (ps_ : List (P2 env)) : Cl env :=
  gC Cl.no ps_ fun p_ ps_ => qC Cl.no p_ fun c_ => qSl Cl.no 193 c_ fun xs1 => gC Cl.no ps_ fun p_ ps_ => qC Cl.no p_ fun c_ => qS Cl.no c_ fun v_ => vI Cl.no .i64 v_ fun a2 => gE Cl.no ps_ <| { α := Int, o := f103 k xs1 a2, w := f103.w, nat := fun x _ => f103.wn x }
def f103.e (k : Nat) : Entry env := ⟨fun ps => f103.hd k (coer [[.rd 193], [.no]] ps), [], []⟩
def f103.X (k : Nat) : Ctx env := { C := lookE [(156, f156.e k)], L := lookE [(5, fun S => f103.l5.hd k S.ts S.m S.n)], J := lookE [], keep := lookD [(5, [0, 1, 5])], keepX := lookD [(5, [1, 4])], span := lookN [(5, 272)], eff := fun n => memN n [], prep := lookP [], np := 0 }
theorem f103.l5.nat {R : Type} (k : Nat) (rec_ : (List (List S225)) → Int → Int → Option ((Int × Int) ⊕ (Int))) (g : ((Int × Int) ⊕ (Int)) → Option R) (xs3 : List (List S225)) (a4 : Int) (a5 : Int) : (f103.l5.step k rec_ some xs3 a4 a5).bind g = f103.l5.step k (fun xs3 a4 a5 => (rec_ xs3 a4 a5).bind g) g xs3 a4 a5 := by
  simp only [f103.l5.step, bind_ite, bind_sum, Option.bind_assoc, Option.bind_some, Option.bind_none]
theorem f103.l5.good (k : Nat) (xs3 : List (List S225)) (a4 : Int) (a5 : Int) : GoodL (f103.X k) (nthC 0 (loopsOf (bodyOf Try.f103))) (f103.l5.st xs3 a4 a5) { α := ((Int × Int) ⊕ (Int)), o := f103.l5 k k xs3 a4 a5, w := f103.l5.w } :=
  loop_good (ι := (List (List S225)) × Int × Int) (α := ((Int × Int) ⊕ (Int))) (fun i => f103.l5.st i.1 i.2.1 i.2.2) (fun j i => f103.l5 k j i.1 i.2.1 i.2.2) f103.l5.w (fun rec_ ret i => f103.l5.step k (fun xs3 a4 a5 => rec_ (xs3, a4, a5)) ret i.1 i.2.1 i.2.2)
    (fun _ => rfl) (fun _ _ => rfl) (fun rec_ g i => f103.l5.nat k _ g i.1 i.2.1 i.2.2) (fun {R} i0 i rec_ K => by kernel_rfl) k (xs3, a4, a5)
theorem f103.l5.all (k : Nat) (S : St env) : GoodL (f103.X k) (nthC 0 (loopsOf (bodyOf Try.f103))) S (f103.l5.hd k S.ts S.m S.n) := by
  obtain ⟨ts_, m_, n_⟩ := S
  show GoodL _ _ _ (f103.l5.hd k ts_ m_ n_)
  unfold f103.l5.hd
  refine gTs_ok (p := GoodL _ _ _) goodL_no fun _ h => ?_
  subst h
  refine gV_ok (p := GoodL _ _ _) goodL_no fun _ _ h => ?_
  subst h
  refine rImm_ok (p := GoodL _ _ _) goodL_no fun _ h => ?_
  subst h
  refine gV_ok (p := GoodL _ _ _) goodL_no fun _ _ h => ?_
  subst h
  refine rV_ok (p := GoodL _ _ _) goodL_no fun _ h => ?_
  subst h
  refine vI_ok (p := GoodL _ _ _) goodL_no fun _ h => ?_
  subst h
  refine gV_ok (p := GoodL _ _ _) goodL_no fun _ _ h => ?_
  subst h
  refine rV_ok (p := GoodL _ _ _) goodL_no fun _ h => ?_
  subst h
  refine vI_ok (p := GoodL _ _ _) goodL_no fun _ h => ?_
  subst h
  refine gE_ok (p := GoodL _ _ _) goodL_no fun h => ?_
  subst h
  refine gE_ok (p := GoodL _ _ _) goodL_no fun h => ?_
  subst h
  refine gN_ok (p := GoodL _ _ _) goodL_no fun h => ?_
  subst h
  exact f103.l5.good k _ _ _
theorem f103.nat {R : Type} (k : Nat) (g : Int → Option R) (xs1 : List (List S225)) (a2 : Int) : f103.step k g xs1 a2 = (f103 k xs1 a2).bind g := by
  simp only [f103, f103.step, bind_ite, bind_sum, Option.bind_assoc, Option.bind_some, Option.bind_none]
theorem f103.ev (k : Nat) (xs1 : List (List S225)) (a2 : Int) : evF (f103.X k) (bodyOf Try.f103) Try.f103.ntmps Try.f103.results.toList [.v (.c (.sl 193 xs1)), .v (.c (.s (.int .i64 a2)))] = f103.step k (fun x => f103.w x some) xs1 a2 := by kernel_rfl
theorem f103.hok (k : Nat) : HOK (f103.X k) (bodyOf Try.f103) where
  l := allP_mem (by exact ⟨ls_of (h0 := fun S => f103.l5.hd k S.ts S.m S.n) (by kernel_rfl) (f103.l5.all k), trivial⟩)
  j := allP_mem (by exact trivial)
theorem f103.sound0 (k : Nat) : SoundC env Try.prog 103 (f103.hd k) := by
  intro ps_
  show GoodC _ _ _ ps_ (f103.hd k ps_)
  unfold f103.hd
  refine gC_ok (p := GoodC env Try.prog 103 _) goodC_no fun _ _ h => ?_
  subst h
  refine qC_ok (p := GoodC env Try.prog 103 _) goodC_no fun _ h => ?_
  subst h
  refine qSl_ok (p := GoodC env Try.prog 103 _) goodC_no fun _ h => ?_
  subst h
  refine gC_ok (p := GoodC env Try.prog 103 _) goodC_no fun _ _ h => ?_
  subst h
  refine qC_ok (p := GoodC env Try.prog 103 _) goodC_no fun _ h => ?_
  subst h
  refine qS_ok (p := GoodC env Try.prog 103 _) goodC_no fun _ h => ?_
  subst h
  refine vI_ok (p := GoodC env Try.prog 103 _) goodC_no fun _ h => ?_
  subst h
  refine gE_ok (p := GoodC env Try.prog 103 _) goodC_no fun h => ?_
  subst h
  exact fun_good (fun_sound envOK (cs_sound _ (by exact ⟨⟨f156.sound k, f156.fnok⟩, trivial⟩)) (f103.hok k) Try.func103 rfl) ((f103.ev k _ _).trans (f103.nat k _ _ _))
theorem f103.sound (k : Nat) : SoundC env Try.prog 103 (f103.e k).F := soundC_coer (f103.sound0 k) [[.rd 193], [.no]]
theorem f103.says (k : Nat) (xs1 : List (List S225)) (a2 : Int) (t12 : Int) (h_ : f103 k xs1 a2 = some t12) : SoundAt env Try.prog 103 [.v (.c (.sl 193 xs1)), .v (.c (.s (.int .i64 a2)))] ⟨.v (.c (.s (.int .i64 t12))), [[], []]⟩ :=
  fun_sound envOK (cs_sound _ (by exact ⟨⟨f156.sound k, f156.fnok⟩, trivial⟩)) (f103.hok k) Try.func103 rfl _ _ (((f103.ev k xs1 a2).trans (f103.nat k _ xs1 a2)).trans (by rw [h_]; rfl))
theorem f103.fnok : FnOK Try.prog 103 := fn_ok Try.func103 (by kernel_rfl) rfl
def f41.step {R : Type} (k : Nat) (ret : Int → Option R) (xs1 : List S195) (xs2 : List (List S225)) (a3 : Int) (a4 : Int) : Option R :=
  (f102 k xs1 a4).bind fun t5 => if (decide (t5 < (0 : Int))) = true then
      ret (-1 : Int)
    else
      (f103 k xs2 t5).bind fun t6 => if (decide (t6 < (0 : Int))) = true then
          ret (-1 : Int)
        else
          ret t6
def f41 (k : Nat) (xs1 : List S195) (xs2 : List (List S225)) (a3 : Int) (a4 : Int) : Option Int := f41.step k some xs1 xs2 a3 a4
def f41.w {R : Type} : Int → (Res env → Option R) → Option R := fun t7 K => K ⟨.v (.c (.s (.int .i64 t7))), [[], []]⟩
theorem f41.wn (x : Int) : ∃ res, ∀ {R : Type} (K : Res env → Option R), f41.w x K = K res := by
  exact ⟨_, fun _ => rfl⟩
def f41.hd (k : Nat) (ps_ : List (P2 env)) : Cl env :=
  gC Cl.no ps_ fun p_ ps_ => qG Cl.no p_ fun cs_ => gC Cl.no cs_ fun c_ cs_ => qSl Cl.no 195 c_ fun xs1 => gC Cl.no cs_ fun c_ cs_ => qSl Cl.no 193 c_ fun xs2 => gC Cl.no cs_ fun c_ cs_ => qS Cl.no c_ fun v_ => vI Cl.no .i64 v_ fun a3 => gE Cl.no cs_ <| gC Cl.no ps_ fun p_ ps_ => qC Cl.no p_ fun c_ => qS Cl.no c_ fun v_ => vI Cl.no .i64 v_ fun a4 => gE Cl.no ps_ <| { α := Int, o := f41 k xs1 xs2 a3 a4, w := f41.w, nat := fun x _ => f41.wn x }
def f41.e (k : Nat) : Entry env := ⟨fun ps => f41.hd k (coer [[.rd 195, .rd 193, .no], [.no]] ps), [], []⟩
def f41.X (k : Nat) : Ctx env := { C := lookE [(102, f102.e k), (103, f103.e k)], L := lookE [], J := lookE [], keep := lookD [], keepX := lookD [], span := lookN [], eff := fun n => memN n [], prep := lookP [], np := 0 }
theorem f41.nat {R : Type} (k : Nat) (g : Int → Option R) (xs1 : List S195) (xs2 : List (List S225)) (a3 : Int) (a4 : Int) : f41.step k g xs1 xs2 a3 a4 = (f41 k xs1 xs2 a3 a4).bind g := by
  simp only [f41, f41.step, bind_ite, bind_sum, Option.bind_assoc, Option.bind_some, Option.bind_none]
theorem f41.ev (k : Nat) (xs1 : List S195) (xs2 : List (List S225)) (a3 : Int) (a4 : Int) : evF (f41.X k) (bodyOf Try.f41) Try.f41.ntmps Try.f41.results.toList [.g [.sl 195 xs1, .sl 193 xs2, .s (.int .i64 a3)], .v (.c (.s (.int .i64 a4)))] = f41.step k (fun x => f41.w x some) xs1 xs2 a3 a4 := by kernel_rfl
theorem f41.hok (k : Nat) : HOK (f41.X k) (bodyOf Try.f41) where
  l := allP_mem (by exact trivial)
  j := allP_mem (by exact trivial)
theorem f41.sound0 (k : Nat) : SoundC env Try.prog 41 (f41.hd k) := by
  intro ps_
  show GoodC _ _ _ ps_ (f41.hd k ps_)
  unfold f41.hd
  refine gC_ok (p := GoodC env Try.prog 41 _) goodC_no fun _ _ h => ?_
  subst h
  refine qG_ok (p := GoodC env Try.prog 41 _) goodC_no fun _ h => ?_
  subst h
  refine gC_ok (p := GoodC env Try.prog 41 _) goodC_no fun _ _ h => ?_
  subst h
  refine qSl_ok (p := GoodC env Try.prog 41 _) goodC_no fun _ h => ?_
  subst h
  refine gC_ok (p := GoodC env Try.prog 41 _) goodC_no fun _ _ h => ?_
  subst h
  refine qSl_ok (p := GoodC env Try.prog 41 _) goodC_no fun _ h => ?_
  subst h
  refine gC_ok (p := GoodC env Try.prog 41 _) goodC_no fun _ _ h => ?_
  subst h
  refine qS_ok (p := GoodC env Try.prog 41 _) goodC_no fun _ h => ?_
  subst h
  refine vI_ok (p := GoodC env Try.prog 41 _) goodC_no fun _ h => ?_
  subst h
  refine gE_ok (p := GoodC env Try.prog 41 _) goodC_no fun h => ?_
  subst h
  refine gC_ok (p := GoodC env Try.prog 41 _) goodC_no fun _ _ h => ?_
  subst h
  refine qC_ok (p := GoodC env Try.prog 41 _) goodC_no fun _ h => ?_
  subst h
  refine qS_ok (p := GoodC env Try.prog 41 _) goodC_no fun _ h => ?_
  subst h
  refine vI_ok (p := GoodC env Try.prog 41 _) goodC_no fun _ h => ?_
  subst h
  refine gE_ok (p := GoodC env Try.prog 41 _) goodC_no fun h => ?_
  subst h
  exact fun_good (fun_sound envOK (cs_sound _ (by exact ⟨⟨f102.sound k, f102.fnok⟩, ⟨f103.sound k, f103.fnok⟩, trivial⟩)) (f41.hok k) Try.func41 rfl) ((f41.ev k _ _ _ _).trans (f41.nat k _ _ _ _ _))
theorem f41.sound (k : Nat) : SoundC env Try.prog 41 (f41.e k).F := soundC_coer (f41.sound0 k) [[.rd 195, .rd 193, .no], [.no]]
theorem f41.says (k : Nat) (xs1 : List S195) (xs2 : List (List S225)) (a3 : Int) (a4 : Int) (t8 : Int) (h_ : f41 k xs1 xs2 a3 a4 = some t8) : SoundAt env Try.prog 41 [.g [.sl 195 xs1, .sl 193 xs2, .s (.int .i64 a3)], .v (.c (.s (.int .i64 a4)))] ⟨.v (.c (.s (.int .i64 t8))), [[], []]⟩ :=
  fun_sound envOK (cs_sound _ (by exact ⟨⟨f102.sound k, f102.fnok⟩, ⟨f103.sound k, f103.fnok⟩, trivial⟩)) (f41.hok k) Try.func41 rfl _ _ (((f41.ev k xs1 xs2 a3 a4).trans (f41.nat k _ xs1 xs2 a3 a4)).trans (by rw [h_]; rfl))
theorem f41.fnok : FnOK Try.prog 41 := fn_ok Try.func41 (by kernel_rfl) rfl
def f157.step {R : Type} (k : Nat) (ret : (Int × Int × Int × Bool) → Option R) (a1 : Int) (a2 : Int) (a3 : Int) (b4 : Bool) : Option R :=
  ret (a1, a2, a3, b4)
def f157 (k : Nat) (a1 : Int) (a2 : Int) (a3 : Int) (b4 : Bool) : Option (Int × Int × Int × Bool) := f157.step k some a1 a2 a3 b4
def f157.w {R : Type} : (Int × Int × Int × Bool) → (Res env → Option R) → Option R := fun t5 K => K ⟨.v (.g [.s (.int .i64 t5.1), .s (.int .i64 t5.2.1), .s (.int .i64 t5.2.2.1), .s (.bool t5.2.2.2)]), [[]]⟩
theorem f157.wn (x : (Int × Int × Int × Bool)) : ∃ res, ∀ {R : Type} (K : Res env → Option R), f157.w x K = K res := by
  exact ⟨_, fun _ => rfl⟩
def f157.hd (k : Nat) (ps_ : List (P2 env)) : Cl env :=
  gC Cl.no ps_ fun p_ ps_ => qG Cl.no p_ fun cs_ => gC Cl.no cs_ fun c_ cs_ => qS Cl.no c_ fun v_ => vI Cl.no .i64 v_ fun a1 => gC Cl.no cs_ fun c_ cs_ => qS Cl.no c_ fun v_ => vI Cl.no .i64 v_ fun a2 => gC Cl.no cs_ fun c_ cs_ => qS Cl.no c_ fun v_ => vI Cl.no .i64 v_ fun a3 => gC Cl.no cs_ fun c_ cs_ => qS Cl.no c_ fun v_ => vB Cl.no v_ fun b4 => gE Cl.no cs_ <| gE Cl.no ps_ <| { α := Int × Int × Int × Bool, o := f157 k a1 a2 a3 b4, w := f157.w, nat := fun x _ => f157.wn x }
def f157.e (k : Nat) : Entry env := ⟨f157.hd k, [], []⟩
def f157.X (k : Nat) : Ctx env := { C := lookE [], L := lookE [], J := lookE [], keep := lookD [], keepX := lookD [], span := lookN [], eff := fun n => memN n [], prep := lookP [], np := 0 }
theorem f157.nat {R : Type} (k : Nat) (g : (Int × Int × Int × Bool) → Option R) (a1 : Int) (a2 : Int) (a3 : Int) (b4 : Bool) : f157.step k g a1 a2 a3 b4 = (f157 k a1 a2 a3 b4).bind g := by
  simp only [f157, f157.step, bind_ite, bind_sum, Option.bind_assoc, Option.bind_some, Option.bind_none]
theorem f157.ev (k : Nat) (a1 : Int) (a2 : Int) (a3 : Int) (b4 : Bool) : evF (f157.X k) (bodyOf Try.f157) Try.f157.ntmps Try.f157.results.toList [.g [.s (.int .i64 a1), .s (.int .i64 a2), .s (.int .i64 a3), .s (.bool b4)]] = f157.step k (fun x => f157.w x some) a1 a2 a3 b4 := by kernel_rfl
theorem f157.hok (k : Nat) : HOK (f157.X k) (bodyOf Try.f157) where
  l := allP_mem (by exact trivial)
  j := allP_mem (by exact trivial)
theorem f157.sound (k : Nat) : SoundC env Try.prog 157 ((f157.e k).F) := by
  intro ps_
  show GoodC _ _ _ ps_ (f157.hd k ps_)
  unfold f157.hd
  refine gC_ok (p := GoodC env Try.prog 157 _) goodC_no fun _ _ h => ?_
  subst h
  refine qG_ok (p := GoodC env Try.prog 157 _) goodC_no fun _ h => ?_
  subst h
  refine gC_ok (p := GoodC env Try.prog 157 _) goodC_no fun _ _ h => ?_
  subst h
  refine qS_ok (p := GoodC env Try.prog 157 _) goodC_no fun _ h => ?_
  subst h
  refine vI_ok (p := GoodC env Try.prog 157 _) goodC_no fun _ h => ?_
  subst h
  refine gC_ok (p := GoodC env Try.prog 157 _) goodC_no fun _ _ h => ?_
  subst h
  refine qS_ok (p := GoodC env Try.prog 157 _) goodC_no fun _ h => ?_
  subst h
  refine vI_ok (p := GoodC env Try.prog 157 _) goodC_no fun _ h => ?_
  subst h
  refine gC_ok (p := GoodC env Try.prog 157 _) goodC_no fun _ _ h => ?_
  subst h
  refine qS_ok (p := GoodC env Try.prog 157 _) goodC_no fun _ h => ?_
  subst h
  refine vI_ok (p := GoodC env Try.prog 157 _) goodC_no fun _ h => ?_
  subst h
  refine gC_ok (p := GoodC env Try.prog 157 _) goodC_no fun _ _ h => ?_
  subst h
  refine qS_ok (p := GoodC env Try.prog 157 _) goodC_no fun _ h => ?_
  subst h
  refine vB_ok (p := GoodC env Try.prog 157 _) goodC_no fun _ h => ?_
  subst h
  refine gE_ok (p := GoodC env Try.prog 157 _) goodC_no fun h => ?_
  subst h
  refine gE_ok (p := GoodC env Try.prog 157 _) goodC_no fun h => ?_
  subst h
  exact fun_good (fun_sound envOK (cs_sound _ (by exact trivial)) (f157.hok k) Try.func157 rfl) ((f157.ev k _ _ _ _).trans (f157.nat k _ _ _ _ _))
theorem f157.says (k : Nat) (a1 : Int) (a2 : Int) (a3 : Int) (b4 : Bool) (t6 : Int × Int × Int × Bool) (h_ : f157 k a1 a2 a3 b4 = some t6) : SoundAt env Try.prog 157 [.g [.s (.int .i64 a1), .s (.int .i64 a2), .s (.int .i64 a3), .s (.bool b4)]] ⟨.v (.g [.s (.int .i64 t6.1), .s (.int .i64 t6.2.1), .s (.int .i64 t6.2.2.1), .s (.bool t6.2.2.2)]), [[]]⟩ :=
  fun_sound envOK (cs_sound _ (by exact trivial)) (f157.hok k) Try.func157 rfl _ _ (((f157.ev k a1 a2 a3 b4).trans (f157.nat k _ a1 a2 a3 b4)).trans (by rw [h_]; rfl))
theorem f157.fnok : FnOK Try.prog 157 := fn_ok Try.func157 (by kernel_rfl) rfl
def f107.l3.step {R : Type} (k : Nat) (rec_ : (List S195) → Int → (List S146) → Option R) (ret : ((List S146)) → Option R) (xs2 : List S195) (a3 : Int) (xs4 : List S146) : Option R :=
  if (decide (a3 < (((List.length xs2) : Nat) : Int))) = true then
    if (0 : Int) ≤ a3 then
      if a3 < ((List.length xs2 : Nat) : Int) then
        (f157 k (List.getD xs2 (Int.toNat a3) (⟨(0 : Int), (0 : Int), (0 : Int), false⟩ : S195)).f0 (List.getD xs2 (Int.toNat a3) (⟨(0 : Int), (0 : Int), (0 : Int), false⟩ : S195)).f1 (List.getD xs2 (Int.toNat a3) (⟨(0 : Int), (0 : Int), (0 : Int), false⟩ : S195)).f2 (List.getD xs2 (Int.toNat a3) (⟨(0 : Int), (0 : Int), (0 : Int), false⟩ : S195)).f3).bind fun t5 => if (0 : Int) ≤ a3 then
            if a3 < ((List.length xs4 : Nat) : Int) then
              rec_ xs2 (IntKind.i64.wrap (a3 + (1 : Int))) (List.set xs4 (Int.toNat a3) (⟨t5.1, t5.2.1, t5.2.2.1, t5.2.2.2⟩ : S146))
            else none
          else none
      else none
    else none
  else
    ret xs4
def f107.l3 (k : Nat) : Nat → (List S195) → Int → (List S146) → Option ((List S146))
  | 0, _, _, _ => none
  | j + 1, xs2, a3, xs4 => f107.l3.step k (fun xs2 a3 xs4 => f107.l3 k j xs2 a3 xs4) some xs2 a3 xs4
def f107.l3.w {R : Type} : ((List S146)) → (Exit → St env → Option R) → Option R := fun t7 K => K (.exit 0) ⟨fullT [3] 0 23 [.v (.c (.row 49))], [(49, .row true 146 t7)], 353⟩
def f107.l3.st (xs2 : List S195) (a3 : Int) (xs4 : List S146) : St env := ⟨fullT [0, 3, 4] 0 23 [.v (.c (.imm 195 xs2)), .v (.c (.row 49)), .v (.c (.s (.int .i64 a3)))], [(49, .row true 146 xs4)], 97⟩
def f107.l3.hd (k : Nat) (ts_ : List (AV env)) (mm_ : Mem env) (n_ : Nat) : LCl env :=
  gTs LCl.no [0, 3, 4] 23 ts_ fun l_ => gV LCl.no l_ fun a_ l_ => rImm LCl.no 195 a_ fun xs2 => gV LCl.no l_ fun a_ l_ => rRow LCl.no 49 a_ <| gV LCl.no l_ fun a_ l_ => rV LCl.no a_ fun v_ => vI LCl.no .i64 v_ fun a3 => gE LCl.no l_ <| mRow LCl.no 49 true 146 mm_ fun xs4 m_ => gE LCl.no m_ <| gN LCl.no 97 n_ { α := (List S146), o := f107.l3 k k xs2 a3 xs4, w := f107.l3.w }
def f107.step {R : Type} (k : Nat) (ret : ((List S146)) → Option R) (xs1 : List S195) : Option R :=
  if (0 : Int) ≤ (((List.length xs1) : Nat) : Int) then
    if (Int.toNat (((List.length xs1) : Nat) : Int)) * 32 ≤ maxN then
      (f107.l3 k k xs1 (0 : Int) (List.replicate (Int.toNat (((List.length xs1) : Nat) : Int)) (⟨(0 : Int), (0 : Int), (0 : Int), false⟩ : S146))).bind fun t6 => ret t6
    else none
  else none
def f107 (k : Nat) (xs1 : List S195) : Option ((List S146)) := f107.step k some xs1
def f107.w {R : Type} : ((List S146)) → (Res env → Option R) → Option R := fun t8 K => K ⟨.v (.c (.own true 146 t8)), [[]]⟩
theorem f107.wn (x : ((List S146))) : ∃ res, ∀ {R : Type} (K : Res env → Option R), f107.w x K = K res := by
  exact ⟨_, fun _ => rfl⟩
def f107.hd (k : Nat) (ps_ : List (P2 env)) : Cl env :=
  gC Cl.no ps_ fun p_ ps_ => qC Cl.no p_ fun c_ => qSl Cl.no 195 c_ fun xs1 => gE Cl.no ps_ <| { α := (List S146), o := f107 k xs1, w := f107.w, nat := fun x _ => f107.wn x }
def f107.e (k : Nat) : Entry env := ⟨fun ps => f107.hd k (coer [[.rd 195]] ps), [], []⟩
def f107.X (k : Nat) : Ctx env := { C := lookE [(157, f157.e k)], L := lookE [(3, fun S => f107.l3.hd k S.ts S.m S.n)], J := lookE [], keep := lookD [(3, [0, 3, 4])], keepX := lookD [(3, [3])], span := lookN [(3, 256)], eff := fun n => memN n [], prep := lookP [], np := 0 }
theorem f107.l3.nat {R : Type} (k : Nat) (rec_ : (List S195) → Int → (List S146) → Option ((List S146))) (g : ((List S146)) → Option R) (xs2 : List S195) (a3 : Int) (xs4 : List S146) : (f107.l3.step k rec_ some xs2 a3 xs4).bind g = f107.l3.step k (fun xs2 a3 xs4 => (rec_ xs2 a3 xs4).bind g) g xs2 a3 xs4 := by
  simp only [f107.l3.step, bind_ite, bind_sum, Option.bind_assoc, Option.bind_some, Option.bind_none]
theorem f107.l3.good (k : Nat) (xs2 : List S195) (a3 : Int) (xs4 : List S146) : GoodL (f107.X k) (nthC 0 (loopsOf (bodyOf Try.f107))) (f107.l3.st xs2 a3 xs4) { α := ((List S146)), o := f107.l3 k k xs2 a3 xs4, w := f107.l3.w } :=
  loop_good (ι := (List S195) × Int × (List S146)) (α := ((List S146))) (fun i => f107.l3.st i.1 i.2.1 i.2.2) (fun j i => f107.l3 k j i.1 i.2.1 i.2.2) f107.l3.w (fun rec_ ret i => f107.l3.step k (fun xs2 a3 xs4 => rec_ (xs2, a3, xs4)) ret i.1 i.2.1 i.2.2)
    (fun _ => rfl) (fun _ _ => rfl) (fun rec_ g i => f107.l3.nat k _ g i.1 i.2.1 i.2.2) (fun {R} i0 i rec_ K => by kernel_rfl) k (xs2, a3, xs4)
theorem f107.l3.all (k : Nat) (S : St env) : GoodL (f107.X k) (nthC 0 (loopsOf (bodyOf Try.f107))) S (f107.l3.hd k S.ts S.m S.n) := by
  obtain ⟨ts_, m_, n_⟩ := S
  show GoodL _ _ _ (f107.l3.hd k ts_ m_ n_)
  unfold f107.l3.hd
  refine gTs_ok (p := GoodL _ _ _) goodL_no fun _ h => ?_
  subst h
  refine gV_ok (p := GoodL _ _ _) goodL_no fun _ _ h => ?_
  subst h
  refine rImm_ok (p := GoodL _ _ _) goodL_no fun _ h => ?_
  subst h
  refine gV_ok (p := GoodL _ _ _) goodL_no fun _ _ h => ?_
  subst h
  refine rRow_ok (p := GoodL _ _ _) goodL_no fun h => ?_
  subst h
  refine gV_ok (p := GoodL _ _ _) goodL_no fun _ _ h => ?_
  subst h
  refine rV_ok (p := GoodL _ _ _) goodL_no fun _ h => ?_
  subst h
  refine vI_ok (p := GoodL _ _ _) goodL_no fun _ h => ?_
  subst h
  refine gE_ok (p := GoodL _ _ _) goodL_no fun h => ?_
  subst h
  refine mRow_ok (p := GoodL _ _ _) goodL_no fun _ _ h => ?_
  subst h
  refine gE_ok (p := GoodL _ _ _) goodL_no fun h => ?_
  subst h
  refine gN_ok (p := GoodL _ _ _) goodL_no fun h => ?_
  subst h
  exact f107.l3.good k _ _ _
theorem f107.nat {R : Type} (k : Nat) (g : ((List S146)) → Option R) (xs1 : List S195) : f107.step k g xs1 = (f107 k xs1).bind g := by
  simp only [f107, f107.step, bind_ite, bind_sum, Option.bind_assoc, Option.bind_some, Option.bind_none]
theorem f107.ev (k : Nat) (xs1 : List S195) : evF (f107.X k) (bodyOf Try.f107) Try.f107.ntmps Try.f107.results.toList [.v (.c (.sl 195 xs1))] = f107.step k (fun x => f107.w x some) xs1 := by kernel_rfl
theorem f107.hok (k : Nat) : HOK (f107.X k) (bodyOf Try.f107) where
  l := allP_mem (by exact ⟨ls_of (h0 := fun S => f107.l3.hd k S.ts S.m S.n) (by kernel_rfl) (f107.l3.all k), trivial⟩)
  j := allP_mem (by exact trivial)
theorem f107.sound0 (k : Nat) : SoundC env Try.prog 107 (f107.hd k) := by
  intro ps_
  show GoodC _ _ _ ps_ (f107.hd k ps_)
  unfold f107.hd
  refine gC_ok (p := GoodC env Try.prog 107 _) goodC_no fun _ _ h => ?_
  subst h
  refine qC_ok (p := GoodC env Try.prog 107 _) goodC_no fun _ h => ?_
  subst h
  refine qSl_ok (p := GoodC env Try.prog 107 _) goodC_no fun _ h => ?_
  subst h
  refine gE_ok (p := GoodC env Try.prog 107 _) goodC_no fun h => ?_
  subst h
  exact fun_good (fun_sound envOK (cs_sound _ (by exact ⟨⟨f157.sound k, f157.fnok⟩, trivial⟩)) (f107.hok k) Try.func107 rfl) ((f107.ev k _).trans (f107.nat k _ _))
theorem f107.sound (k : Nat) : SoundC env Try.prog 107 (f107.e k).F := soundC_coer (f107.sound0 k) [[.rd 195]]
theorem f107.says (k : Nat) (xs1 : List S195) (t9 : (List S146)) (h_ : f107 k xs1 = some t9) : SoundAt env Try.prog 107 [.v (.c (.sl 195 xs1))] ⟨.v (.c (.own true 146 t9)), [[]]⟩ :=
  fun_sound envOK (cs_sound _ (by exact ⟨⟨f157.sound k, f157.fnok⟩, trivial⟩)) (f107.hok k) Try.func107 rfl _ _ (((f107.ev k xs1).trans (f107.nat k _ xs1)).trans (by rw [h_]; rfl))
theorem f107.fnok : FnOK Try.prog 107 := fn_ok Try.func107 (by kernel_rfl) rfl
def f186.step {R : Type} (k : Nat) (ret : (Int × Int × Int) → Option R) (a1 : Int) (a2 : Int) (a3 : Int) : Option R :=
  ret (a1, a2, a3)
def f186 (k : Nat) (a1 : Int) (a2 : Int) (a3 : Int) : Option (Int × Int × Int) := f186.step k some a1 a2 a3
def f186.w {R : Type} : (Int × Int × Int) → (Res env → Option R) → Option R := fun t4 K => K ⟨.v (.g [.s (.int .i64 t4.1), .s (.int .i64 t4.2.1), .s (.int .i64 t4.2.2)]), [[]]⟩
theorem f186.wn (x : (Int × Int × Int)) : ∃ res, ∀ {R : Type} (K : Res env → Option R), f186.w x K = K res := by
  exact ⟨_, fun _ => rfl⟩
def f186.hd (k : Nat) (ps_ : List (P2 env)) : Cl env :=
  gC Cl.no ps_ fun p_ ps_ => qG Cl.no p_ fun cs_ => gC Cl.no cs_ fun c_ cs_ => qS Cl.no c_ fun v_ => vI Cl.no .i64 v_ fun a1 => gC Cl.no cs_ fun c_ cs_ => qS Cl.no c_ fun v_ => vI Cl.no .i64 v_ fun a2 => gC Cl.no cs_ fun c_ cs_ => qS Cl.no c_ fun v_ => vI Cl.no .i64 v_ fun a3 => gE Cl.no cs_ <| gE Cl.no ps_ <| { α := Int × Int × Int, o := f186 k a1 a2 a3, w := f186.w, nat := fun x _ => f186.wn x }
def f186.e (k : Nat) : Entry env := ⟨f186.hd k, [], []⟩
def f186.X (k : Nat) : Ctx env := { C := lookE [], L := lookE [], J := lookE [], keep := lookD [], keepX := lookD [], span := lookN [], eff := fun n => memN n [], prep := lookP [], np := 0 }
theorem f186.nat {R : Type} (k : Nat) (g : (Int × Int × Int) → Option R) (a1 : Int) (a2 : Int) (a3 : Int) : f186.step k g a1 a2 a3 = (f186 k a1 a2 a3).bind g := by
  simp only [f186, f186.step, bind_ite, bind_sum, Option.bind_assoc, Option.bind_some, Option.bind_none]
theorem f186.ev (k : Nat) (a1 : Int) (a2 : Int) (a3 : Int) : evF (f186.X k) (bodyOf Try.f186) Try.f186.ntmps Try.f186.results.toList [.g [.s (.int .i64 a1), .s (.int .i64 a2), .s (.int .i64 a3)]] = f186.step k (fun x => f186.w x some) a1 a2 a3 := by kernel_rfl
theorem f186.hok (k : Nat) : HOK (f186.X k) (bodyOf Try.f186) where
  l := allP_mem (by exact trivial)
  j := allP_mem (by exact trivial)
theorem f186.sound (k : Nat) : SoundC env Try.prog 186 ((f186.e k).F) := by
  intro ps_
  show GoodC _ _ _ ps_ (f186.hd k ps_)
  unfold f186.hd
  refine gC_ok (p := GoodC env Try.prog 186 _) goodC_no fun _ _ h => ?_
  subst h
  refine qG_ok (p := GoodC env Try.prog 186 _) goodC_no fun _ h => ?_
  subst h
  refine gC_ok (p := GoodC env Try.prog 186 _) goodC_no fun _ _ h => ?_
  subst h
  refine qS_ok (p := GoodC env Try.prog 186 _) goodC_no fun _ h => ?_
  subst h
  refine vI_ok (p := GoodC env Try.prog 186 _) goodC_no fun _ h => ?_
  subst h
  refine gC_ok (p := GoodC env Try.prog 186 _) goodC_no fun _ _ h => ?_
  subst h
  refine qS_ok (p := GoodC env Try.prog 186 _) goodC_no fun _ h => ?_
  subst h
  refine vI_ok (p := GoodC env Try.prog 186 _) goodC_no fun _ h => ?_
  subst h
  refine gC_ok (p := GoodC env Try.prog 186 _) goodC_no fun _ _ h => ?_
  subst h
  refine qS_ok (p := GoodC env Try.prog 186 _) goodC_no fun _ h => ?_
  subst h
  refine vI_ok (p := GoodC env Try.prog 186 _) goodC_no fun _ h => ?_
  subst h
  refine gE_ok (p := GoodC env Try.prog 186 _) goodC_no fun h => ?_
  subst h
  refine gE_ok (p := GoodC env Try.prog 186 _) goodC_no fun h => ?_
  subst h
  exact fun_good (fun_sound envOK (cs_sound _ (by exact trivial)) (f186.hok k) Try.func186 rfl) ((f186.ev k _ _ _).trans (f186.nat k _ _ _ _))
theorem f186.says (k : Nat) (a1 : Int) (a2 : Int) (a3 : Int) (t5 : Int × Int × Int) (h_ : f186 k a1 a2 a3 = some t5) : SoundAt env Try.prog 186 [.g [.s (.int .i64 a1), .s (.int .i64 a2), .s (.int .i64 a3)]] ⟨.v (.g [.s (.int .i64 t5.1), .s (.int .i64 t5.2.1), .s (.int .i64 t5.2.2)]), [[]]⟩ :=
  fun_sound envOK (cs_sound _ (by exact trivial)) (f186.hok k) Try.func186 rfl _ _ (((f186.ev k a1 a2 a3).trans (f186.nat k _ a1 a2 a3)).trans (by rw [h_]; rfl))
theorem f186.fnok : FnOK Try.prog 186 := fn_ok Try.func186 (by kernel_rfl) rfl
def f158.l3.step {R : Type} (k : Nat) (rec_ : (List S225) → Int → (List S142) → Option R) (ret : ((List S142)) → Option R) (xs2 : List S225) (a3 : Int) (xs4 : List S142) : Option R :=
  if (decide (a3 < (((List.length xs2) : Nat) : Int))) = true then
    if (0 : Int) ≤ a3 then
      if a3 < ((List.length xs2 : Nat) : Int) then
        (f186 k (List.getD xs2 (Int.toNat a3) (⟨(0 : Int), (0 : Int), (0 : Int)⟩ : S225)).f0 (List.getD xs2 (Int.toNat a3) (⟨(0 : Int), (0 : Int), (0 : Int)⟩ : S225)).f1 (List.getD xs2 (Int.toNat a3) (⟨(0 : Int), (0 : Int), (0 : Int)⟩ : S225)).f2).bind fun t5 => if (0 : Int) ≤ a3 then
            if a3 < ((List.length xs4 : Nat) : Int) then
              rec_ xs2 (IntKind.i64.wrap (a3 + (1 : Int))) (List.set xs4 (Int.toNat a3) (⟨t5.1, t5.2.1, t5.2.2⟩ : S142))
            else none
          else none
      else none
    else none
  else
    ret xs4
def f158.l3 (k : Nat) : Nat → (List S225) → Int → (List S142) → Option ((List S142))
  | 0, _, _, _ => none
  | j + 1, xs2, a3, xs4 => f158.l3.step k (fun xs2 a3 xs4 => f158.l3 k j xs2 a3 xs4) some xs2 a3 xs4
def f158.l3.w {R : Type} : ((List S142)) → (Exit → St env → Option R) → Option R := fun t7 K => K (.exit 0) ⟨fullT [3] 0 23 [.v (.c (.row 49))], [(49, .row true 142 t7)], 353⟩
def f158.l3.st (xs2 : List S225) (a3 : Int) (xs4 : List S142) : St env := ⟨fullT [0, 3, 4] 0 23 [.v (.c (.imm 225 xs2)), .v (.c (.row 49)), .v (.c (.s (.int .i64 a3)))], [(49, .row true 142 xs4)], 97⟩
def f158.l3.hd (k : Nat) (ts_ : List (AV env)) (mm_ : Mem env) (n_ : Nat) : LCl env :=
  gTs LCl.no [0, 3, 4] 23 ts_ fun l_ => gV LCl.no l_ fun a_ l_ => rImm LCl.no 225 a_ fun xs2 => gV LCl.no l_ fun a_ l_ => rRow LCl.no 49 a_ <| gV LCl.no l_ fun a_ l_ => rV LCl.no a_ fun v_ => vI LCl.no .i64 v_ fun a3 => gE LCl.no l_ <| mRow LCl.no 49 true 142 mm_ fun xs4 m_ => gE LCl.no m_ <| gN LCl.no 97 n_ { α := (List S142), o := f158.l3 k k xs2 a3 xs4, w := f158.l3.w }
def f158.step {R : Type} (k : Nat) (ret : ((List S142)) → Option R) (xs1 : List S225) : Option R :=
  if (0 : Int) ≤ (((List.length xs1) : Nat) : Int) then
    if (Int.toNat (((List.length xs1) : Nat) : Int)) * 24 ≤ maxN then
      (f158.l3 k k xs1 (0 : Int) (List.replicate (Int.toNat (((List.length xs1) : Nat) : Int)) (⟨(0 : Int), (0 : Int), (0 : Int)⟩ : S142))).bind fun t6 => ret t6
    else none
  else none
def f158 (k : Nat) (xs1 : List S225) : Option ((List S142)) := f158.step k some xs1
def f158.w {R : Type} : ((List S142)) → (Res env → Option R) → Option R := fun t8 K => K ⟨.v (.c (.own true 142 t8)), [[]]⟩
theorem f158.wn (x : ((List S142))) : ∃ res, ∀ {R : Type} (K : Res env → Option R), f158.w x K = K res := by
  exact ⟨_, fun _ => rfl⟩
def f158.hd (k : Nat) (ps_ : List (P2 env)) : Cl env :=
  gC Cl.no ps_ fun p_ ps_ => qC Cl.no p_ fun c_ => qSl Cl.no 225 c_ fun xs1 => gE Cl.no ps_ <| { α := (List S142), o := f158 k xs1, w := f158.w, nat := fun x _ => f158.wn x }
def f158.e (k : Nat) : Entry env := ⟨fun ps => f158.hd k (coer [[.rd 225]] ps), [], []⟩
def f158.X (k : Nat) : Ctx env := { C := lookE [(186, f186.e k)], L := lookE [(3, fun S => f158.l3.hd k S.ts S.m S.n)], J := lookE [], keep := lookD [(3, [0, 3, 4])], keepX := lookD [(3, [3])], span := lookN [(3, 256)], eff := fun n => memN n [], prep := lookP [], np := 0 }
theorem f158.l3.nat {R : Type} (k : Nat) (rec_ : (List S225) → Int → (List S142) → Option ((List S142))) (g : ((List S142)) → Option R) (xs2 : List S225) (a3 : Int) (xs4 : List S142) : (f158.l3.step k rec_ some xs2 a3 xs4).bind g = f158.l3.step k (fun xs2 a3 xs4 => (rec_ xs2 a3 xs4).bind g) g xs2 a3 xs4 := by
  simp only [f158.l3.step, bind_ite, bind_sum, Option.bind_assoc, Option.bind_some, Option.bind_none]
theorem f158.l3.good (k : Nat) (xs2 : List S225) (a3 : Int) (xs4 : List S142) : GoodL (f158.X k) (nthC 0 (loopsOf (bodyOf Try.f158))) (f158.l3.st xs2 a3 xs4) { α := ((List S142)), o := f158.l3 k k xs2 a3 xs4, w := f158.l3.w } :=
  loop_good (ι := (List S225) × Int × (List S142)) (α := ((List S142))) (fun i => f158.l3.st i.1 i.2.1 i.2.2) (fun j i => f158.l3 k j i.1 i.2.1 i.2.2) f158.l3.w (fun rec_ ret i => f158.l3.step k (fun xs2 a3 xs4 => rec_ (xs2, a3, xs4)) ret i.1 i.2.1 i.2.2)
    (fun _ => rfl) (fun _ _ => rfl) (fun rec_ g i => f158.l3.nat k _ g i.1 i.2.1 i.2.2) (fun {R} i0 i rec_ K => by kernel_rfl) k (xs2, a3, xs4)
theorem f158.l3.all (k : Nat) (S : St env) : GoodL (f158.X k) (nthC 0 (loopsOf (bodyOf Try.f158))) S (f158.l3.hd k S.ts S.m S.n) := by
  obtain ⟨ts_, m_, n_⟩ := S
  show GoodL _ _ _ (f158.l3.hd k ts_ m_ n_)
  unfold f158.l3.hd
  refine gTs_ok (p := GoodL _ _ _) goodL_no fun _ h => ?_
  subst h
  refine gV_ok (p := GoodL _ _ _) goodL_no fun _ _ h => ?_
  subst h
  refine rImm_ok (p := GoodL _ _ _) goodL_no fun _ h => ?_
  subst h
  refine gV_ok (p := GoodL _ _ _) goodL_no fun _ _ h => ?_
  subst h
  refine rRow_ok (p := GoodL _ _ _) goodL_no fun h => ?_
  subst h
  refine gV_ok (p := GoodL _ _ _) goodL_no fun _ _ h => ?_
  subst h
  refine rV_ok (p := GoodL _ _ _) goodL_no fun _ h => ?_
  subst h
  refine vI_ok (p := GoodL _ _ _) goodL_no fun _ h => ?_
  subst h
  refine gE_ok (p := GoodL _ _ _) goodL_no fun h => ?_
  subst h
  refine mRow_ok (p := GoodL _ _ _) goodL_no fun _ _ h => ?_
  subst h
  refine gE_ok (p := GoodL _ _ _) goodL_no fun h => ?_
  subst h
  refine gN_ok (p := GoodL _ _ _) goodL_no fun h => ?_
  subst h
  exact f158.l3.good k _ _ _
theorem f158.nat {R : Type} (k : Nat) (g : ((List S142)) → Option R) (xs1 : List S225) : f158.step k g xs1 = (f158 k xs1).bind g := by
  simp only [f158, f158.step, bind_ite, bind_sum, Option.bind_assoc, Option.bind_some, Option.bind_none]
theorem f158.ev (k : Nat) (xs1 : List S225) : evF (f158.X k) (bodyOf Try.f158) Try.f158.ntmps Try.f158.results.toList [.v (.c (.sl 225 xs1))] = f158.step k (fun x => f158.w x some) xs1 := by kernel_rfl
theorem f158.hok (k : Nat) : HOK (f158.X k) (bodyOf Try.f158) where
  l := allP_mem (by exact ⟨ls_of (h0 := fun S => f158.l3.hd k S.ts S.m S.n) (by kernel_rfl) (f158.l3.all k), trivial⟩)
  j := allP_mem (by exact trivial)
theorem f158.sound0 (k : Nat) : SoundC env Try.prog 158 (f158.hd k) := by
  intro ps_
  show GoodC _ _ _ ps_ (f158.hd k ps_)
  unfold f158.hd
  refine gC_ok (p := GoodC env Try.prog 158 _) goodC_no fun _ _ h => ?_
  subst h
  refine qC_ok (p := GoodC env Try.prog 158 _) goodC_no fun _ h => ?_
  subst h
  refine qSl_ok (p := GoodC env Try.prog 158 _) goodC_no fun _ h => ?_
  subst h
  refine gE_ok (p := GoodC env Try.prog 158 _) goodC_no fun h => ?_
  subst h
  exact fun_good (fun_sound envOK (cs_sound _ (by exact ⟨⟨f186.sound k, f186.fnok⟩, trivial⟩)) (f158.hok k) Try.func158 rfl) ((f158.ev k _).trans (f158.nat k _ _))
theorem f158.sound (k : Nat) : SoundC env Try.prog 158 (f158.e k).F := soundC_coer (f158.sound0 k) [[.rd 225]]
theorem f158.says (k : Nat) (xs1 : List S225) (t9 : (List S142)) (h_ : f158 k xs1 = some t9) : SoundAt env Try.prog 158 [.v (.c (.sl 225 xs1))] ⟨.v (.c (.own true 142 t9)), [[]]⟩ :=
  fun_sound envOK (cs_sound _ (by exact ⟨⟨f186.sound k, f186.fnok⟩, trivial⟩)) (f158.hok k) Try.func158 rfl _ _ (((f158.ev k xs1).trans (f158.nat k _ xs1)).trans (by rw [h_]; rfl))
theorem f158.fnok : FnOK Try.prog 158 := fn_ok Try.func158 (by kernel_rfl) rfl
def f108.l3.step {R : Type} (k : Nat) (rec_ : (List (List S225)) → Int → (List (List S142)) → Option R) (ret : ((List (List S142))) → Option R) (xs2 : List (List S225)) (a3 : Int) (xs4 : List (List S142)) : Option R :=
  if (decide (a3 < (((List.length xs2) : Nat) : Int))) = true then
    if (0 : Int) ≤ a3 then
      if a3 < ((List.length xs2 : Nat) : Int) then
        (f158 k (List.getD xs2 (Int.toNat a3) [])).bind fun t5 => if (0 : Int) ≤ a3 then
            if a3 < ((List.length xs4 : Nat) : Int) then
              rec_ xs2 (IntKind.i64.wrap (a3 + (1 : Int))) (List.set xs4 (Int.toNat a3) t5)
            else none
          else none
      else none
    else none
  else
    ret xs4
def f108.l3 (k : Nat) : Nat → (List (List S225)) → Int → (List (List S142)) → Option ((List (List S142)))
  | 0, _, _, _ => none
  | j + 1, xs2, a3, xs4 => f108.l3.step k (fun xs2 a3 xs4 => f108.l3 k j xs2 a3 xs4) some xs2 a3 xs4
def f108.l3.w {R : Type} : ((List (List S142))) → (Exit → St env → Option R) → Option R := fun t7 K => K (.exit 0) ⟨fullT [3] 0 23 [.v (.c (.row 49))], [(49, .row true 140 t7)], 353⟩
def f108.l3.st (xs2 : List (List S225)) (a3 : Int) (xs4 : List (List S142)) : St env := ⟨fullT [0, 3, 4] 0 23 [.v (.c (.imm 193 xs2)), .v (.c (.row 49)), .v (.c (.s (.int .i64 a3)))], [(49, .row true 140 xs4)], 97⟩
def f108.l3.hd (k : Nat) (ts_ : List (AV env)) (mm_ : Mem env) (n_ : Nat) : LCl env :=
  gTs LCl.no [0, 3, 4] 23 ts_ fun l_ => gV LCl.no l_ fun a_ l_ => rImm LCl.no 193 a_ fun xs2 => gV LCl.no l_ fun a_ l_ => rRow LCl.no 49 a_ <| gV LCl.no l_ fun a_ l_ => rV LCl.no a_ fun v_ => vI LCl.no .i64 v_ fun a3 => gE LCl.no l_ <| mRow LCl.no 49 true 140 mm_ fun xs4 m_ => gE LCl.no m_ <| gN LCl.no 97 n_ { α := (List (List S142)), o := f108.l3 k k xs2 a3 xs4, w := f108.l3.w }
def f108.step {R : Type} (k : Nat) (ret : ((List (List S142))) → Option R) (xs1 : List (List S225)) : Option R :=
  if (0 : Int) ≤ (((List.length xs1) : Nat) : Int) then
    if (Int.toNat (((List.length xs1) : Nat) : Int)) * 24 ≤ maxN then
      (f108.l3 k k xs1 (0 : Int) (List.replicate (Int.toNat (((List.length xs1) : Nat) : Int)) [])).bind fun t6 => ret t6
    else none
  else none
def f108 (k : Nat) (xs1 : List (List S225)) : Option ((List (List S142))) := f108.step k some xs1
def f108.w {R : Type} : ((List (List S142))) → (Res env → Option R) → Option R := fun t8 K => K ⟨.v (.c (.own true 140 t8)), [[]]⟩
theorem f108.wn (x : ((List (List S142)))) : ∃ res, ∀ {R : Type} (K : Res env → Option R), f108.w x K = K res := by
  exact ⟨_, fun _ => rfl⟩
def f108.hd (k : Nat) (ps_ : List (P2 env)) : Cl env :=
  gC Cl.no ps_ fun p_ ps_ => qC Cl.no p_ fun c_ => qSl Cl.no 193 c_ fun xs1 => gE Cl.no ps_ <| { α := (List (List S142)), o := f108 k xs1, w := f108.w, nat := fun x _ => f108.wn x }
def f108.e (k : Nat) : Entry env := ⟨fun ps => f108.hd k (coer [[.rd 193]] ps), [], []⟩
def f108.X (k : Nat) : Ctx env := { C := lookE [(158, f158.e k)], L := lookE [(3, fun S => f108.l3.hd k S.ts S.m S.n)], J := lookE [], keep := lookD [(3, [0, 3, 4])], keepX := lookD [(3, [3])], span := lookN [(3, 256)], eff := fun n => memN n [], prep := lookP [], np := 0 }
theorem f108.l3.nat {R : Type} (k : Nat) (rec_ : (List (List S225)) → Int → (List (List S142)) → Option ((List (List S142)))) (g : ((List (List S142))) → Option R) (xs2 : List (List S225)) (a3 : Int) (xs4 : List (List S142)) : (f108.l3.step k rec_ some xs2 a3 xs4).bind g = f108.l3.step k (fun xs2 a3 xs4 => (rec_ xs2 a3 xs4).bind g) g xs2 a3 xs4 := by
  simp only [f108.l3.step, bind_ite, bind_sum, Option.bind_assoc, Option.bind_some, Option.bind_none]
theorem f108.l3.good (k : Nat) (xs2 : List (List S225)) (a3 : Int) (xs4 : List (List S142)) : GoodL (f108.X k) (nthC 0 (loopsOf (bodyOf Try.f108))) (f108.l3.st xs2 a3 xs4) { α := ((List (List S142))), o := f108.l3 k k xs2 a3 xs4, w := f108.l3.w } :=
  loop_good (ι := (List (List S225)) × Int × (List (List S142))) (α := ((List (List S142)))) (fun i => f108.l3.st i.1 i.2.1 i.2.2) (fun j i => f108.l3 k j i.1 i.2.1 i.2.2) f108.l3.w (fun rec_ ret i => f108.l3.step k (fun xs2 a3 xs4 => rec_ (xs2, a3, xs4)) ret i.1 i.2.1 i.2.2)
    (fun _ => rfl) (fun _ _ => rfl) (fun rec_ g i => f108.l3.nat k _ g i.1 i.2.1 i.2.2) (fun {R} i0 i rec_ K => by kernel_rfl) k (xs2, a3, xs4)
theorem f108.l3.all (k : Nat) (S : St env) : GoodL (f108.X k) (nthC 0 (loopsOf (bodyOf Try.f108))) S (f108.l3.hd k S.ts S.m S.n) := by
  obtain ⟨ts_, m_, n_⟩ := S
  show GoodL _ _ _ (f108.l3.hd k ts_ m_ n_)
  unfold f108.l3.hd
  refine gTs_ok (p := GoodL _ _ _) goodL_no fun _ h => ?_
  subst h
  refine gV_ok (p := GoodL _ _ _) goodL_no fun _ _ h => ?_
  subst h
  refine rImm_ok (p := GoodL _ _ _) goodL_no fun _ h => ?_
  subst h
  refine gV_ok (p := GoodL _ _ _) goodL_no fun _ _ h => ?_
  subst h
  refine rRow_ok (p := GoodL _ _ _) goodL_no fun h => ?_
  subst h
  refine gV_ok (p := GoodL _ _ _) goodL_no fun _ _ h => ?_
  subst h
  refine rV_ok (p := GoodL _ _ _) goodL_no fun _ h => ?_
  subst h
  refine vI_ok (p := GoodL _ _ _) goodL_no fun _ h => ?_
  subst h
  refine gE_ok (p := GoodL _ _ _) goodL_no fun h => ?_
  subst h
  refine mRow_ok (p := GoodL _ _ _) goodL_no fun _ _ h => ?_
  subst h
  refine gE_ok (p := GoodL _ _ _) goodL_no fun h => ?_
  subst h
  refine gN_ok (p := GoodL _ _ _) goodL_no fun h => ?_
  subst h
  exact f108.l3.good k _ _ _
theorem f108.nat {R : Type} (k : Nat) (g : ((List (List S142))) → Option R) (xs1 : List (List S225)) : f108.step k g xs1 = (f108 k xs1).bind g := by
  simp only [f108, f108.step, bind_ite, bind_sum, Option.bind_assoc, Option.bind_some, Option.bind_none]
theorem f108.ev (k : Nat) (xs1 : List (List S225)) : evF (f108.X k) (bodyOf Try.f108) Try.f108.ntmps Try.f108.results.toList [.v (.c (.sl 193 xs1))] = f108.step k (fun x => f108.w x some) xs1 := by kernel_rfl
theorem f108.hok (k : Nat) : HOK (f108.X k) (bodyOf Try.f108) where
  l := allP_mem (by exact ⟨ls_of (h0 := fun S => f108.l3.hd k S.ts S.m S.n) (by kernel_rfl) (f108.l3.all k), trivial⟩)
  j := allP_mem (by exact trivial)
theorem f108.sound0 (k : Nat) : SoundC env Try.prog 108 (f108.hd k) := by
  intro ps_
  show GoodC _ _ _ ps_ (f108.hd k ps_)
  unfold f108.hd
  refine gC_ok (p := GoodC env Try.prog 108 _) goodC_no fun _ _ h => ?_
  subst h
  refine qC_ok (p := GoodC env Try.prog 108 _) goodC_no fun _ h => ?_
  subst h
  refine qSl_ok (p := GoodC env Try.prog 108 _) goodC_no fun _ h => ?_
  subst h
  refine gE_ok (p := GoodC env Try.prog 108 _) goodC_no fun h => ?_
  subst h
  exact fun_good (fun_sound envOK (cs_sound _ (by exact ⟨⟨f158.sound k, f158.fnok⟩, trivial⟩)) (f108.hok k) Try.func108 rfl) ((f108.ev k _).trans (f108.nat k _ _))
theorem f108.sound (k : Nat) : SoundC env Try.prog 108 (f108.e k).F := soundC_coer (f108.sound0 k) [[.rd 193]]
theorem f108.says (k : Nat) (xs1 : List (List S225)) (t9 : (List (List S142))) (h_ : f108 k xs1 = some t9) : SoundAt env Try.prog 108 [.v (.c (.sl 193 xs1))] ⟨.v (.c (.own true 140 t9)), [[]]⟩ :=
  fun_sound envOK (cs_sound _ (by exact ⟨⟨f158.sound k, f158.fnok⟩, trivial⟩)) (f108.hok k) Try.func108 rfl _ _ (((f108.ev k xs1).trans (f108.nat k _ xs1)).trans (by rw [h_]; rfl))
theorem f108.fnok : FnOK Try.prog 108 := fn_ok Try.func108 (by kernel_rfl) rfl
def f43.step {R : Type} (k : Nat) (ret : ((List S146) × (List (List S142)) × Int) → Option R) (xs1 : List S195) (xs2 : List (List S225)) (a3 : Int) : Option R :=
  (f107 k xs1).bind fun t4 => (f108 k xs2).bind fun t5 => ret (t4, t5, a3)
def f43 (k : Nat) (xs1 : List S195) (xs2 : List (List S225)) (a3 : Int) : Option ((List S146) × (List (List S142)) × Int) := f43.step k some xs1 xs2 a3
def f43.w {R : Type} : ((List S146) × (List (List S142)) × Int) → (Res env → Option R) → Option R := fun t6 K => K ⟨.v (.g [.own true 146 t6.1, .own true 140 t6.2.1, .s (.int .i64 t6.2.2)]), [[]]⟩
theorem f43.wn (x : ((List S146) × (List (List S142)) × Int)) : ∃ res, ∀ {R : Type} (K : Res env → Option R), f43.w x K = K res := by
  exact ⟨_, fun _ => rfl⟩
def f43.hd (k : Nat) (ps_ : List (P2 env)) : Cl env :=
  gC Cl.no ps_ fun p_ ps_ => qG Cl.no p_ fun cs_ => gC Cl.no cs_ fun c_ cs_ => qSl Cl.no 195 c_ fun xs1 => gC Cl.no cs_ fun c_ cs_ => qSl Cl.no 193 c_ fun xs2 => gC Cl.no cs_ fun c_ cs_ => qS Cl.no c_ fun v_ => vI Cl.no .i64 v_ fun a3 => gE Cl.no cs_ <| gE Cl.no ps_ <| { α := (List S146) × (List (List S142)) × Int, o := f43 k xs1 xs2 a3, w := f43.w, nat := fun x _ => f43.wn x }
def f43.e (k : Nat) : Entry env := ⟨fun ps => f43.hd k (coer [[.rd 195, .rd 193, .no]] ps), [], []⟩
def f43.X (k : Nat) : Ctx env := { C := lookE [(107, f107.e k), (108, f108.e k)], L := lookE [], J := lookE [], keep := lookD [], keepX := lookD [], span := lookN [], eff := fun n => memN n [], prep := lookP [], np := 0 }
theorem f43.nat {R : Type} (k : Nat) (g : ((List S146) × (List (List S142)) × Int) → Option R) (xs1 : List S195) (xs2 : List (List S225)) (a3 : Int) : f43.step k g xs1 xs2 a3 = (f43 k xs1 xs2 a3).bind g := by
  simp only [f43, f43.step, bind_ite, bind_sum, Option.bind_assoc, Option.bind_some, Option.bind_none]
theorem f43.ev (k : Nat) (xs1 : List S195) (xs2 : List (List S225)) (a3 : Int) : evF (f43.X k) (bodyOf Try.f43) Try.f43.ntmps Try.f43.results.toList [.g [.sl 195 xs1, .sl 193 xs2, .s (.int .i64 a3)]] = f43.step k (fun x => f43.w x some) xs1 xs2 a3 := by kernel_rfl
theorem f43.hok (k : Nat) : HOK (f43.X k) (bodyOf Try.f43) where
  l := allP_mem (by exact trivial)
  j := allP_mem (by exact trivial)
theorem f43.sound0 (k : Nat) : SoundC env Try.prog 43 (f43.hd k) := by
  intro ps_
  show GoodC _ _ _ ps_ (f43.hd k ps_)
  unfold f43.hd
  refine gC_ok (p := GoodC env Try.prog 43 _) goodC_no fun _ _ h => ?_
  subst h
  refine qG_ok (p := GoodC env Try.prog 43 _) goodC_no fun _ h => ?_
  subst h
  refine gC_ok (p := GoodC env Try.prog 43 _) goodC_no fun _ _ h => ?_
  subst h
  refine qSl_ok (p := GoodC env Try.prog 43 _) goodC_no fun _ h => ?_
  subst h
  refine gC_ok (p := GoodC env Try.prog 43 _) goodC_no fun _ _ h => ?_
  subst h
  refine qSl_ok (p := GoodC env Try.prog 43 _) goodC_no fun _ h => ?_
  subst h
  refine gC_ok (p := GoodC env Try.prog 43 _) goodC_no fun _ _ h => ?_
  subst h
  refine qS_ok (p := GoodC env Try.prog 43 _) goodC_no fun _ h => ?_
  subst h
  refine vI_ok (p := GoodC env Try.prog 43 _) goodC_no fun _ h => ?_
  subst h
  refine gE_ok (p := GoodC env Try.prog 43 _) goodC_no fun h => ?_
  subst h
  refine gE_ok (p := GoodC env Try.prog 43 _) goodC_no fun h => ?_
  subst h
  exact fun_good (fun_sound envOK (cs_sound _ (by exact ⟨⟨f107.sound k, f107.fnok⟩, ⟨f108.sound k, f108.fnok⟩, trivial⟩)) (f43.hok k) Try.func43 rfl) ((f43.ev k _ _ _).trans (f43.nat k _ _ _ _))
theorem f43.sound (k : Nat) : SoundC env Try.prog 43 (f43.e k).F := soundC_coer (f43.sound0 k) [[.rd 195, .rd 193, .no]]
theorem f43.says (k : Nat) (xs1 : List S195) (xs2 : List (List S225)) (a3 : Int) (t7 : (List S146) × (List (List S142)) × Int) (h_ : f43 k xs1 xs2 a3 = some t7) : SoundAt env Try.prog 43 [.g [.sl 195 xs1, .sl 193 xs2, .s (.int .i64 a3)]] ⟨.v (.g [.own true 146 t7.1, .own true 140 t7.2.1, .s (.int .i64 t7.2.2)]), [[]]⟩ :=
  fun_sound envOK (cs_sound _ (by exact ⟨⟨f107.sound k, f107.fnok⟩, ⟨f108.sound k, f108.fnok⟩, trivial⟩)) (f43.hok k) Try.func43 rfl _ _ (((f43.ev k xs1 xs2 a3).trans (f43.nat k _ xs1 xs2 a3)).trans (by rw [h_]; rfl))
theorem f43.fnok : FnOK Try.prog 43 := fn_ok Try.func43 (by kernel_rfl) rfl
def f86.step {R : Type} (k : Nat) (ret : Bool → Option R) (a1 : Int) (a2 : Int) (a3 : Int) : Option R :=
  if (decide (a1 ≥ a2)) = true then
    ret (decide (a1 ≤ a3))
  else
    ret false
def f86 (k : Nat) (a1 : Int) (a2 : Int) (a3 : Int) : Option Bool := f86.step k some a1 a2 a3
def f86.w {R : Type} : Bool → (Res env → Option R) → Option R := fun t4 K => K ⟨.v (.c (.s (.bool t4))), [[], [], []]⟩
theorem f86.wn (x : Bool) : ∃ res, ∀ {R : Type} (K : Res env → Option R), f86.w x K = K res := by
  exact ⟨_, fun _ => rfl⟩
def f86.hd (k : Nat) (ps_ : List (P2 env)) : Cl env :=
  gC Cl.no ps_ fun p_ ps_ => qC Cl.no p_ fun c_ => qS Cl.no c_ fun v_ => vI Cl.no .i64 v_ fun a1 => gC Cl.no ps_ fun p_ ps_ => qC Cl.no p_ fun c_ => qS Cl.no c_ fun v_ => vI Cl.no .i64 v_ fun a2 => gC Cl.no ps_ fun p_ ps_ => qC Cl.no p_ fun c_ => qS Cl.no c_ fun v_ => vI Cl.no .i64 v_ fun a3 => gE Cl.no ps_ <| { α := Bool, o := f86 k a1 a2 a3, w := f86.w, nat := fun x _ => f86.wn x }
def f86.e (k : Nat) : Entry env := ⟨f86.hd k, [], []⟩
def f86.X (k : Nat) : Ctx env := { C := lookE [], L := lookE [], J := lookE [], keep := lookD [], keepX := lookD [], span := lookN [], eff := fun n => memN n [], prep := lookP [], np := 0 }
theorem f86.nat {R : Type} (k : Nat) (g : Bool → Option R) (a1 : Int) (a2 : Int) (a3 : Int) : f86.step k g a1 a2 a3 = (f86 k a1 a2 a3).bind g := by
  simp only [f86, f86.step, bind_ite, bind_sum, Option.bind_assoc, Option.bind_some, Option.bind_none]
theorem f86.ev (k : Nat) (a1 : Int) (a2 : Int) (a3 : Int) : evF (f86.X k) (bodyOf Try.f86) Try.f86.ntmps Try.f86.results.toList [.v (.c (.s (.int .i64 a1))), .v (.c (.s (.int .i64 a2))), .v (.c (.s (.int .i64 a3)))] = f86.step k (fun x => f86.w x some) a1 a2 a3 := by kernel_rfl
theorem f86.hok (k : Nat) : HOK (f86.X k) (bodyOf Try.f86) where
  l := allP_mem (by exact trivial)
  j := allP_mem (by exact trivial)
theorem f86.sound (k : Nat) : SoundC env Try.prog 86 ((f86.e k).F) := by
  intro ps_
  show GoodC _ _ _ ps_ (f86.hd k ps_)
  unfold f86.hd
  refine gC_ok (p := GoodC env Try.prog 86 _) goodC_no fun _ _ h => ?_
  subst h
  refine qC_ok (p := GoodC env Try.prog 86 _) goodC_no fun _ h => ?_
  subst h
  refine qS_ok (p := GoodC env Try.prog 86 _) goodC_no fun _ h => ?_
  subst h
  refine vI_ok (p := GoodC env Try.prog 86 _) goodC_no fun _ h => ?_
  subst h
  refine gC_ok (p := GoodC env Try.prog 86 _) goodC_no fun _ _ h => ?_
  subst h
  refine qC_ok (p := GoodC env Try.prog 86 _) goodC_no fun _ h => ?_
  subst h
  refine qS_ok (p := GoodC env Try.prog 86 _) goodC_no fun _ h => ?_
  subst h
  refine vI_ok (p := GoodC env Try.prog 86 _) goodC_no fun _ h => ?_
  subst h
  refine gC_ok (p := GoodC env Try.prog 86 _) goodC_no fun _ _ h => ?_
  subst h
  refine qC_ok (p := GoodC env Try.prog 86 _) goodC_no fun _ h => ?_
  subst h
  refine qS_ok (p := GoodC env Try.prog 86 _) goodC_no fun _ h => ?_
  subst h
  refine vI_ok (p := GoodC env Try.prog 86 _) goodC_no fun _ h => ?_
  subst h
  refine gE_ok (p := GoodC env Try.prog 86 _) goodC_no fun h => ?_
  subst h
  exact fun_good (fun_sound envOK (cs_sound _ (by exact trivial)) (f86.hok k) Try.func86 rfl) ((f86.ev k _ _ _).trans (f86.nat k _ _ _ _))
theorem f86.says (k : Nat) (a1 : Int) (a2 : Int) (a3 : Int) (t5 : Bool) (h_ : f86 k a1 a2 a3 = some t5) : SoundAt env Try.prog 86 [.v (.c (.s (.int .i64 a1))), .v (.c (.s (.int .i64 a2))), .v (.c (.s (.int .i64 a3)))] ⟨.v (.c (.s (.bool t5))), [[], [], []]⟩ :=
  fun_sound envOK (cs_sound _ (by exact trivial)) (f86.hok k) Try.func86 rfl _ _ (((f86.ev k a1 a2 a3).trans (f86.nat k _ a1 a2 a3)).trans (by rw [h_]; rfl))
theorem f86.fnok : FnOK Try.prog 86 := fn_ok Try.func86 (by kernel_rfl) rfl
def f106.l2.step {R : Type} (k : Nat) (rec_ : (List S146) → Int → Int → Int → Option R) (ret : (Int ⊕ (Unit)) → Option R) (xs4 : List S146) (a5 : Int) (a6 : Int) (a7 : Int) : Option R :=
  if (decide (a7 < (((List.length xs4) : Nat) : Int))) = true then
    if (0 : Int) ≤ a7 then
      if a7 < ((List.length xs4 : Nat) : Int) then
        if (decide ((List.getD xs4 (Int.toNat a7) (⟨(0 : Int), (0 : Int), (0 : Int), false⟩ : S146)).f0 = a5)) = true then
          if (0 : Int) ≤ a7 then
            if a7 < ((List.length xs4 : Nat) : Int) then
              if (decide ((List.getD xs4 (Int.toNat a7) (⟨(0 : Int), (0 : Int), (0 : Int), false⟩ : S146)).f1 = a6)) = false then
                if (0 : Int) ≤ a7 then
                  if a7 < ((List.length xs4 : Nat) : Int) then
                    if (decide ((List.getD xs4 (Int.toNat a7) (⟨(0 : Int), (0 : Int), (0 : Int), false⟩ : S146)).f0 = a6)) = true then
                      if (0 : Int) ≤ a7 then
                        if a7 < ((List.length xs4 : Nat) : Int) then
                          if (decide ((List.getD xs4 (Int.toNat a7) (⟨(0 : Int), (0 : Int), (0 : Int), false⟩ : S146)).f1 = a5)) = true then
                            ret (.inl a7)
                          else
                            rec_ xs4 a5 a6 (IntKind.i64.wrap (a7 + (1 : Int)))
                        else none
                      else none
                    else
                      rec_ xs4 a5 a6 (IntKind.i64.wrap (a7 + (1 : Int)))
                  else none
                else none
              else
                ret (.inl a7)
            else none
          else none
        else
          if (0 : Int) ≤ a7 then
            if a7 < ((List.length xs4 : Nat) : Int) then
              if (decide ((List.getD xs4 (Int.toNat a7) (⟨(0 : Int), (0 : Int), (0 : Int), false⟩ : S146)).f0 = a6)) = true then
                if (0 : Int) ≤ a7 then
                  if a7 < ((List.length xs4 : Nat) : Int) then
                    if (decide ((List.getD xs4 (Int.toNat a7) (⟨(0 : Int), (0 : Int), (0 : Int), false⟩ : S146)).f1 = a5)) = true then
                      ret (.inl a7)
                    else
                      rec_ xs4 a5 a6 (IntKind.i64.wrap (a7 + (1 : Int)))
                  else none
                else none
              else
                rec_ xs4 a5 a6 (IntKind.i64.wrap (a7 + (1 : Int)))
            else none
          else none
      else none
    else none
  else
    ret (.inr ())
def f106.l2 (k : Nat) : Nat → (List S146) → Int → Int → Int → Option (Int ⊕ (Unit))
  | 0, _, _, _, _ => none
  | j + 1, xs4, a5, a6, a7 => f106.l2.step k (fun xs4 a5 a6 a7 => f106.l2 k j xs4 a5 a6 a7) some xs4 a5 a6 a7
def f106.l2.w {R : Type} : (Int ⊕ (Unit)) → (Exit → St env → Option R) → Option R := fun x K => Sum.elim (fun t10 => K .ret ⟨fullT [6] 0 49 [.v (.c (.s (.int .i64 t10)))], [], 723⟩) (fun t11 => K (.exit 0) ⟨fullT [] 0 49 [], [], 723⟩) x
def f106.l2.st (xs4 : List S146) (a5 : Int) (a6 : Int) (a7 : Int) : St env := ⟨fullT [0, 1, 2, 7] 0 49 [.v (.c (.imm 146 xs4)), .v (.c (.s (.int .i64 a5))), .v (.c (.s (.int .i64 a6))), .v (.c (.s (.int .i64 a7)))], [], 35⟩
def f106.l2.hd (k : Nat) (ts_ : List (AV env)) (mm_ : Mem env) (n_ : Nat) : LCl env :=
  gTs LCl.no [0, 1, 2, 7] 49 ts_ fun l_ => gV LCl.no l_ fun a_ l_ => rImm LCl.no 146 a_ fun xs4 => gV LCl.no l_ fun a_ l_ => rV LCl.no a_ fun v_ => vI LCl.no .i64 v_ fun a5 => gV LCl.no l_ fun a_ l_ => rV LCl.no a_ fun v_ => vI LCl.no .i64 v_ fun a6 => gV LCl.no l_ fun a_ l_ => rV LCl.no a_ fun v_ => vI LCl.no .i64 v_ fun a7 => gE LCl.no l_ <| gE LCl.no mm_ <| gN LCl.no 35 n_ { α := Int ⊕ (Unit), o := f106.l2 k k xs4 a5 a6 a7, w := f106.l2.w }
def f106.step {R : Type} (k : Nat) (ret : Int → Option R) (xs1 : List S146) (a2 : Int) (a3 : Int) : Option R :=
  (f106.l2 k k xs1 a2 a3 (0 : Int)).bind (Sum.elim (fun t8 => ret t8) (fun t9 => ret (-1 : Int)))
def f106 (k : Nat) (xs1 : List S146) (a2 : Int) (a3 : Int) : Option Int := f106.step k some xs1 a2 a3
def f106.w {R : Type} : Int → (Res env → Option R) → Option R := fun t12 K => K ⟨.v (.c (.s (.int .i64 t12))), [[], [], []]⟩
theorem f106.wn (x : Int) : ∃ res, ∀ {R : Type} (K : Res env → Option R), f106.w x K = K res := by
  exact ⟨_, fun _ => rfl⟩
def f106.hd (k : Nat) (ps_ : List (P2 env)) : Cl env :=
  gC Cl.no ps_ fun p_ ps_ => qC Cl.no p_ fun c_ => qSl Cl.no 146 c_ fun xs1 => gC Cl.no ps_ fun p_ ps_ => qC Cl.no p_ fun c_ => qS Cl.no c_ fun v_ => vI Cl.no .i64 v_ fun a2 => gC Cl.no ps_ fun p_ ps_ => qC Cl.no p_ fun c_ => qS Cl.no c_ fun v_ => vI Cl.no .i64 v_ fun a3 => gE Cl.no ps_ <| { α := Int, o := f106 k xs1 a2 a3, w := f106.w, nat := fun x _ => f106.wn x }
def f106.e (k : Nat) : Entry env := ⟨fun ps => f106.hd k (coer [[.rd 146], [.no], [.no]] ps), [], []⟩
def f106.X (k : Nat) : Ctx env := { C := lookE [], L := lookE [(2, fun S => f106.l2.hd k S.ts S.m S.n)], J := lookE [], keep := lookD [(2, [0, 1, 2, 7])], keepX := lookD [(2, [6])], span := lookN [(2, 688)], eff := fun n => memN n [], prep := lookP [], np := 0 }
theorem f106.l2.nat {R : Type} (k : Nat) (rec_ : (List S146) → Int → Int → Int → Option (Int ⊕ (Unit))) (g : (Int ⊕ (Unit)) → Option R) (xs4 : List S146) (a5 : Int) (a6 : Int) (a7 : Int) : (f106.l2.step k rec_ some xs4 a5 a6 a7).bind g = f106.l2.step k (fun xs4 a5 a6 a7 => (rec_ xs4 a5 a6 a7).bind g) g xs4 a5 a6 a7 := by
  simp only [f106.l2.step, bind_ite, bind_sum, Option.bind_assoc, Option.bind_some, Option.bind_none]
theorem f106.l2.good (k : Nat) (xs4 : List S146) (a5 : Int) (a6 : Int) (a7 : Int) : GoodL (f106.X k) (nthC 0 (loopsOf (bodyOf Try.f106))) (f106.l2.st xs4 a5 a6 a7) { α := (Int ⊕ (Unit)), o := f106.l2 k k xs4 a5 a6 a7, w := f106.l2.w } :=
  loop_good (ι := (List S146) × Int × Int × Int) (α := (Int ⊕ (Unit))) (fun i => f106.l2.st i.1 i.2.1 i.2.2.1 i.2.2.2) (fun j i => f106.l2 k j i.1 i.2.1 i.2.2.1 i.2.2.2) f106.l2.w (fun rec_ ret i => f106.l2.step k (fun xs4 a5 a6 a7 => rec_ (xs4, a5, a6, a7)) ret i.1 i.2.1 i.2.2.1 i.2.2.2)
    (fun _ => rfl) (fun _ _ => rfl) (fun rec_ g i => f106.l2.nat k _ g i.1 i.2.1 i.2.2.1 i.2.2.2) (fun {R} i0 i rec_ K => by kernel_rfl) k (xs4, a5, a6, a7)
theorem f106.l2.all (k : Nat) (S : St env) : GoodL (f106.X k) (nthC 0 (loopsOf (bodyOf Try.f106))) S (f106.l2.hd k S.ts S.m S.n) := by
  obtain ⟨ts_, m_, n_⟩ := S
  show GoodL _ _ _ (f106.l2.hd k ts_ m_ n_)
  unfold f106.l2.hd
  refine gTs_ok (p := GoodL _ _ _) goodL_no fun _ h => ?_
  subst h
  refine gV_ok (p := GoodL _ _ _) goodL_no fun _ _ h => ?_
  subst h
  refine rImm_ok (p := GoodL _ _ _) goodL_no fun _ h => ?_
  subst h
  refine gV_ok (p := GoodL _ _ _) goodL_no fun _ _ h => ?_
  subst h
  refine rV_ok (p := GoodL _ _ _) goodL_no fun _ h => ?_
  subst h
  refine vI_ok (p := GoodL _ _ _) goodL_no fun _ h => ?_
  subst h
  refine gV_ok (p := GoodL _ _ _) goodL_no fun _ _ h => ?_
  subst h
  refine rV_ok (p := GoodL _ _ _) goodL_no fun _ h => ?_
  subst h
  refine vI_ok (p := GoodL _ _ _) goodL_no fun _ h => ?_
  subst h
  refine gV_ok (p := GoodL _ _ _) goodL_no fun _ _ h => ?_
  subst h
  refine rV_ok (p := GoodL _ _ _) goodL_no fun _ h => ?_
  subst h
  refine vI_ok (p := GoodL _ _ _) goodL_no fun _ h => ?_
  subst h
  refine gE_ok (p := GoodL _ _ _) goodL_no fun h => ?_
  subst h
  refine gE_ok (p := GoodL _ _ _) goodL_no fun h => ?_
  subst h
  refine gN_ok (p := GoodL _ _ _) goodL_no fun h => ?_
  subst h
  exact f106.l2.good k _ _ _ _
theorem f106.nat {R : Type} (k : Nat) (g : Int → Option R) (xs1 : List S146) (a2 : Int) (a3 : Int) : f106.step k g xs1 a2 a3 = (f106 k xs1 a2 a3).bind g := by
  simp only [f106, f106.step, bind_ite, bind_sum, Option.bind_assoc, Option.bind_some, Option.bind_none]
theorem f106.ev (k : Nat) (xs1 : List S146) (a2 : Int) (a3 : Int) : evF (f106.X k) (bodyOf Try.f106) Try.f106.ntmps Try.f106.results.toList [.v (.c (.sl 146 xs1)), .v (.c (.s (.int .i64 a2))), .v (.c (.s (.int .i64 a3)))] = f106.step k (fun x => f106.w x some) xs1 a2 a3 := by kernel_rfl
theorem f106.hok (k : Nat) : HOK (f106.X k) (bodyOf Try.f106) where
  l := allP_mem (by exact ⟨ls_of (h0 := fun S => f106.l2.hd k S.ts S.m S.n) (by kernel_rfl) (f106.l2.all k), trivial⟩)
  j := allP_mem (by exact trivial)
theorem f106.sound0 (k : Nat) : SoundC env Try.prog 106 (f106.hd k) := by
  intro ps_
  show GoodC _ _ _ ps_ (f106.hd k ps_)
  unfold f106.hd
  refine gC_ok (p := GoodC env Try.prog 106 _) goodC_no fun _ _ h => ?_
  subst h
  refine qC_ok (p := GoodC env Try.prog 106 _) goodC_no fun _ h => ?_
  subst h
  refine qSl_ok (p := GoodC env Try.prog 106 _) goodC_no fun _ h => ?_
  subst h
  refine gC_ok (p := GoodC env Try.prog 106 _) goodC_no fun _ _ h => ?_
  subst h
  refine qC_ok (p := GoodC env Try.prog 106 _) goodC_no fun _ h => ?_
  subst h
  refine qS_ok (p := GoodC env Try.prog 106 _) goodC_no fun _ h => ?_
  subst h
  refine vI_ok (p := GoodC env Try.prog 106 _) goodC_no fun _ h => ?_
  subst h
  refine gC_ok (p := GoodC env Try.prog 106 _) goodC_no fun _ _ h => ?_
  subst h
  refine qC_ok (p := GoodC env Try.prog 106 _) goodC_no fun _ h => ?_
  subst h
  refine qS_ok (p := GoodC env Try.prog 106 _) goodC_no fun _ h => ?_
  subst h
  refine vI_ok (p := GoodC env Try.prog 106 _) goodC_no fun _ h => ?_
  subst h
  refine gE_ok (p := GoodC env Try.prog 106 _) goodC_no fun h => ?_
  subst h
  exact fun_good (fun_sound envOK (cs_sound _ (by exact trivial)) (f106.hok k) Try.func106 rfl) ((f106.ev k _ _ _).trans (f106.nat k _ _ _ _))
theorem f106.sound (k : Nat) : SoundC env Try.prog 106 (f106.e k).F := soundC_coer (f106.sound0 k) [[.rd 146], [.no], [.no]]
theorem f106.says (k : Nat) (xs1 : List S146) (a2 : Int) (a3 : Int) (t13 : Int) (h_ : f106 k xs1 a2 a3 = some t13) : SoundAt env Try.prog 106 [.v (.c (.sl 146 xs1)), .v (.c (.s (.int .i64 a2))), .v (.c (.s (.int .i64 a3)))] ⟨.v (.c (.s (.int .i64 t13))), [[], [], []]⟩ :=
  fun_sound envOK (cs_sound _ (by exact trivial)) (f106.hok k) Try.func106 rfl _ _ (((f106.ev k xs1 a2 a3).trans (f106.nat k _ xs1 a2 a3)).trans (by rw [h_]; rfl))
theorem f106.fnok : FnOK Try.prog 106 := fn_ok Try.func106 (by kernel_rfl) rfl
def f104.l4.step {R : Type} (k : Nat) (rec_ : Int → (List S146) → Int → Option R) (ret : (Bool ⊕ (Unit)) → Option R) (a4 : Int) (xs5 : List S146) (a6 : Int) : Option R :=
  if (decide (a6 < (((List.length xs5) : Nat) : Int))) = true then
    if (0 : Int) ≤ a6 then
      if a6 < ((List.length xs5 : Nat) : Int) then
        (f86 k (List.getD xs5 (Int.toNat a6) (⟨(0 : Int), (0 : Int), (0 : Int), false⟩ : S146)).f0 (0 : Int) (IntKind.i64.wrap (a4 - (1 : Int)))).bind fun t7 => if (!t7) = false then
            (f86 k (List.getD xs5 (Int.toNat a6) (⟨(0 : Int), (0 : Int), (0 : Int), false⟩ : S146)).f1 (0 : Int) (IntKind.i64.wrap (a4 - (1 : Int)))).bind fun t8 => if (!t8) = false then
                if (decide ((List.getD xs5 (Int.toNat a6) (⟨(0 : Int), (0 : Int), (0 : Int), false⟩ : S146)).f0 = (List.getD xs5 (Int.toNat a6) (⟨(0 : Int), (0 : Int), (0 : Int), false⟩ : S146)).f1)) = false then
                  (f86 k (List.getD xs5 (Int.toNat a6) (⟨(0 : Int), (0 : Int), (0 : Int), false⟩ : S146)).f2 (1 : Int) (16 : Int)).bind fun t9 => if (!t9) = false then
                      if (0 : Int) ≤ a6 then
                        if a6 ≤ ((List.length xs5 : Nat) : Int) then
                          (f106 k (List.drop 0 (List.take (Int.toNat a6) xs5)) (List.getD xs5 (Int.toNat a6) (⟨(0 : Int), (0 : Int), (0 : Int), false⟩ : S146)).f0 (List.getD xs5 (Int.toNat a6) (⟨(0 : Int), (0 : Int), (0 : Int), false⟩ : S146)).f1).bind fun t10 => if (decide (t10 ≥ (0 : Int))) = true then
                              ret (.inl false)
                            else
                              rec_ a4 xs5 (IntKind.i64.wrap (a6 + (1 : Int)))
                        else none
                      else none
                    else
                      ret (.inl false)
                else
                  ret (.inl false)
              else
                ret (.inl false)
          else
            ret (.inl false)
      else none
    else none
  else
    ret (.inr ())
def f104.l4 (k : Nat) : Nat → Int → (List S146) → Int → Option (Bool ⊕ (Unit))
  | 0, _, _, _ => none
  | j + 1, a4, xs5, a6 => f104.l4.step k (fun a4 xs5 a6 => f104.l4 k j a4 xs5 a6) some a4 xs5 a6
def f104.l4.w {R : Type} : (Bool ⊕ (Unit)) → (Exit → St env → Option R) → Option R := fun x K => Sum.elim (fun t13 => K .ret ⟨fullT [4] 0 63 [.v (.c (.s (.bool t13)))], [], 994⟩) (fun t14 => K (.exit 0) ⟨fullT [] 0 63 [], [], 994⟩) x
def f104.l4.st (a4 : Int) (xs5 : List S146) (a6 : Int) : St env := ⟨fullT [0, 1, 5] 0 63 [.v (.c (.s (.int .i64 a4))), .v (.c (.imm 146 xs5)), .v (.c (.s (.int .i64 a6)))], [], 162⟩
def f104.l4.hd (k : Nat) (ts_ : List (AV env)) (mm_ : Mem env) (n_ : Nat) : LCl env :=
  gTs LCl.no [0, 1, 5] 63 ts_ fun l_ => gV LCl.no l_ fun a_ l_ => rV LCl.no a_ fun v_ => vI LCl.no .i64 v_ fun a4 => gV LCl.no l_ fun a_ l_ => rImm LCl.no 146 a_ fun xs5 => gV LCl.no l_ fun a_ l_ => rV LCl.no a_ fun v_ => vI LCl.no .i64 v_ fun a6 => gE LCl.no l_ <| gE LCl.no mm_ <| gN LCl.no 162 n_ { α := Bool ⊕ (Unit), o := f104.l4 k k a4 xs5 a6, w := f104.l4.w }
def f104.step {R : Type} (k : Nat) (ret : Bool → Option R) (a1 : Int) (xs2 : List S146) : Option R :=
  (f86 k a1 (1 : Int) (5 : Int)).bind fun t3 => if (!t3) = false then
      if (decide ((((List.length xs2) : Nat) : Int) > (8 : Int))) = true then
        ret false
      else
        (f104.l4 k k a1 xs2 (0 : Int)).bind (Sum.elim (fun t11 => ret t11) (fun t12 => ret true))
    else
      ret false
def f104 (k : Nat) (a1 : Int) (xs2 : List S146) : Option Bool := f104.step k some a1 xs2
def f104.w {R : Type} : Bool → (Res env → Option R) → Option R := fun t15 K => K ⟨.v (.c (.s (.bool t15))), [[], []]⟩
theorem f104.wn (x : Bool) : ∃ res, ∀ {R : Type} (K : Res env → Option R), f104.w x K = K res := by
  exact ⟨_, fun _ => rfl⟩
def f104.hd (k : Nat) (ps_ : List (P2 env)) : Cl env :=
  gC Cl.no ps_ fun p_ ps_ => qC Cl.no p_ fun c_ => qS Cl.no c_ fun v_ => vI Cl.no .i64 v_ fun a1 => gC Cl.no ps_ fun p_ ps_ => qC Cl.no p_ fun c_ => qSl Cl.no 146 c_ fun xs2 => gE Cl.no ps_ <| { α := Bool, o := f104 k a1 xs2, w := f104.w, nat := fun x _ => f104.wn x }
def f104.e (k : Nat) : Entry env := ⟨fun ps => f104.hd k (coer [[.no], [.rd 146]] ps), [], []⟩
def f104.X (k : Nat) : Ctx env := { C := lookE [(86, f86.e k), (106, f106.e k)], L := lookE [(4, fun S => f104.l4.hd k S.ts S.m S.n)], J := lookE [], keep := lookD [(4, [0, 1, 5])], keepX := lookD [(4, [4])], span := lookN [(4, 832)], eff := fun n => memN n [], prep := lookP [], np := 0 }
theorem f104.l4.nat {R : Type} (k : Nat) (rec_ : Int → (List S146) → Int → Option (Bool ⊕ (Unit))) (g : (Bool ⊕ (Unit)) → Option R) (a4 : Int) (xs5 : List S146) (a6 : Int) : (f104.l4.step k rec_ some a4 xs5 a6).bind g = f104.l4.step k (fun a4 xs5 a6 => (rec_ a4 xs5 a6).bind g) g a4 xs5 a6 := by
  simp only [f104.l4.step, bind_ite, bind_sum, Option.bind_assoc, Option.bind_some, Option.bind_none]
theorem f104.l4.good (k : Nat) (a4 : Int) (xs5 : List S146) (a6 : Int) : GoodL (f104.X k) (nthC 0 (loopsOf (bodyOf Try.f104))) (f104.l4.st a4 xs5 a6) { α := (Bool ⊕ (Unit)), o := f104.l4 k k a4 xs5 a6, w := f104.l4.w } :=
  loop_good (ι := Int × (List S146) × Int) (α := (Bool ⊕ (Unit))) (fun i => f104.l4.st i.1 i.2.1 i.2.2) (fun j i => f104.l4 k j i.1 i.2.1 i.2.2) f104.l4.w (fun rec_ ret i => f104.l4.step k (fun a4 xs5 a6 => rec_ (a4, xs5, a6)) ret i.1 i.2.1 i.2.2)
    (fun _ => rfl) (fun _ _ => rfl) (fun rec_ g i => f104.l4.nat k _ g i.1 i.2.1 i.2.2) (fun {R} i0 i rec_ K => by kernel_rfl) k (a4, xs5, a6)
theorem f104.l4.all (k : Nat) (S : St env) : GoodL (f104.X k) (nthC 0 (loopsOf (bodyOf Try.f104))) S (f104.l4.hd k S.ts S.m S.n) := by
  obtain ⟨ts_, m_, n_⟩ := S
  show GoodL _ _ _ (f104.l4.hd k ts_ m_ n_)
  unfold f104.l4.hd
  refine gTs_ok (p := GoodL _ _ _) goodL_no fun _ h => ?_
  subst h
  refine gV_ok (p := GoodL _ _ _) goodL_no fun _ _ h => ?_
  subst h
  refine rV_ok (p := GoodL _ _ _) goodL_no fun _ h => ?_
  subst h
  refine vI_ok (p := GoodL _ _ _) goodL_no fun _ h => ?_
  subst h
  refine gV_ok (p := GoodL _ _ _) goodL_no fun _ _ h => ?_
  subst h
  refine rImm_ok (p := GoodL _ _ _) goodL_no fun _ h => ?_
  subst h
  refine gV_ok (p := GoodL _ _ _) goodL_no fun _ _ h => ?_
  subst h
  refine rV_ok (p := GoodL _ _ _) goodL_no fun _ h => ?_
  subst h
  refine vI_ok (p := GoodL _ _ _) goodL_no fun _ h => ?_
  subst h
  refine gE_ok (p := GoodL _ _ _) goodL_no fun h => ?_
  subst h
  refine gE_ok (p := GoodL _ _ _) goodL_no fun h => ?_
  subst h
  refine gN_ok (p := GoodL _ _ _) goodL_no fun h => ?_
  subst h
  exact f104.l4.good k _ _ _
theorem f104.nat {R : Type} (k : Nat) (g : Bool → Option R) (a1 : Int) (xs2 : List S146) : f104.step k g a1 xs2 = (f104 k a1 xs2).bind g := by
  simp only [f104, f104.step, bind_ite, bind_sum, Option.bind_assoc, Option.bind_some, Option.bind_none]
theorem f104.ev (k : Nat) (a1 : Int) (xs2 : List S146) : evF (f104.X k) (bodyOf Try.f104) Try.f104.ntmps Try.f104.results.toList [.v (.c (.s (.int .i64 a1))), .v (.c (.sl 146 xs2))] = f104.step k (fun x => f104.w x some) a1 xs2 := by kernel_rfl
theorem f104.hok (k : Nat) : HOK (f104.X k) (bodyOf Try.f104) where
  l := allP_mem (by exact ⟨ls_of (h0 := fun S => f104.l4.hd k S.ts S.m S.n) (by kernel_rfl) (f104.l4.all k), trivial⟩)
  j := allP_mem (by exact trivial)
theorem f104.sound0 (k : Nat) : SoundC env Try.prog 104 (f104.hd k) := by
  intro ps_
  show GoodC _ _ _ ps_ (f104.hd k ps_)
  unfold f104.hd
  refine gC_ok (p := GoodC env Try.prog 104 _) goodC_no fun _ _ h => ?_
  subst h
  refine qC_ok (p := GoodC env Try.prog 104 _) goodC_no fun _ h => ?_
  subst h
  refine qS_ok (p := GoodC env Try.prog 104 _) goodC_no fun _ h => ?_
  subst h
  refine vI_ok (p := GoodC env Try.prog 104 _) goodC_no fun _ h => ?_
  subst h
  refine gC_ok (p := GoodC env Try.prog 104 _) goodC_no fun _ _ h => ?_
  subst h
  refine qC_ok (p := GoodC env Try.prog 104 _) goodC_no fun _ h => ?_
  subst h
  refine qSl_ok (p := GoodC env Try.prog 104 _) goodC_no fun _ h => ?_
  subst h
  refine gE_ok (p := GoodC env Try.prog 104 _) goodC_no fun h => ?_
  subst h
  exact fun_good (fun_sound envOK (cs_sound _ (by exact ⟨⟨f86.sound k, f86.fnok⟩, ⟨f106.sound k, f106.fnok⟩, trivial⟩)) (f104.hok k) Try.func104 rfl) ((f104.ev k _ _).trans (f104.nat k _ _ _))
theorem f104.sound (k : Nat) : SoundC env Try.prog 104 (f104.e k).F := soundC_coer (f104.sound0 k) [[.no], [.rd 146]]
theorem f104.says (k : Nat) (a1 : Int) (xs2 : List S146) (t16 : Bool) (h_ : f104 k a1 xs2 = some t16) : SoundAt env Try.prog 104 [.v (.c (.s (.int .i64 a1))), .v (.c (.sl 146 xs2))] ⟨.v (.c (.s (.bool t16))), [[], []]⟩ :=
  fun_sound envOK (cs_sound _ (by exact ⟨⟨f86.sound k, f86.fnok⟩, ⟨f106.sound k, f106.fnok⟩, trivial⟩)) (f104.hok k) Try.func104 rfl _ _ (((f104.ev k a1 xs2).trans (f104.nat k _ a1 xs2)).trans (by rw [h_]; rfl))
theorem f104.fnok : FnOK Try.prog 104 := fn_ok Try.func104 (by kernel_rfl) rfl
def f105.step {R : Type} (k : Nat) (ret : (Int × Int × Int) → Option R) (a1 : Int) (a2 : Int) : Option R :=
  if (decide (a1 = a2)) = true then
    ret ((0 : Int), a1, (0 : Int))
  else
    ret ((16 : Int), (-1 : Int), (0 : Int))
def f105 (k : Nat) (a1 : Int) (a2 : Int) : Option (Int × Int × Int) := f105.step k some a1 a2
def f105.w {R : Type} : (Int × Int × Int) → (Res env → Option R) → Option R := fun t3 K => K ⟨.v (.g [.s (.int .i64 t3.1), .s (.int .i64 t3.2.1), .s (.int .i64 t3.2.2)]), [[], []]⟩
theorem f105.wn (x : (Int × Int × Int)) : ∃ res, ∀ {R : Type} (K : Res env → Option R), f105.w x K = K res := by
  exact ⟨_, fun _ => rfl⟩
def f105.hd (k : Nat) (ps_ : List (P2 env)) : Cl env :=
  gC Cl.no ps_ fun p_ ps_ => qC Cl.no p_ fun c_ => qS Cl.no c_ fun v_ => vI Cl.no .i64 v_ fun a1 => gC Cl.no ps_ fun p_ ps_ => qC Cl.no p_ fun c_ => qS Cl.no c_ fun v_ => vI Cl.no .i64 v_ fun a2 => gE Cl.no ps_ <| { α := Int × Int × Int, o := f105 k a1 a2, w := f105.w, nat := fun x _ => f105.wn x }
def f105.e (k : Nat) : Entry env := ⟨f105.hd k, [], []⟩
def f105.X (k : Nat) : Ctx env := { C := lookE [], L := lookE [], J := lookE [], keep := lookD [], keepX := lookD [], span := lookN [], eff := fun n => memN n [], prep := lookP [], np := 0 }
theorem f105.nat {R : Type} (k : Nat) (g : (Int × Int × Int) → Option R) (a1 : Int) (a2 : Int) : f105.step k g a1 a2 = (f105 k a1 a2).bind g := by
  simp only [f105, f105.step, bind_ite, bind_sum, Option.bind_assoc, Option.bind_some, Option.bind_none]
theorem f105.ev (k : Nat) (a1 : Int) (a2 : Int) : evF (f105.X k) (bodyOf Try.f105) Try.f105.ntmps Try.f105.results.toList [.v (.c (.s (.int .i64 a1))), .v (.c (.s (.int .i64 a2)))] = f105.step k (fun x => f105.w x some) a1 a2 := by kernel_rfl
theorem f105.hok (k : Nat) : HOK (f105.X k) (bodyOf Try.f105) where
  l := allP_mem (by exact trivial)
  j := allP_mem (by exact trivial)
theorem f105.sound (k : Nat) : SoundC env Try.prog 105 ((f105.e k).F) := by
  intro ps_
  show GoodC _ _ _ ps_ (f105.hd k ps_)
  unfold f105.hd
  refine gC_ok (p := GoodC env Try.prog 105 _) goodC_no fun _ _ h => ?_
  subst h
  refine qC_ok (p := GoodC env Try.prog 105 _) goodC_no fun _ h => ?_
  subst h
  refine qS_ok (p := GoodC env Try.prog 105 _) goodC_no fun _ h => ?_
  subst h
  refine vI_ok (p := GoodC env Try.prog 105 _) goodC_no fun _ h => ?_
  subst h
  refine gC_ok (p := GoodC env Try.prog 105 _) goodC_no fun _ _ h => ?_
  subst h
  refine qC_ok (p := GoodC env Try.prog 105 _) goodC_no fun _ h => ?_
  subst h
  refine qS_ok (p := GoodC env Try.prog 105 _) goodC_no fun _ h => ?_
  subst h
  refine vI_ok (p := GoodC env Try.prog 105 _) goodC_no fun _ h => ?_
  subst h
  refine gE_ok (p := GoodC env Try.prog 105 _) goodC_no fun h => ?_
  subst h
  exact fun_good (fun_sound envOK (cs_sound _ (by exact trivial)) (f105.hok k) Try.func105 rfl) ((f105.ev k _ _).trans (f105.nat k _ _ _))
theorem f105.says (k : Nat) (a1 : Int) (a2 : Int) (t4 : Int × Int × Int) (h_ : f105 k a1 a2 = some t4) : SoundAt env Try.prog 105 [.v (.c (.s (.int .i64 a1))), .v (.c (.s (.int .i64 a2)))] ⟨.v (.g [.s (.int .i64 t4.1), .s (.int .i64 t4.2.1), .s (.int .i64 t4.2.2)]), [[], []]⟩ :=
  fun_sound envOK (cs_sound _ (by exact trivial)) (f105.hok k) Try.func105 rfl _ _ (((f105.ev k a1 a2).trans (f105.nat k _ a1 a2)).trans (by rw [h_]; rfl))
theorem f105.fnok : FnOK Try.prog 105 := fn_ok Try.func105 (by kernel_rfl) rfl
def f42.l9.step {R : Type} (k : Nat) (rec_ : Int → Int → (List S146) → (List (List S142)) → Int → Option R) (ret : ((Bool × Int × (List S146) × (List (List S142)) × Int) ⊕ (Int × (List S146) × (List (List S142)) × Int)) → Option R) (a9 : Int) (a10 : Int) (xs11 : List S146) (xs12 : List (List S142)) (a13 : Int) : Option R :=
  if (decide (a10 < a13)) = true then
    if (0 : Int) ≤ a9 then
      if a9 < ((List.length xs12 : Nat) : Int) then
        if (0 : Int) ≤ a10 then
          if a10 < ((List.length (List.getD xs12 (Int.toNat a9) []) : Nat) : Int) then
            if (decide (a9 = a10)) = true then
              (f105 k a9 a10).bind fun t14 => if (!(decide ((List.getD (List.getD xs12 (Int.toNat a9) []) (Int.toNat a10) (⟨(0 : Int), (0 : Int), (0 : Int)⟩ : S142)).f0 = t14.1) && (decide ((List.getD (List.getD xs12 (Int.toNat a9) []) (Int.toNat a10) (⟨(0 : Int), (0 : Int), (0 : Int)⟩ : S142)).f1 = t14.2.1) && (decide ((List.getD (List.getD xs12 (Int.toNat a9) []) (Int.toNat a10) (⟨(0 : Int), (0 : Int), (0 : Int)⟩ : S142)).f2 = t14.2.2) && true)))) = true then
                  ret (.inl (false, a9, xs11, xs12, a13))
                else
                  rec_ a9 (IntKind.i64.wrap (a10 + (1 : Int))) xs11 xs12 a13
            else
              (f86 k (List.getD (List.getD xs12 (Int.toNat a9) []) (Int.toNat a10) (⟨(0 : Int), (0 : Int), (0 : Int)⟩ : S142)).f0 (1 : Int) (16 : Int)).bind fun t15 => if (!t15) = false then
                  (f86 k (List.getD (List.getD xs12 (Int.toNat a9) []) (Int.toNat a10) (⟨(0 : Int), (0 : Int), (0 : Int)⟩ : S142)).f2 (0 : Int) (6 : Int)).bind fun t16 => if (!t16) = false then
                      (f86 k (List.getD (List.getD xs12 (Int.toNat a9) []) (Int.toNat a10) (⟨(0 : Int), (0 : Int), (0 : Int)⟩ : S142)).f1 (-1 : Int) (IntKind.i64.wrap (a13 - (1 : Int)))).bind fun t17 => if (!t17) = false then
                          (f105 k a9 a10).bind fun t18 => if (!((decide ((List.getD (List.getD xs12 (Int.toNat a9) []) (Int.toNat a10) (⟨(0 : Int), (0 : Int), (0 : Int)⟩ : S142)).f1 < (0 : Int))) == (decide ((List.getD (List.getD xs12 (Int.toNat a9) []) (Int.toNat a10) (⟨(0 : Int), (0 : Int), (0 : Int)⟩ : S142)).f0 = t18.1) && (decide ((List.getD (List.getD xs12 (Int.toNat a9) []) (Int.toNat a10) (⟨(0 : Int), (0 : Int), (0 : Int)⟩ : S142)).f1 = t18.2.1) && (decide ((List.getD (List.getD xs12 (Int.toNat a9) []) (Int.toNat a10) (⟨(0 : Int), (0 : Int), (0 : Int)⟩ : S142)).f2 = t18.2.2) && true))))) = true then
                              ret (.inl (false, a9, xs11, xs12, a13))
                            else
                              if (decide ((List.getD (List.getD xs12 (Int.toNat a9) []) (Int.toNat a10) (⟨(0 : Int), (0 : Int), (0 : Int)⟩ : S142)).f1 ≥ (0 : Int))) = true then
                                (f106 k xs11 a9 (List.getD (List.getD xs12 (Int.toNat a9) []) (Int.toNat a10) (⟨(0 : Int), (0 : Int), (0 : Int)⟩ : S142)).f1).bind fun t19 => if (decide (t19 < (0 : Int))) = false then
                                    if (decide ((List.getD (List.getD xs12 (Int.toNat a9) []) (Int.toNat a10) (⟨(0 : Int), (0 : Int), (0 : Int)⟩ : S142)).f0 < (16 : Int))) = true then
                                      if (0 : Int) ≤ t19 then
                                        if t19 < ((List.length xs11 : Nat) : Int) then
                                          if (!(List.getD xs11 (Int.toNat t19) (⟨(0 : Int), (0 : Int), (0 : Int), false⟩ : S146)).f3) = true then
                                            ret (.inl (false, a9, xs11, xs12, a13))
                                          else
                                            rec_ a9 (IntKind.i64.wrap (a10 + (1 : Int))) xs11 xs12 a13
                                        else none
                                      else none
                                    else
                                      rec_ a9 (IntKind.i64.wrap (a10 + (1 : Int))) xs11 xs12 a13
                                  else
                                    ret (.inl (false, a9, xs11, xs12, a13))
                              else
                                rec_ a9 (IntKind.i64.wrap (a10 + (1 : Int))) xs11 xs12 a13
                        else
                          ret (.inl (false, a9, xs11, xs12, a13))
                    else
                      ret (.inl (false, a9, xs11, xs12, a13))
                else
                  ret (.inl (false, a9, xs11, xs12, a13))
          else none
        else none
      else none
    else none
  else
    ret (.inr (a9, xs11, xs12, a13))
def f42.l9 (k : Nat) : Nat → Int → Int → (List S146) → (List (List S142)) → Int → Option ((Bool × Int × (List S146) × (List (List S142)) × Int) ⊕ (Int × (List S146) × (List (List S142)) × Int))
  | 0, _, _, _, _, _ => none
  | j + 1, a9, a10, xs11, xs12, a13 => f42.l9.step k (fun a9 a10 xs11 xs12 a13 => f42.l9 k j a9 a10 xs11 xs12 a13) some a9 a10 xs11 xs12 a13
def f42.l9.w {R : Type} : ((Bool × Int × (List S146) × (List (List S142)) × Int) ⊕ (Int × (List S146) × (List (List S142)) × Int)) → (Exit → St env → Option R) → Option R := fun x K => Sum.elim (fun t24 => K .ret ⟨fullT [1, 2, 3] 0 113 [.v (.c (.bp 1 0)), .v (.c (.s (.bool t24.1))), .v (.c (.s (.int .i64 t24.2.1)))], [(1, .box [.imm 146 t24.2.2.1, .imm 140 t24.2.2.2.1, .s (.int .i64 t24.2.2.2.2)])], 1841⟩) (fun t25 => K (.exit 2) ⟨fullT [1, 3] 0 113 [.v (.c (.bp 1 0)), .v (.c (.s (.int .i64 t25.1)))], [(1, .box [.imm 146 t25.2.1, .imm 140 t25.2.2.1, .s (.int .i64 t25.2.2.2)])], 1841⟩) x
def f42.l9.st (a9 : Int) (a10 : Int) (xs11 : List S146) (xs12 : List (List S142)) (a13 : Int) : St env := ⟨fullT [1, 3, 4] 0 113 [.v (.c (.bp 1 0)), .v (.c (.s (.int .i64 a9))), .v (.c (.s (.int .i64 a10)))], [(1, .box [.imm 146 xs11, .imm 140 xs12, .s (.int .i64 a13)])], 497⟩
def f42.l4.step {R : Type} (k : Nat) (rec_ : Int → (List S146) → (List (List S142)) → Int → Option R) (ret : (Bool ⊕ (Unit)) → Option R) (a5 : Int) (xs6 : List S146) (xs7 : List (List S142)) (a8 : Int) : Option R :=
  if (decide (a5 < a8)) = true then
    if (0 : Int) ≤ a5 then
      if a5 < ((List.length xs7 : Nat) : Int) then
        if (decide ((((List.length (List.getD xs7 (Int.toNat a5) [])) : Nat) : Int) ≠ a8)) = true then
          ret (.inl false)
        else
          (f42.l9 k k a5 (0 : Int) xs6 xs7 a8).bind (Sum.elim (fun t20 => ret (.inl t20.1)) (fun t21 => rec_ (IntKind.i64.wrap (t21.1 + (1 : Int))) t21.2.1 t21.2.2.1 t21.2.2.2))
      else none
    else none
  else
    ret (.inr ())
def f42.l4 (k : Nat) : Nat → Int → (List S146) → (List (List S142)) → Int → Option (Bool ⊕ (Unit))
  | 0, _, _, _, _ => none
  | j + 1, a5, xs6, xs7, a8 => f42.l4.step k (fun a5 xs6 xs7 a8 => f42.l4 k j a5 xs6 xs7 a8) some a5 xs6 xs7 a8
def f42.l4.w {R : Type} : (Bool ⊕ (Unit)) → (Exit → St env → Option R) → Option R := fun x K => Sum.elim (fun t26 => K .ret ⟨fullT [2] 0 113 [.v (.c (.s (.bool t26)))], [], 1905⟩) (fun t27 => K (.exit 0) ⟨fullT [] 0 113 [], [], 1905⟩) x
def f42.l4.st (a5 : Int) (xs6 : List S146) (xs7 : List (List S142)) (a8 : Int) : St env := ⟨fullT [1, 3] 0 113 [.v (.c (.bp 1 0)), .v (.c (.s (.int .i64 a5)))], [(1, .box [.imm 146 xs6, .imm 140 xs7, .s (.int .i64 a8)])], 273⟩
def f42.l9.hd (k : Nat) (ts_ : List (AV env)) (mm_ : Mem env) (n_ : Nat) : LCl env :=
  gTs LCl.no [1, 3, 4] 113 ts_ fun l_ => gV LCl.no l_ fun a_ l_ => rBp LCl.no 1 0 a_ <| gV LCl.no l_ fun a_ l_ => rV LCl.no a_ fun v_ => vI LCl.no .i64 v_ fun a9 => gV LCl.no l_ fun a_ l_ => rV LCl.no a_ fun v_ => vI LCl.no .i64 v_ fun a10 => gE LCl.no l_ <| mBox LCl.no 1 mm_ fun c_ m_ => gC LCl.no c_ fun a_ c_ => rImm LCl.no 146 a_ fun xs11 => gC LCl.no c_ fun a_ c_ => rImm LCl.no 140 a_ fun xs12 => gC LCl.no c_ fun a_ c_ => rV LCl.no a_ fun v_ => vI LCl.no .i64 v_ fun a13 => gE LCl.no c_ <| gE LCl.no m_ <| gN LCl.no 497 n_ { α := (Bool × Int × (List S146) × (List (List S142)) × Int) ⊕ (Int × (List S146) × (List (List S142)) × Int), o := f42.l9 k k a9 a10 xs11 xs12 a13, w := f42.l9.w }
def f42.l4.hd (k : Nat) (ts_ : List (AV env)) (mm_ : Mem env) (n_ : Nat) : LCl env :=
  gTs LCl.no [1, 3] 113 ts_ fun l_ => gV LCl.no l_ fun a_ l_ => rBp LCl.no 1 0 a_ <| gV LCl.no l_ fun a_ l_ => rV LCl.no a_ fun v_ => vI LCl.no .i64 v_ fun a5 => gE LCl.no l_ <| mBox LCl.no 1 mm_ fun c_ m_ => gC LCl.no c_ fun a_ c_ => rImm LCl.no 146 a_ fun xs6 => gC LCl.no c_ fun a_ c_ => rImm LCl.no 140 a_ fun xs7 => gC LCl.no c_ fun a_ c_ => rV LCl.no a_ fun v_ => vI LCl.no .i64 v_ fun a8 => gE LCl.no c_ <| gE LCl.no m_ <| gN LCl.no 273 n_ { α := Bool ⊕ (Unit), o := f42.l4 k k a5 xs6 xs7 a8, w := f42.l4.w }
def f42.step {R : Type} (k : Nat) (ret : Bool → Option R) (xs1 : List S146) (xs2 : List (List S142)) (a3 : Int) : Option R :=
  (f104 k a3 xs1).bind fun t4 => if (!t4) = false then
      if (decide ((((List.length xs2) : Nat) : Int) ≠ a3)) = true then
        ret false
      else
        (f42.l4 k k (0 : Int) xs1 xs2 a3).bind (Sum.elim (fun t22 => ret t22) (fun t23 => ret true))
    else
      ret false
def f42 (k : Nat) (xs1 : List S146) (xs2 : List (List S142)) (a3 : Int) : Option Bool := f42.step k some xs1 xs2 a3
def f42.w {R : Type} : Bool → (Res env → Option R) → Option R := fun t28 K => K ⟨.v (.c (.s (.bool t28))), [[]]⟩
theorem f42.wn (x : Bool) : ∃ res, ∀ {R : Type} (K : Res env → Option R), f42.w x K = K res := by
  exact ⟨_, fun _ => rfl⟩
def f42.hd (k : Nat) (ps_ : List (P2 env)) : Cl env :=
  gC Cl.no ps_ fun p_ ps_ => qG Cl.no p_ fun cs_ => gC Cl.no cs_ fun c_ cs_ => qSl Cl.no 146 c_ fun xs1 => gC Cl.no cs_ fun c_ cs_ => qSl Cl.no 140 c_ fun xs2 => gC Cl.no cs_ fun c_ cs_ => qS Cl.no c_ fun v_ => vI Cl.no .i64 v_ fun a3 => gE Cl.no cs_ <| gE Cl.no ps_ <| { α := Bool, o := f42 k xs1 xs2 a3, w := f42.w, nat := fun x _ => f42.wn x }
def f42.e (k : Nat) : Entry env := ⟨fun ps => f42.hd k (coer [[.rd 146, .rd 140, .no]] ps), [], []⟩
def f42.X (k : Nat) : Ctx env := { C := lookE [(86, f86.e k), (104, f104.e k), (105, f105.e k), (106, f106.e k)], L := lookE [(9, fun S => f42.l9.hd k S.ts S.m S.n), (4, fun S => f42.l4.hd k S.ts S.m S.n)], J := lookE [], keep := lookD [(9, [1, 3, 4]), (4, [1, 3])], keepX := lookD [(9, [1, 2, 3]), (4, [2])], span := lookN [(9, 1344), (4, 1632)], eff := fun n => memN n [], prep := lookP [], np := 0 }
theorem f42.l9.nat {R : Type} (k : Nat) (rec_ : Int → Int → (List S146) → (List (List S142)) → Int → Option ((Bool × Int × (List S146) × (List (List S142)) × Int) ⊕ (Int × (List S146) × (List (List S142)) × Int))) (g : ((Bool × Int × (List S146) × (List (List S142)) × Int) ⊕ (Int × (List S146) × (List (List S142)) × Int)) → Option R) (a9 : Int) (a10 : Int) (xs11 : List S146) (xs12 : List (List S142)) (a13 : Int) : (f42.l9.step k rec_ some a9 a10 xs11 xs12 a13).bind g = f42.l9.step k (fun a9 a10 xs11 xs12 a13 => (rec_ a9 a10 xs11 xs12 a13).bind g) g a9 a10 xs11 xs12 a13 := by
  simp only [f42.l9.step, bind_ite, bind_sum, Option.bind_assoc, Option.bind_some, Option.bind_none]
theorem f42.l9.good (k : Nat) (a9 : Int) (a10 : Int) (xs11 : List S146) (xs12 : List (List S142)) (a13 : Int) : GoodL (f42.X k) (nthC 1 (loopsOf (bodyOf Try.f42))) (f42.l9.st a9 a10 xs11 xs12 a13) { α := ((Bool × Int × (List S146) × (List (List S142)) × Int) ⊕ (Int × (List S146) × (List (List S142)) × Int)), o := f42.l9 k k a9 a10 xs11 xs12 a13, w := f42.l9.w } :=
  loop_good (ι := Int × Int × (List S146) × (List (List S142)) × Int) (α := ((Bool × Int × (List S146) × (List (List S142)) × Int) ⊕ (Int × (List S146) × (List (List S142)) × Int))) (fun i => f42.l9.st i.1 i.2.1 i.2.2.1 i.2.2.2.1 i.2.2.2.2) (fun j i => f42.l9 k j i.1 i.2.1 i.2.2.1 i.2.2.2.1 i.2.2.2.2) f42.l9.w (fun rec_ ret i => f42.l9.step k (fun a9 a10 xs11 xs12 a13 => rec_ (a9, a10, xs11, xs12, a13)) ret i.1 i.2.1 i.2.2.1 i.2.2.2.1 i.2.2.2.2)
    (fun _ => rfl) (fun _ _ => rfl) (fun rec_ g i => f42.l9.nat k _ g i.1 i.2.1 i.2.2.1 i.2.2.2.1 i.2.2.2.2) (fun {R} i0 i rec_ K => by kernel_rfl) k (a9, a10, xs11, xs12, a13)
theorem f42.l9.all (k : Nat) (S : St env) : GoodL (f42.X k) (nthC 1 (loopsOf (bodyOf Try.f42))) S (f42.l9.hd k S.ts S.m S.n) := by
  obtain ⟨ts_, m_, n_⟩ := S
  show GoodL _ _ _ (f42.l9.hd k ts_ m_ n_)
  unfold f42.l9.hd
  refine gTs_ok (p := GoodL _ _ _) goodL_no fun _ h => ?_
  subst h
  refine gV_ok (p := GoodL _ _ _) goodL_no fun _ _ h => ?_
  subst h
  refine rBp_ok (p := GoodL _ _ _) goodL_no fun h => ?_
  subst h
  refine gV_ok (p := GoodL _ _ _) goodL_no fun _ _ h => ?_
  subst h
  refine rV_ok (p := GoodL _ _ _) goodL_no fun _ h => ?_
  subst h
  refine vI_ok (p := GoodL _ _ _) goodL_no fun _ h => ?_
  subst h
  refine gV_ok (p := GoodL _ _ _) goodL_no fun _ _ h => ?_
  subst h
  refine rV_ok (p := GoodL _ _ _) goodL_no fun _ h => ?_
  subst h
  refine vI_ok (p := GoodL _ _ _) goodL_no fun _ h => ?_
  subst h
  refine gE_ok (p := GoodL _ _ _) goodL_no fun h => ?_
  subst h
  refine mBox_ok (p := GoodL _ _ _) goodL_no fun _ _ h => ?_
  subst h
  refine gC_ok (p := GoodL _ _ _) goodL_no fun _ _ h => ?_
  subst h
  refine rImm_ok (p := GoodL _ _ _) goodL_no fun _ h => ?_
  subst h
  refine gC_ok (p := GoodL _ _ _) goodL_no fun _ _ h => ?_
  subst h
  refine rImm_ok (p := GoodL _ _ _) goodL_no fun _ h => ?_
  subst h
  refine gC_ok (p := GoodL _ _ _) goodL_no fun _ _ h => ?_
  subst h
  refine rV_ok (p := GoodL _ _ _) goodL_no fun _ h => ?_
  subst h
  refine vI_ok (p := GoodL _ _ _) goodL_no fun _ h => ?_
  subst h
  refine gE_ok (p := GoodL _ _ _) goodL_no fun h => ?_
  subst h
  refine gE_ok (p := GoodL _ _ _) goodL_no fun h => ?_
  subst h
  refine gN_ok (p := GoodL _ _ _) goodL_no fun h => ?_
  subst h
  exact f42.l9.good k _ _ _ _ _
theorem f42.l4.nat {R : Type} (k : Nat) (rec_ : Int → (List S146) → (List (List S142)) → Int → Option (Bool ⊕ (Unit))) (g : (Bool ⊕ (Unit)) → Option R) (a5 : Int) (xs6 : List S146) (xs7 : List (List S142)) (a8 : Int) : (f42.l4.step k rec_ some a5 xs6 xs7 a8).bind g = f42.l4.step k (fun a5 xs6 xs7 a8 => (rec_ a5 xs6 xs7 a8).bind g) g a5 xs6 xs7 a8 := by
  simp only [f42.l4.step, bind_ite, bind_sum, Option.bind_assoc, Option.bind_some, Option.bind_none]
theorem f42.l4.good (k : Nat) (a5 : Int) (xs6 : List S146) (xs7 : List (List S142)) (a8 : Int) : GoodL (f42.X k) (nthC 0 (loopsOf (bodyOf Try.f42))) (f42.l4.st a5 xs6 xs7 a8) { α := (Bool ⊕ (Unit)), o := f42.l4 k k a5 xs6 xs7 a8, w := f42.l4.w } :=
  loop_good (ι := Int × (List S146) × (List (List S142)) × Int) (α := (Bool ⊕ (Unit))) (fun i => f42.l4.st i.1 i.2.1 i.2.2.1 i.2.2.2) (fun j i => f42.l4 k j i.1 i.2.1 i.2.2.1 i.2.2.2) f42.l4.w (fun rec_ ret i => f42.l4.step k (fun a5 xs6 xs7 a8 => rec_ (a5, xs6, xs7, a8)) ret i.1 i.2.1 i.2.2.1 i.2.2.2)
    (fun _ => rfl) (fun _ _ => rfl) (fun rec_ g i => f42.l4.nat k _ g i.1 i.2.1 i.2.2.1 i.2.2.2) (fun {R} i0 i rec_ K => by kernel_rfl) k (a5, xs6, xs7, a8)
theorem f42.l4.all (k : Nat) (S : St env) : GoodL (f42.X k) (nthC 0 (loopsOf (bodyOf Try.f42))) S (f42.l4.hd k S.ts S.m S.n) := by
  obtain ⟨ts_, m_, n_⟩ := S
  show GoodL _ _ _ (f42.l4.hd k ts_ m_ n_)
  unfold f42.l4.hd
  refine gTs_ok (p := GoodL _ _ _) goodL_no fun _ h => ?_
  subst h
  refine gV_ok (p := GoodL _ _ _) goodL_no fun _ _ h => ?_
  subst h
  refine rBp_ok (p := GoodL _ _ _) goodL_no fun h => ?_
  subst h
  refine gV_ok (p := GoodL _ _ _) goodL_no fun _ _ h => ?_
  subst h
  refine rV_ok (p := GoodL _ _ _) goodL_no fun _ h => ?_
  subst h
  refine vI_ok (p := GoodL _ _ _) goodL_no fun _ h => ?_
  subst h
  refine gE_ok (p := GoodL _ _ _) goodL_no fun h => ?_
  subst h
  refine mBox_ok (p := GoodL _ _ _) goodL_no fun _ _ h => ?_
  subst h
  refine gC_ok (p := GoodL _ _ _) goodL_no fun _ _ h => ?_
  subst h
  refine rImm_ok (p := GoodL _ _ _) goodL_no fun _ h => ?_
  subst h
  refine gC_ok (p := GoodL _ _ _) goodL_no fun _ _ h => ?_
  subst h
  refine rImm_ok (p := GoodL _ _ _) goodL_no fun _ h => ?_
  subst h
  refine gC_ok (p := GoodL _ _ _) goodL_no fun _ _ h => ?_
  subst h
  refine rV_ok (p := GoodL _ _ _) goodL_no fun _ h => ?_
  subst h
  refine vI_ok (p := GoodL _ _ _) goodL_no fun _ h => ?_
  subst h
  refine gE_ok (p := GoodL _ _ _) goodL_no fun h => ?_
  subst h
  refine gE_ok (p := GoodL _ _ _) goodL_no fun h => ?_
  subst h
  refine gN_ok (p := GoodL _ _ _) goodL_no fun h => ?_
  subst h
  exact f42.l4.good k _ _ _ _
theorem f42.nat {R : Type} (k : Nat) (g : Bool → Option R) (xs1 : List S146) (xs2 : List (List S142)) (a3 : Int) : f42.step k g xs1 xs2 a3 = (f42 k xs1 xs2 a3).bind g := by
  simp only [f42, f42.step, bind_ite, bind_sum, Option.bind_assoc, Option.bind_some, Option.bind_none]
theorem f42.ev (k : Nat) (xs1 : List S146) (xs2 : List (List S142)) (a3 : Int) : evF (f42.X k) (bodyOf Try.f42) Try.f42.ntmps Try.f42.results.toList [.g [.sl 146 xs1, .sl 140 xs2, .s (.int .i64 a3)]] = f42.step k (fun x => f42.w x some) xs1 xs2 a3 := by kernel_rfl
theorem f42.hok (k : Nat) : HOK (f42.X k) (bodyOf Try.f42) where
  l := allP_mem (by exact ⟨ls_of (h0 := fun S => f42.l4.hd k S.ts S.m S.n) (by kernel_rfl) (f42.l4.all k), ls_of (h0 := fun S => f42.l9.hd k S.ts S.m S.n) (by kernel_rfl) (f42.l9.all k), trivial⟩)
  j := allP_mem (by exact trivial)
theorem f42.sound0 (k : Nat) : SoundC env Try.prog 42 (f42.hd k) := by
  intro ps_
  show GoodC _ _ _ ps_ (f42.hd k ps_)
  unfold f42.hd
  refine gC_ok (p := GoodC env Try.prog 42 _) goodC_no fun _ _ h => ?_
  subst h
  refine qG_ok (p := GoodC env Try.prog 42 _) goodC_no fun _ h => ?_
  subst h
  refine gC_ok (p := GoodC env Try.prog 42 _) goodC_no fun _ _ h => ?_
  subst h
  refine qSl_ok (p := GoodC env Try.prog 42 _) goodC_no fun _ h => ?_
  subst h
  refine gC_ok (p := GoodC env Try.prog 42 _) goodC_no fun _ _ h => ?_
  subst h
  refine qSl_ok (p := GoodC env Try.prog 42 _) goodC_no fun _ h => ?_
  subst h
  refine gC_ok (p := GoodC env Try.prog 42 _) goodC_no fun _ _ h => ?_
  subst h
  refine qS_ok (p := GoodC env Try.prog 42 _) goodC_no fun _ h => ?_
  subst h
  refine vI_ok (p := GoodC env Try.prog 42 _) goodC_no fun _ h => ?_
  subst h
  refine gE_ok (p := GoodC env Try.prog 42 _) goodC_no fun h => ?_
  subst h
  refine gE_ok (p := GoodC env Try.prog 42 _) goodC_no fun h => ?_
  subst h
  exact fun_good (fun_sound envOK (cs_sound _ (by exact ⟨⟨f86.sound k, f86.fnok⟩, ⟨f104.sound k, f104.fnok⟩, ⟨f105.sound k, f105.fnok⟩, ⟨f106.sound k, f106.fnok⟩, trivial⟩)) (f42.hok k) Try.func42 rfl) ((f42.ev k _ _ _).trans (f42.nat k _ _ _ _))
theorem f42.sound (k : Nat) : SoundC env Try.prog 42 (f42.e k).F := soundC_coer (f42.sound0 k) [[.rd 146, .rd 140, .no]]
theorem f42.says (k : Nat) (xs1 : List S146) (xs2 : List (List S142)) (a3 : Int) (t29 : Bool) (h_ : f42 k xs1 xs2 a3 = some t29) : SoundAt env Try.prog 42 [.g [.sl 146 xs1, .sl 140 xs2, .s (.int .i64 a3)]] ⟨.v (.c (.s (.bool t29))), [[]]⟩ :=
  fun_sound envOK (cs_sound _ (by exact ⟨⟨f86.sound k, f86.fnok⟩, ⟨f104.sound k, f104.fnok⟩, ⟨f105.sound k, f105.fnok⟩, ⟨f106.sound k, f106.fnok⟩, trivial⟩)) (f42.hok k) Try.func42 rfl _ _ (((f42.ev k xs1 xs2 a3).trans (f42.nat k _ xs1 xs2 a3)).trans (by rw [h_]; rfl))
theorem f42.fnok : FnOK Try.prog 42 := fn_ok Try.func42 (by kernel_rfl) rfl
def f128.l3.step {R : Type} (k : Nat) (rec_ : Int → Int → Int → (List S146) → (List (List S142)) → Int → (List Int) → Option R) (ret : ((List Int)) → Option R) (a6 : Int) (a7 : Int) (a8 : Int) (xs9 : List S146) (xs10 : List (List S142)) (a11 : Int) (xs12 : List Int) : Option R :=
  if (decide (a8 < a11)) = true then
    if (0 : Int) ≤ a6 then
      if a6 < ((List.length xs10 : Nat) : Int) then
        if (0 : Int) ≤ a8 then
          if a8 < ((List.length (List.getD xs10 (Int.toNat a6) []) : Nat) : Int) then
            if (decide (a8 ≠ a6)) = true then
              if (decide ((List.getD (List.getD xs10 (Int.toNat a6) []) (Int.toNat a8) (⟨(0 : Int), (0 : Int), (0 : Int)⟩ : S142)).f1 = a7)) = true then
                if (List.length xs12 + List.length ([(16 : Int)] : List Int)) * 8 ≤ maxN then
                  rec_ a6 a7 (IntKind.i64.wrap (a8 + (1 : Int))) xs9 xs10 a11 (xs12 ++ ([(16 : Int)] : List Int))
                else none
              else
                if (List.length xs12 + List.length ([(List.getD (List.getD xs10 (Int.toNat a6) []) (Int.toNat a8) (⟨(0 : Int), (0 : Int), (0 : Int)⟩ : S142)).f0] : List Int)) * 8 ≤ maxN then
                  rec_ a6 a7 (IntKind.i64.wrap (a8 + (1 : Int))) xs9 xs10 a11 (xs12 ++ ([(List.getD (List.getD xs10 (Int.toNat a6) []) (Int.toNat a8) (⟨(0 : Int), (0 : Int), (0 : Int)⟩ : S142)).f0] : List Int))
                else none
            else
              if (List.length xs12 + List.length ([(List.getD (List.getD xs10 (Int.toNat a6) []) (Int.toNat a8) (⟨(0 : Int), (0 : Int), (0 : Int)⟩ : S142)).f0] : List Int)) * 8 ≤ maxN then
                rec_ a6 a7 (IntKind.i64.wrap (a8 + (1 : Int))) xs9 xs10 a11 (xs12 ++ ([(List.getD (List.getD xs10 (Int.toNat a6) []) (Int.toNat a8) (⟨(0 : Int), (0 : Int), (0 : Int)⟩ : S142)).f0] : List Int))
              else none
          else none
        else none
      else none
    else none
  else
    ret xs12
def f128.l3 (k : Nat) : Nat → Int → Int → Int → (List S146) → (List (List S142)) → Int → (List Int) → Option ((List Int))
  | 0, _, _, _, _, _, _, _ => none
  | j + 1, a6, a7, a8, xs9, xs10, a11, xs12 => f128.l3.step k (fun a6 a7 a8 xs9 xs10 a11 xs12 => f128.l3 k j a6 a7 a8 xs9 xs10 a11 xs12) some a6 a7 a8 xs9 xs10 a11 xs12
def f128.l3.w {R : Type} : ((List Int)) → (Exit → St env → Option R) → Option R := fun t14 K => K (.exit 0) ⟨fullT [7] 0 43 [.v (.c (.row 35))], [(35, .row true 3 t14)], 595⟩
def f128.l3.st (a6 : Int) (a7 : Int) (a8 : Int) (xs9 : List S146) (xs10 : List (List S142)) (a11 : Int) (xs12 : List Int) : St env := ⟨fullT [1, 2, 3, 7, 8] 0 43 [.v (.c (.s (.int .i64 a6))), .v (.c (.s (.int .i64 a7))), .v (.c (.bp 3 0)), .v (.c (.row 35)), .v (.c (.s (.int .i64 a8)))], [(3, .box [.imm 146 xs9, .imm 140 xs10, .s (.int .i64 a11)]), (35, .row true 3 xs12)], 83⟩
def f128.l3.hd (k : Nat) (ts_ : List (AV env)) (mm_ : Mem env) (n_ : Nat) : LCl env :=
  gTs LCl.no [1, 2, 3, 7, 8] 43 ts_ fun l_ => gV LCl.no l_ fun a_ l_ => rV LCl.no a_ fun v_ => vI LCl.no .i64 v_ fun a6 => gV LCl.no l_ fun a_ l_ => rV LCl.no a_ fun v_ => vI LCl.no .i64 v_ fun a7 => gV LCl.no l_ fun a_ l_ => rBp LCl.no 3 0 a_ <| gV LCl.no l_ fun a_ l_ => rRow LCl.no 35 a_ <| gV LCl.no l_ fun a_ l_ => rV LCl.no a_ fun v_ => vI LCl.no .i64 v_ fun a8 => gE LCl.no l_ <| mBox LCl.no 3 mm_ fun c_ m_ => gC LCl.no c_ fun a_ c_ => rImm LCl.no 146 a_ fun xs9 => gC LCl.no c_ fun a_ c_ => rImm LCl.no 140 a_ fun xs10 => gC LCl.no c_ fun a_ c_ => rV LCl.no a_ fun v_ => vI LCl.no .i64 v_ fun a11 => gE LCl.no c_ <| mRow LCl.no 35 true 3 m_ fun xs12 m_ => gE LCl.no m_ <| gN LCl.no 83 n_ { α := (List Int), o := f128.l3 k k a6 a7 a8 xs9 xs10 a11 xs12, w := f128.l3.w }
def f128.step {R : Type} (k : Nat) (ret : ((List Int)) → Option R) (xs1 : List S146) (xs2 : List (List S142)) (a3 : Int) (a4 : Int) (a5 : Int) : Option R :=
  (f128.l3 k k a4 a5 (0 : Int) xs1 xs2 a3 ([] : List Int)).bind fun t13 => ret t13
def f128 (k : Nat) (xs1 : List S146) (xs2 : List (List S142)) (a3 : Int) (a4 : Int) (a5 : Int) : Option ((List Int)) := f128.step k some xs1 xs2 a3 a4 a5
def f128.w {R : Type} : ((List Int)) → (Res env → Option R) → Option R := fun t15 K => K ⟨.v (.c (.own true 3 t15)), [[], [], []]⟩
theorem f128.wn (x : ((List Int))) : ∃ res, ∀ {R : Type} (K : Res env → Option R), f128.w x K = K res := by
  exact ⟨_, fun _ => rfl⟩
def f128.hd (k : Nat) (ps_ : List (P2 env)) : Cl env :=
  gC Cl.no ps_ fun p_ ps_ => qG Cl.no p_ fun cs_ => gC Cl.no cs_ fun c_ cs_ => qSl Cl.no 146 c_ fun xs1 => gC Cl.no cs_ fun c_ cs_ => qSl Cl.no 140 c_ fun xs2 => gC Cl.no cs_ fun c_ cs_ => qS Cl.no c_ fun v_ => vI Cl.no .i64 v_ fun a3 => gE Cl.no cs_ <| gC Cl.no ps_ fun p_ ps_ => qC Cl.no p_ fun c_ => qS Cl.no c_ fun v_ => vI Cl.no .i64 v_ fun a4 => gC Cl.no ps_ fun p_ ps_ => qC Cl.no p_ fun c_ => qS Cl.no c_ fun v_ => vI Cl.no .i64 v_ fun a5 => gE Cl.no ps_ <| { α := (List Int), o := f128 k xs1 xs2 a3 a4 a5, w := f128.w, nat := fun x _ => f128.wn x }
def f128.e (k : Nat) : Entry env := ⟨fun ps => f128.hd k (coer [[.rd 146, .rd 140, .no], [.no], [.no]] ps), [], []⟩
def f128.X (k : Nat) : Ctx env := { C := lookE [], L := lookE [(3, fun S => f128.l3.hd k S.ts S.m S.n)], J := lookE [], keep := lookD [(3, [1, 2, 3, 7, 8])], keepX := lookD [(3, [7])], span := lookN [(3, 512)], eff := fun n => memN n [], prep := lookP [], np := 0 }
theorem f128.l3.nat {R : Type} (k : Nat) (rec_ : Int → Int → Int → (List S146) → (List (List S142)) → Int → (List Int) → Option ((List Int))) (g : ((List Int)) → Option R) (a6 : Int) (a7 : Int) (a8 : Int) (xs9 : List S146) (xs10 : List (List S142)) (a11 : Int) (xs12 : List Int) : (f128.l3.step k rec_ some a6 a7 a8 xs9 xs10 a11 xs12).bind g = f128.l3.step k (fun a6 a7 a8 xs9 xs10 a11 xs12 => (rec_ a6 a7 a8 xs9 xs10 a11 xs12).bind g) g a6 a7 a8 xs9 xs10 a11 xs12 := by
  simp only [f128.l3.step, bind_ite, bind_sum, Option.bind_assoc, Option.bind_some, Option.bind_none]
theorem f128.l3.good (k : Nat) (a6 : Int) (a7 : Int) (a8 : Int) (xs9 : List S146) (xs10 : List (List S142)) (a11 : Int) (xs12 : List Int) : GoodL (f128.X k) (nthC 0 (loopsOf (bodyOf Try.f128))) (f128.l3.st a6 a7 a8 xs9 xs10 a11 xs12) { α := ((List Int)), o := f128.l3 k k a6 a7 a8 xs9 xs10 a11 xs12, w := f128.l3.w } :=
  loop_good (ι := Int × Int × Int × (List S146) × (List (List S142)) × Int × (List Int)) (α := ((List Int))) (fun i => f128.l3.st i.1 i.2.1 i.2.2.1 i.2.2.2.1 i.2.2.2.2.1 i.2.2.2.2.2.1 i.2.2.2.2.2.2) (fun j i => f128.l3 k j i.1 i.2.1 i.2.2.1 i.2.2.2.1 i.2.2.2.2.1 i.2.2.2.2.2.1 i.2.2.2.2.2.2) f128.l3.w (fun rec_ ret i => f128.l3.step k (fun a6 a7 a8 xs9 xs10 a11 xs12 => rec_ (a6, a7, a8, xs9, xs10, a11, xs12)) ret i.1 i.2.1 i.2.2.1 i.2.2.2.1 i.2.2.2.2.1 i.2.2.2.2.2.1 i.2.2.2.2.2.2)
    (fun _ => rfl) (fun _ _ => rfl) (fun rec_ g i => f128.l3.nat k _ g i.1 i.2.1 i.2.2.1 i.2.2.2.1 i.2.2.2.2.1 i.2.2.2.2.2.1 i.2.2.2.2.2.2) (fun {R} i0 i rec_ K => by kernel_rfl) k (a6, a7, a8, xs9, xs10, a11, xs12)
theorem f128.l3.all (k : Nat) (S : St env) : GoodL (f128.X k) (nthC 0 (loopsOf (bodyOf Try.f128))) S (f128.l3.hd k S.ts S.m S.n) := by
  obtain ⟨ts_, m_, n_⟩ := S
  show GoodL _ _ _ (f128.l3.hd k ts_ m_ n_)
  unfold f128.l3.hd
  refine gTs_ok (p := GoodL _ _ _) goodL_no fun _ h => ?_
  subst h
  refine gV_ok (p := GoodL _ _ _) goodL_no fun _ _ h => ?_
  subst h
  refine rV_ok (p := GoodL _ _ _) goodL_no fun _ h => ?_
  subst h
  refine vI_ok (p := GoodL _ _ _) goodL_no fun _ h => ?_
  subst h
  refine gV_ok (p := GoodL _ _ _) goodL_no fun _ _ h => ?_
  subst h
  refine rV_ok (p := GoodL _ _ _) goodL_no fun _ h => ?_
  subst h
  refine vI_ok (p := GoodL _ _ _) goodL_no fun _ h => ?_
  subst h
  refine gV_ok (p := GoodL _ _ _) goodL_no fun _ _ h => ?_
  subst h
  refine rBp_ok (p := GoodL _ _ _) goodL_no fun h => ?_
  subst h
  refine gV_ok (p := GoodL _ _ _) goodL_no fun _ _ h => ?_
  subst h
  refine rRow_ok (p := GoodL _ _ _) goodL_no fun h => ?_
  subst h
  refine gV_ok (p := GoodL _ _ _) goodL_no fun _ _ h => ?_
  subst h
  refine rV_ok (p := GoodL _ _ _) goodL_no fun _ h => ?_
  subst h
  refine vI_ok (p := GoodL _ _ _) goodL_no fun _ h => ?_
  subst h
  refine gE_ok (p := GoodL _ _ _) goodL_no fun h => ?_
  subst h
  refine mBox_ok (p := GoodL _ _ _) goodL_no fun _ _ h => ?_
  subst h
  refine gC_ok (p := GoodL _ _ _) goodL_no fun _ _ h => ?_
  subst h
  refine rImm_ok (p := GoodL _ _ _) goodL_no fun _ h => ?_
  subst h
  refine gC_ok (p := GoodL _ _ _) goodL_no fun _ _ h => ?_
  subst h
  refine rImm_ok (p := GoodL _ _ _) goodL_no fun _ h => ?_
  subst h
  refine gC_ok (p := GoodL _ _ _) goodL_no fun _ _ h => ?_
  subst h
  refine rV_ok (p := GoodL _ _ _) goodL_no fun _ h => ?_
  subst h
  refine vI_ok (p := GoodL _ _ _) goodL_no fun _ h => ?_
  subst h
  refine gE_ok (p := GoodL _ _ _) goodL_no fun h => ?_
  subst h
  refine mRow_ok (p := GoodL _ _ _) goodL_no fun _ _ h => ?_
  subst h
  refine gE_ok (p := GoodL _ _ _) goodL_no fun h => ?_
  subst h
  refine gN_ok (p := GoodL _ _ _) goodL_no fun h => ?_
  subst h
  exact f128.l3.good k _ _ _ _ _ _ _
theorem f128.nat {R : Type} (k : Nat) (g : ((List Int)) → Option R) (xs1 : List S146) (xs2 : List (List S142)) (a3 : Int) (a4 : Int) (a5 : Int) : f128.step k g xs1 xs2 a3 a4 a5 = (f128 k xs1 xs2 a3 a4 a5).bind g := by
  simp only [f128, f128.step, bind_ite, bind_sum, Option.bind_assoc, Option.bind_some, Option.bind_none]
theorem f128.ev (k : Nat) (xs1 : List S146) (xs2 : List (List S142)) (a3 : Int) (a4 : Int) (a5 : Int) : evF (f128.X k) (bodyOf Try.f128) Try.f128.ntmps Try.f128.results.toList [.g [.sl 146 xs1, .sl 140 xs2, .s (.int .i64 a3)], .v (.c (.s (.int .i64 a4))), .v (.c (.s (.int .i64 a5)))] = f128.step k (fun x => f128.w x some) xs1 xs2 a3 a4 a5 := by kernel_rfl
theorem f128.hok (k : Nat) : HOK (f128.X k) (bodyOf Try.f128) where
  l := allP_mem (by exact ⟨ls_of (h0 := fun S => f128.l3.hd k S.ts S.m S.n) (by kernel_rfl) (f128.l3.all k), trivial⟩)
  j := allP_mem (by exact trivial)
theorem f128.sound0 (k : Nat) : SoundC env Try.prog 128 (f128.hd k) := by
  intro ps_
  show GoodC _ _ _ ps_ (f128.hd k ps_)
  unfold f128.hd
  refine gC_ok (p := GoodC env Try.prog 128 _) goodC_no fun _ _ h => ?_
  subst h
  refine qG_ok (p := GoodC env Try.prog 128 _) goodC_no fun _ h => ?_
  subst h
  refine gC_ok (p := GoodC env Try.prog 128 _) goodC_no fun _ _ h => ?_
  subst h
  refine qSl_ok (p := GoodC env Try.prog 128 _) goodC_no fun _ h => ?_
  subst h
  refine gC_ok (p := GoodC env Try.prog 128 _) goodC_no fun _ _ h => ?_
  subst h
  refine qSl_ok (p := GoodC env Try.prog 128 _) goodC_no fun _ h => ?_
  subst h
  refine gC_ok (p := GoodC env Try.prog 128 _) goodC_no fun _ _ h => ?_
  subst h
  refine qS_ok (p := GoodC env Try.prog 128 _) goodC_no fun _ h => ?_
  subst h
  refine vI_ok (p := GoodC env Try.prog 128 _) goodC_no fun _ h => ?_
  subst h
  refine gE_ok (p := GoodC env Try.prog 128 _) goodC_no fun h => ?_
  subst h
  refine gC_ok (p := GoodC env Try.prog 128 _) goodC_no fun _ _ h => ?_
  subst h
  refine qC_ok (p := GoodC env Try.prog 128 _) goodC_no fun _ h => ?_
  subst h
  refine qS_ok (p := GoodC env Try.prog 128 _) goodC_no fun _ h => ?_
  subst h
  refine vI_ok (p := GoodC env Try.prog 128 _) goodC_no fun _ h => ?_
  subst h
  refine gC_ok (p := GoodC env Try.prog 128 _) goodC_no fun _ _ h => ?_
  subst h
  refine qC_ok (p := GoodC env Try.prog 128 _) goodC_no fun _ h => ?_
  subst h
  refine qS_ok (p := GoodC env Try.prog 128 _) goodC_no fun _ h => ?_
  subst h
  refine vI_ok (p := GoodC env Try.prog 128 _) goodC_no fun _ h => ?_
  subst h
  refine gE_ok (p := GoodC env Try.prog 128 _) goodC_no fun h => ?_
  subst h
  exact fun_good (fun_sound envOK (cs_sound _ (by exact trivial)) (f128.hok k) Try.func128 rfl) ((f128.ev k _ _ _ _ _).trans (f128.nat k _ _ _ _ _ _))
theorem f128.sound (k : Nat) : SoundC env Try.prog 128 (f128.e k).F := soundC_coer (f128.sound0 k) [[.rd 146, .rd 140, .no], [.no], [.no]]
theorem f128.says (k : Nat) (xs1 : List S146) (xs2 : List (List S142)) (a3 : Int) (a4 : Int) (a5 : Int) (t16 : (List Int)) (h_ : f128 k xs1 xs2 a3 a4 a5 = some t16) : SoundAt env Try.prog 128 [.g [.sl 146 xs1, .sl 140 xs2, .s (.int .i64 a3)], .v (.c (.s (.int .i64 a4))), .v (.c (.s (.int .i64 a5)))] ⟨.v (.c (.own true 3 t16)), [[], [], []]⟩ :=
  fun_sound envOK (cs_sound _ (by exact trivial)) (f128.hok k) Try.func128 rfl _ _ (((f128.ev k xs1 xs2 a3 a4 a5).trans (f128.nat k _ xs1 xs2 a3 a4 a5)).trans (by rw [h_]; rfl))
theorem f128.fnok : FnOK Try.prog 128 := fn_ok Try.func128 (by kernel_rfl) rfl
def f64.step {R : Type} (k : Nat) (ret : ((List Int) × Int) → Option R) (xs1 : List S146) (xs2 : List (List S142)) (a3 : Int) (a4 : Int) (a5 : Int) : Option R :=
  (f42 k xs1 xs2 a3).bind fun t6 => if (!t6) = true then
      ret (([] : List Int), (1 : Int))
    else
      (f86 k a4 (0 : Int) (IntKind.i64.wrap (a3 - (1 : Int)))).bind fun t7 => if (!t7) = false then
          (f86 k a5 (0 : Int) (IntKind.i64.wrap (a3 - (1 : Int)))).bind fun t8 => if (!t8) = false then
              (f106 k xs1 a4 a5).bind fun t9 => if (decide (t9 < (0 : Int))) = true then
                  ret (([] : List Int), (4 : Int))
                else
                  (f128 k xs1 xs2 a3 a4 a5).bind fun t10 => ret (t10, (0 : Int))
            else
              ret (([] : List Int), (4 : Int))
        else
          ret (([] : List Int), (4 : Int))
def f64 (k : Nat) (xs1 : List S146) (xs2 : List (List S142)) (a3 : Int) (a4 : Int) (a5 : Int) : Option ((List Int) × Int) := f64.step k some xs1 xs2 a3 a4 a5
def f64.w {R : Type} : ((List Int) × Int) → (Res env → Option R) → Option R := fun t11 K => K ⟨.tup [.c (.own true 3 t11.1), .c (.s (.int .i64 t11.2))], [[], [], []]⟩
theorem f64.wn (x : ((List Int) × Int)) : ∃ res, ∀ {R : Type} (K : Res env → Option R), f64.w x K = K res := by
  exact ⟨_, fun _ => rfl⟩
def f64.hd (k : Nat) (ps_ : List (P2 env)) : Cl env :=
  gC Cl.no ps_ fun p_ ps_ => qG Cl.no p_ fun cs_ => gC Cl.no cs_ fun c_ cs_ => qSl Cl.no 146 c_ fun xs1 => gC Cl.no cs_ fun c_ cs_ => qSl Cl.no 140 c_ fun xs2 => gC Cl.no cs_ fun c_ cs_ => qS Cl.no c_ fun v_ => vI Cl.no .i64 v_ fun a3 => gE Cl.no cs_ <| gC Cl.no ps_ fun p_ ps_ => qC Cl.no p_ fun c_ => qS Cl.no c_ fun v_ => vI Cl.no .i64 v_ fun a4 => gC Cl.no ps_ fun p_ ps_ => qC Cl.no p_ fun c_ => qS Cl.no c_ fun v_ => vI Cl.no .i64 v_ fun a5 => gE Cl.no ps_ <| { α := (List Int) × Int, o := f64 k xs1 xs2 a3 a4 a5, w := f64.w, nat := fun x _ => f64.wn x }
def f64.e (k : Nat) : Entry env := ⟨fun ps => f64.hd k (coer [[.rd 146, .rd 140, .no], [.no], [.no]] ps), [], []⟩
def f64.X (k : Nat) : Ctx env := { C := lookE [(42, f42.e k), (86, f86.e k), (106, f106.e k), (128, f128.e k)], L := lookE [], J := lookE [], keep := lookD [], keepX := lookD [], span := lookN [], eff := fun n => memN n [], prep := lookP [], np := 0 }
theorem f64.nat {R : Type} (k : Nat) (g : ((List Int) × Int) → Option R) (xs1 : List S146) (xs2 : List (List S142)) (a3 : Int) (a4 : Int) (a5 : Int) : f64.step k g xs1 xs2 a3 a4 a5 = (f64 k xs1 xs2 a3 a4 a5).bind g := by
  simp only [f64, f64.step, bind_ite, bind_sum, Option.bind_assoc, Option.bind_some, Option.bind_none]
theorem f64.ev (k : Nat) (xs1 : List S146) (xs2 : List (List S142)) (a3 : Int) (a4 : Int) (a5 : Int) : evF (f64.X k) (bodyOf Try.f64) Try.f64.ntmps Try.f64.results.toList [.g [.sl 146 xs1, .sl 140 xs2, .s (.int .i64 a3)], .v (.c (.s (.int .i64 a4))), .v (.c (.s (.int .i64 a5)))] = f64.step k (fun x => f64.w x some) xs1 xs2 a3 a4 a5 := by kernel_rfl
theorem f64.hok (k : Nat) : HOK (f64.X k) (bodyOf Try.f64) where
  l := allP_mem (by exact trivial)
  j := allP_mem (by exact trivial)
theorem f64.sound0 (k : Nat) : SoundC env Try.prog 64 (f64.hd k) := by
  intro ps_
  show GoodC _ _ _ ps_ (f64.hd k ps_)
  unfold f64.hd
  refine gC_ok (p := GoodC env Try.prog 64 _) goodC_no fun _ _ h => ?_
  subst h
  refine qG_ok (p := GoodC env Try.prog 64 _) goodC_no fun _ h => ?_
  subst h
  refine gC_ok (p := GoodC env Try.prog 64 _) goodC_no fun _ _ h => ?_
  subst h
  refine qSl_ok (p := GoodC env Try.prog 64 _) goodC_no fun _ h => ?_
  subst h
  refine gC_ok (p := GoodC env Try.prog 64 _) goodC_no fun _ _ h => ?_
  subst h
  refine qSl_ok (p := GoodC env Try.prog 64 _) goodC_no fun _ h => ?_
  subst h
  refine gC_ok (p := GoodC env Try.prog 64 _) goodC_no fun _ _ h => ?_
  subst h
  refine qS_ok (p := GoodC env Try.prog 64 _) goodC_no fun _ h => ?_
  subst h
  refine vI_ok (p := GoodC env Try.prog 64 _) goodC_no fun _ h => ?_
  subst h
  refine gE_ok (p := GoodC env Try.prog 64 _) goodC_no fun h => ?_
  subst h
  refine gC_ok (p := GoodC env Try.prog 64 _) goodC_no fun _ _ h => ?_
  subst h
  refine qC_ok (p := GoodC env Try.prog 64 _) goodC_no fun _ h => ?_
  subst h
  refine qS_ok (p := GoodC env Try.prog 64 _) goodC_no fun _ h => ?_
  subst h
  refine vI_ok (p := GoodC env Try.prog 64 _) goodC_no fun _ h => ?_
  subst h
  refine gC_ok (p := GoodC env Try.prog 64 _) goodC_no fun _ _ h => ?_
  subst h
  refine qC_ok (p := GoodC env Try.prog 64 _) goodC_no fun _ h => ?_
  subst h
  refine qS_ok (p := GoodC env Try.prog 64 _) goodC_no fun _ h => ?_
  subst h
  refine vI_ok (p := GoodC env Try.prog 64 _) goodC_no fun _ h => ?_
  subst h
  refine gE_ok (p := GoodC env Try.prog 64 _) goodC_no fun h => ?_
  subst h
  exact fun_good (fun_sound envOK (cs_sound _ (by exact ⟨⟨f42.sound k, f42.fnok⟩, ⟨f86.sound k, f86.fnok⟩, ⟨f106.sound k, f106.fnok⟩, ⟨f128.sound k, f128.fnok⟩, trivial⟩)) (f64.hok k) Try.func64 rfl) ((f64.ev k _ _ _ _ _).trans (f64.nat k _ _ _ _ _ _))
theorem f64.sound (k : Nat) : SoundC env Try.prog 64 (f64.e k).F := soundC_coer (f64.sound0 k) [[.rd 146, .rd 140, .no], [.no], [.no]]
theorem f64.says (k : Nat) (xs1 : List S146) (xs2 : List (List S142)) (a3 : Int) (a4 : Int) (a5 : Int) (t12 : (List Int) × Int) (h_ : f64 k xs1 xs2 a3 a4 a5 = some t12) : SoundAt env Try.prog 64 [.g [.sl 146 xs1, .sl 140 xs2, .s (.int .i64 a3)], .v (.c (.s (.int .i64 a4))), .v (.c (.s (.int .i64 a5)))] ⟨.tup [.c (.own true 3 t12.1), .c (.s (.int .i64 t12.2))], [[], [], []]⟩ :=
  fun_sound envOK (cs_sound _ (by exact ⟨⟨f42.sound k, f42.fnok⟩, ⟨f86.sound k, f86.fnok⟩, ⟨f106.sound k, f106.fnok⟩, ⟨f128.sound k, f128.fnok⟩, trivial⟩)) (f64.hok k) Try.func64 rfl _ _ (((f64.ev k xs1 xs2 a3 a4 a5).trans (f64.nat k _ xs1 xs2 a3 a4 a5)).trans (by rw [h_]; rfl))
theorem f64.fnok : FnOK Try.prog 64 := fn_ok Try.func64 (by kernel_rfl) rfl
def f83.step {R : Type} (k : Nat) (ret : Bool → Option R) (a1 : Int) (a2 : Int) (a3 : Int) : Option R :=
  if (decide (a1 ≥ a2)) = true then
    ret (decide (a1 ≤ a3))
  else
    ret false
def f83 (k : Nat) (a1 : Int) (a2 : Int) (a3 : Int) : Option Bool := f83.step k some a1 a2 a3
def f83.w {R : Type} : Bool → (Res env → Option R) → Option R := fun t4 K => K ⟨.v (.c (.s (.bool t4))), [[], [], []]⟩
theorem f83.wn (x : Bool) : ∃ res, ∀ {R : Type} (K : Res env → Option R), f83.w x K = K res := by
  exact ⟨_, fun _ => rfl⟩
def f83.hd (k : Nat) (ps_ : List (P2 env)) : Cl env :=
  gC Cl.no ps_ fun p_ ps_ => qC Cl.no p_ fun c_ => qS Cl.no c_ fun v_ => vI Cl.no .i64 v_ fun a1 => gC Cl.no ps_ fun p_ ps_ => qC Cl.no p_ fun c_ => qS Cl.no c_ fun v_ => vI Cl.no .i64 v_ fun a2 => gC Cl.no ps_ fun p_ ps_ => qC Cl.no p_ fun c_ => qS Cl.no c_ fun v_ => vI Cl.no .i64 v_ fun a3 => gE Cl.no ps_ <| { α := Bool, o := f83 k a1 a2 a3, w := f83.w, nat := fun x _ => f83.wn x }
def f83.e (k : Nat) : Entry env := ⟨f83.hd k, [], []⟩
def f83.X (k : Nat) : Ctx env := { C := lookE [], L := lookE [], J := lookE [], keep := lookD [], keepX := lookD [], span := lookN [], eff := fun n => memN n [], prep := lookP [], np := 0 }
theorem f83.nat {R : Type} (k : Nat) (g : Bool → Option R) (a1 : Int) (a2 : Int) (a3 : Int) : f83.step k g a1 a2 a3 = (f83 k a1 a2 a3).bind g := by
  simp only [f83, f83.step, bind_ite, bind_sum, Option.bind_assoc, Option.bind_some, Option.bind_none]
theorem f83.ev (k : Nat) (a1 : Int) (a2 : Int) (a3 : Int) : evF (f83.X k) (bodyOf Try.f83) Try.f83.ntmps Try.f83.results.toList [.v (.c (.s (.int .i64 a1))), .v (.c (.s (.int .i64 a2))), .v (.c (.s (.int .i64 a3)))] = f83.step k (fun x => f83.w x some) a1 a2 a3 := by kernel_rfl
theorem f83.hok (k : Nat) : HOK (f83.X k) (bodyOf Try.f83) where
  l := allP_mem (by exact trivial)
  j := allP_mem (by exact trivial)
theorem f83.sound (k : Nat) : SoundC env Try.prog 83 ((f83.e k).F) := by
  intro ps_
  show GoodC _ _ _ ps_ (f83.hd k ps_)
  unfold f83.hd
  refine gC_ok (p := GoodC env Try.prog 83 _) goodC_no fun _ _ h => ?_
  subst h
  refine qC_ok (p := GoodC env Try.prog 83 _) goodC_no fun _ h => ?_
  subst h
  refine qS_ok (p := GoodC env Try.prog 83 _) goodC_no fun _ h => ?_
  subst h
  refine vI_ok (p := GoodC env Try.prog 83 _) goodC_no fun _ h => ?_
  subst h
  refine gC_ok (p := GoodC env Try.prog 83 _) goodC_no fun _ _ h => ?_
  subst h
  refine qC_ok (p := GoodC env Try.prog 83 _) goodC_no fun _ h => ?_
  subst h
  refine qS_ok (p := GoodC env Try.prog 83 _) goodC_no fun _ h => ?_
  subst h
  refine vI_ok (p := GoodC env Try.prog 83 _) goodC_no fun _ h => ?_
  subst h
  refine gC_ok (p := GoodC env Try.prog 83 _) goodC_no fun _ _ h => ?_
  subst h
  refine qC_ok (p := GoodC env Try.prog 83 _) goodC_no fun _ h => ?_
  subst h
  refine qS_ok (p := GoodC env Try.prog 83 _) goodC_no fun _ h => ?_
  subst h
  refine vI_ok (p := GoodC env Try.prog 83 _) goodC_no fun _ h => ?_
  subst h
  refine gE_ok (p := GoodC env Try.prog 83 _) goodC_no fun h => ?_
  subst h
  exact fun_good (fun_sound envOK (cs_sound _ (by exact trivial)) (f83.hok k) Try.func83 rfl) ((f83.ev k _ _ _).trans (f83.nat k _ _ _ _))
theorem f83.says (k : Nat) (a1 : Int) (a2 : Int) (a3 : Int) (t5 : Bool) (h_ : f83 k a1 a2 a3 = some t5) : SoundAt env Try.prog 83 [.v (.c (.s (.int .i64 a1))), .v (.c (.s (.int .i64 a2))), .v (.c (.s (.int .i64 a3)))] ⟨.v (.c (.s (.bool t5))), [[], [], []]⟩ :=
  fun_sound envOK (cs_sound _ (by exact trivial)) (f83.hok k) Try.func83 rfl _ _ (((f83.ev k a1 a2 a3).trans (f83.nat k _ a1 a2 a3)).trans (by rw [h_]; rfl))
theorem f83.fnok : FnOK Try.prog 83 := fn_ok Try.func83 (by kernel_rfl) rfl
end Go.Proofs.Ytildepkogbcdpaa.B

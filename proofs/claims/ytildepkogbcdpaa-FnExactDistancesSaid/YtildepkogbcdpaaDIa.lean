/- Written by a program of this session. -/
import Derived.Test.YtildepkogbcdpaaBEnv
import Derived.Test.YtildepkogbcdpaaBHd
namespace Go.Proofs.Ytildepkogbcdpaa.B
open Go Go.B
set_option linter.unusedVariables false
set_option linter.unusedSimpArgs false
def f102.step {R : Type} (k : Nat) (ret : Int → Option R) (xs1 : List S195) (a2 : Int) : Option R :=
  if (decide ((IntKind.i64.wrap (a2 - (((List.length xs1) : Nat) : Int))) < (0 : Int))) = true then
    ret (-1 : Int)
  else
    ret (IntKind.i64.wrap (a2 - (((List.length xs1) : Nat) : Int)))
def f102 (k : Nat) (xs1 : List S195) (a2 : Int) : Option Int := f102.step k some xs1 a2
def f102.w {R : Type} : Int → (Res env → Option R) → Option R := fun t3 K => K ⟨.v (.c (.s (.int .i64 t3))), [[], []]⟩
theorem f102.wn (x : Int) : ∃ res, ∀ {R : Type} (K : Res env → Option R), f102.w x K = K res := by
  exact ⟨_, fun _ => rfl⟩
def f102.hd (k : Nat) (ps_ : List (P2 env)) : Cl env :=
  gC Cl.no ps_ fun p_ ps_ => qC Cl.no p_ fun c_ => qSl Cl.no 195 c_ fun xs1 => gC Cl.no ps_ fun p_ ps_ => qC Cl.no p_ fun c_ => qS Cl.no c_ fun v_ => vI Cl.no .i64 v_ fun a2 => gE Cl.no ps_ <| { α := Int, o := f102 k xs1 a2, w := f102.w, nat := fun x _ => f102.wn x }
def f102.e (k : Nat) : Entry env := ⟨fun ps => f102.hd k (coer [[.rd 195], [.no]] ps), [], []⟩
def f102.X (k : Nat) : Ctx env := { C := lookE [], L := lookE [], J := lookE [], keep := lookD [], keepX := lookD [], span := lookN [], eff := fun n => memN n [], prep := lookP [], np := 0 }
theorem f102.nat {R : Type} (k : Nat) (g : Int → Option R) (xs1 : List S195) (a2 : Int) : f102.step k g xs1 a2 = (f102 k xs1 a2).bind g := by
  simp only [f102, f102.step, bind_ite, bind_sum, Option.bind_assoc, Option.bind_some, Option.bind_none]
theorem f102.ev (k : Nat) (xs1 : List S195) (a2 : Int) : evF (f102.X k) (bodyOf Try.f102) Try.f102.ntmps Try.f102.results.toList [.v (.c (.sl 195 xs1)), .v (.c (.s (.int .i64 a2)))] = f102.step k (fun x => f102.w x some) xs1 a2 := by kernel_rfl
theorem f102.hok (k : Nat) : HOK (f102.X k) (bodyOf Try.f102) where
  l := allP_mem (by exact trivial)
  j := allP_mem (by exact trivial)
theorem f102.sound0 (k : Nat) : SoundC env Try.prog 102 (f102.hd k) := by
  intro ps_
  show GoodC _ _ _ ps_ (f102.hd k ps_)
  unfold f102.hd
  refine gC_ok (p := GoodC env Try.prog 102 _) goodC_no fun _ _ h => ?_
  subst h
  refine qC_ok (p := GoodC env Try.prog 102 _) goodC_no fun _ h => ?_
  subst h
  refine qSl_ok (p := GoodC env Try.prog 102 _) goodC_no fun _ h => ?_
  subst h
  refine gC_ok (p := GoodC env Try.prog 102 _) goodC_no fun _ _ h => ?_
  subst h
  refine qC_ok (p := GoodC env Try.prog 102 _) goodC_no fun _ h => ?_
  subst h
  refine qS_ok (p := GoodC env Try.prog 102 _) goodC_no fun _ h => ?_
  subst h
  refine vI_ok (p := GoodC env Try.prog 102 _) goodC_no fun _ h => ?_
  subst h
  refine gE_ok (p := GoodC env Try.prog 102 _) goodC_no fun h => ?_
  subst h
  exact fun_good (fun_sound envOK (cs_sound _ (by exact trivial)) (f102.hok k) Try.func102 rfl) ((f102.ev k _ _).trans (f102.nat k _ _ _))
theorem f102.sound (k : Nat) : SoundC env Try.prog 102 (f102.e k).F := soundC_coer (f102.sound0 k) [[.rd 195], [.no]]
theorem f102.says (k : Nat) (xs1 : List S195) (a2 : Int) (t4 : Int) (h_ : f102 k xs1 a2 = some t4) : SoundAt env Try.prog 102 [.v (.c (.sl 195 xs1)), .v (.c (.s (.int .i64 a2)))] ⟨.v (.c (.s (.int .i64 t4))), [[], []]⟩ :=
  fun_sound envOK (cs_sound _ (by exact trivial)) (f102.hok k) Try.func102 rfl _ _ (((f102.ev k xs1 a2).trans (f102.nat k _ xs1 a2)).trans (by rw [h_]; rfl))
theorem f102.fnok : FnOK Try.prog 102 := fn_ok Try.func102 (by kernel_rfl) rfl
def f156.step {R : Type} (k : Nat) (ret : Int → Option R) (xs1 : List S225) (a2 : Int) : Option R :=
  if (decide ((IntKind.i64.wrap (a2 - (((List.length xs1) : Nat) : Int))) < (0 : Int))) = true then
    ret (-1 : Int)
  else
    ret (IntKind.i64.wrap (a2 - (((List.length xs1) : Nat) : Int)))
def f156 (k : Nat) (xs1 : List S225) (a2 : Int) : Option Int := f156.step k some xs1 a2
def f156.w {R : Type} : Int → (Res env → Option R) → Option R := fun t3 K => K ⟨.v (.c (.s (.int .i64 t3))), [[], []]⟩
theorem f156.wn (x : Int) : ∃ res, ∀ {R : Type} (K : Res env → Option R), f156.w x K = K res := by
  exact ⟨_, fun _ => rfl⟩
def f156.hd (k : Nat) (ps_ : List (P2 env)) : Cl env :=
  gC Cl.no ps_ fun p_ ps_ => qC Cl.no p_ fun c_ => qSl Cl.no 225 c_ fun xs1 => gC Cl.no ps_ fun p_ ps_ => qC Cl.no p_ fun c_ => qS Cl.no c_ fun v_ => vI Cl.no .i64 v_ fun a2 => gE Cl.no ps_ <| { α := Int, o := f156 k xs1 a2, w := f156.w, nat := fun x _ => f156.wn x }
def f156.e (k : Nat) : Entry env := ⟨fun ps => f156.hd k (coer [[.rd 225], [.no]] ps), [], []⟩
def f156.X (k : Nat) : Ctx env := { C := lookE [], L := lookE [], J := lookE [], keep := lookD [], keepX := lookD [], span := lookN [], eff := fun n => memN n [], prep := lookP [], np := 0 }
theorem f156.nat {R : Type} (k : Nat) (g : Int → Option R) (xs1 : List S225) (a2 : Int) : f156.step k g xs1 a2 = (f156 k xs1 a2).bind g := by
  simp only [f156, f156.step, bind_ite, bind_sum, Option.bind_assoc, Option.bind_some, Option.bind_none]
theorem f156.ev (k : Nat) (xs1 : List S225) (a2 : Int) : evF (f156.X k) (bodyOf Try.f156) Try.f156.ntmps Try.f156.results.toList [.v (.c (.sl 225 xs1)), .v (.c (.s (.int .i64 a2)))] = f156.step k (fun x => f156.w x some) xs1 a2 := by kernel_rfl
theorem f156.hok (k : Nat) : HOK (f156.X k) (bodyOf Try.f156) where
  l := allP_mem (by exact trivial)
  j := allP_mem (by exact trivial)
theorem f156.sound0 (k : Nat) : SoundC env Try.prog 156 (f156.hd k) := by
  intro ps_
  show GoodC _ _ _ ps_ (f156.hd k ps_)
  unfold f156.hd
  refine gC_ok (p := GoodC env Try.prog 156 _) goodC_no fun _ _ h => ?_
  subst h
  refine qC_ok (p := GoodC env Try.prog 156 _) goodC_no fun _ h => ?_
  subst h
  refine qSl_ok (p := GoodC env Try.prog 156 _) goodC_no fun _ h => ?_
  subst h
  refine gC_ok (p := GoodC env Try.prog 156 _) goodC_no fun _ _ h => ?_
  subst h
  refine qC_ok (p := GoodC env Try.prog 156 _) goodC_no fun _ h => ?_
  subst h
  refine qS_ok (p := GoodC env Try.prog 156 _) goodC_no fun _ h => ?_
  subst h
  refine vI_ok (p := GoodC env Try.prog 156 _) goodC_no fun _ h => ?_
  subst h
  refine gE_ok (p := GoodC env Try.prog 156 _) goodC_no fun h => ?_
  subst h
  exact fun_good (fun_sound envOK (cs_sound _ (by exact trivial)) (f156.hok k) Try.func156 rfl) ((f156.ev k _ _).trans (f156.nat k _ _ _))
theorem f156.sound (k : Nat) : SoundC env Try.prog 156 (f156.e k).F := soundC_coer (f156.sound0 k) [[.rd 225], [.no]]
theorem f156.says (k : Nat) (xs1 : List S225) (a2 : Int) (t4 : Int) (h_ : f156 k xs1 a2 = some t4) : SoundAt env Try.prog 156 [.v (.c (.sl 225 xs1)), .v (.c (.s (.int .i64 a2)))] ⟨.v (.c (.s (.int .i64 t4))), [[], []]⟩ :=
  fun_sound envOK (cs_sound _ (by exact trivial)) (f156.hok k) Try.func156 rfl _ _ (((f156.ev k xs1 a2).trans (f156.nat k _ xs1 a2)).trans (by rw [h_]; rfl))
theorem f156.fnok : FnOK Try.prog 156 := fn_ok Try.func156 (by kernel_rfl) rfl
def f103.l5.step {R : Type} (k : Nat) (rec_ : (List (List S225)) → Int → Int → Option R) (ret : ((Int × Int) ⊕ (Int)) → Option R) (xs3 : List (List S225)) (a4 : Int) (a5 : Int) : Option R :=
  if (decide (a5 < (((List.length xs3) : Nat) : Int))) = true then
    if (0 : Int) ≤ a5 then
      if a5 < ((List.length xs3 : Nat) : Int) then
        (f156 k (List.getD xs3 (Int.toNat a5) []) a4).bind fun t6 => if (decide (t6 < (0 : Int))) = true then
            ret (.inl (t6, (-1 : Int)))
          else
            rec_ xs3 t6 (IntKind.i64.wrap (a5 + (1 : Int)))
      else none
    else none
  else
    ret (.inr a4)
def f103.l5 (k : Nat) : Nat → (List (List S225)) → Int → Int → Option ((Int × Int) ⊕ (Int))
  | 0, _, _, _ => none
  | j + 1, xs3, a4, a5 => f103.l5.step k (fun xs3 a4 a5 => f103.l5 k j xs3 a4 a5) some xs3 a4 a5
def f103.l5.w {R : Type} : ((Int × Int) ⊕ (Int)) → (Exit → St env → Option R) → Option R := fun x K => Sum.elim (fun t9 => K .ret ⟨fullT [1, 4] 0 27 [.v (.c (.s (.int .i64 t9.1))), .v (.c (.s (.int .i64 t9.2)))], [], 418⟩) (fun t10 => K (.exit 0) ⟨fullT [1] 0 27 [.v (.c (.s (.int .i64 t10)))], [], 418⟩) x
def f103.l5.st (xs3 : List (List S225)) (a4 : Int) (a5 : Int) : St env := ⟨fullT [0, 1, 5] 0 27 [.v (.c (.imm 193 xs3)), .v (.c (.s (.int .i64 a4))), .v (.c (.s (.int .i64 a5)))], [], 146⟩
def f103.l5.hd (k : Nat) (ts_ : List (AV env)) (mm_ : Mem env) (n_ : Nat) : LCl env :=
  gTs LCl.no [0, 1, 5] 27 ts_ fun l_ => gV LCl.no l_ fun a_ l_ => rImm LCl.no 193 a_ fun xs3 => gV LCl.no l_ fun a_ l_ => rV LCl.no a_ fun v_ => vI LCl.no .i64 v_ fun a4 => gV LCl.no l_ fun a_ l_ => rV LCl.no a_ fun v_ => vI LCl.no .i64 v_ fun a5 => gE LCl.no l_ <| gE LCl.no mm_ <| gN LCl.no 146 n_ { α := (Int × Int) ⊕ (Int), o := f103.l5 k k xs3 a4 a5, w := f103.l5.w }
def f103.step {R : Type} (k : Nat) (ret : Int → Option R) (xs1 : List (List S225)) (a2 : Int) : Option R :=
  if (decide ((IntKind.i64.wrap (a2 - (((List.length xs1) : Nat) : Int))) < (0 : Int))) = true then
    ret (-1 : Int)
  else
    (f103.l5 k k xs1 (IntKind.i64.wrap (a2 - (((List.length xs1) : Nat) : Int))) (0 : Int)).bind (Sum.elim (fun t7 => ret t7.2) (fun t8 => ret t8))
def f103 (k : Nat) (xs1 : List (List S225)) (a2 : Int) : Option Int := f103.step k some xs1 a2
def f103.w {R : Type} : Int → (Res env → Option R) → Option R := fun t11 K => K ⟨.v (.c (.s (.int .i64 t11))), [[], []]⟩
theorem f103.wn (x : Int) : ∃ res, ∀ {R : Type} (K : Res env → Option R), f103.w x K = K res := by
  exact ⟨_, fun _ => rfl⟩
def f103.hd (k : Nat) (ps_ : List (P2 env)) : Cl env :=
  gC Cl.no ps_ fun p_ ps_ => qC Cl.no p_ fun c_ => qSl Cl.no 193 c_ fun xs1 => gC Cl.no ps_ fun p_ ps_ => qC Cl.no p_ fun c_ => qS Cl.no c_ fun v_ => vI Cl.no .i64 v_ fun a2 => gE Cl.no ps_ <| { α := Int, o := f103 k xs1 a2, w := f103.w, nat := fun x _ => f103.wn x }
def f103.e (k : Nat) : Entry env := ⟨fun ps => f103.hd k (coer [[.rd 193], [.no]] ps), [], []⟩
def f103.X (k : Nat) : Ctx env := { C := lookE [(156, f156.e k)], L := lookE [(5, fun S => f103.l5.hd k S.ts S.m S.n)], J := lookE [], keep := lookD [(5, [0, 1, 5])], keepX := lookD [(5, [1, 4])], span := lookN [(5, 272)], eff := fun n => memN n [], prep := lookP [], np := 0 }
theorem f103.l5.nat {R : Type} (k : Nat) (rec_ : (List (List S225)) → Int → Int → Option ((Int × Int) ⊕ (Int))) (g : ((Int × Int) ⊕ (Int)) → Option R) (xs3 : List (List S225)) (a4 : Int) (a5 : Int) : (f103.l5.step k rec_ some xs3 a4 a5).bind g = f103.l5.step k (fun xs3 a4 a5 => (rec_ xs3 a4 a5).bind g) g xs3 a4 a5 := by
  simp only [f103.l5.step, bind_ite, bind_sum, Option.bind_assoc, Option.bind_some, Option.bind_none]
theorem f103.l5.good (k : Nat) (xs3 : List (List S225)) (a4 : Int) (a5 : Int) : GoodL (f103.X k) (nthC 0 (loopsOf (bodyOf Try.f103))) (f103.l5.st xs3 a4 a5) { α := ((Int × Int) ⊕ (Int)), o := f103.l5 k k xs3 a4 a5, w := f103.l5.w } :=
  loop_good (ι := (List (List S225)) × Int × Int) (α := ((Int × Int) ⊕ (Int))) (fun i => f103.l5.st i.1 i.2.1 i.2.2) (fun j i => f103.l5 k j i.1 i.2.1 i.2.2) f103.l5.w (fun rec_ ret i => f103.l5.step k (fun xs3 a4 a5 => rec_ (xs3, a4, a5)) ret i.1 i.2.1 i.2.2)
    (fun _ => rfl) (fun _ _ => rfl) (fun rec_ g i => f103.l5.nat k _ g i.1 i.2.1 i.2.2) (fun {R} i0 i rec_ K => by kernel_rfl) k (xs3, a4, a5)
theorem f103.l5.all (k : Nat) (S : St env) : GoodL (f103.X k) (nthC 0 (loopsOf (bodyOf Try.f103))) S (f103.l5.hd k S.ts S.m S.n) := by
  obtain ⟨ts_, m_, n_⟩ := S
  show GoodL _ _ _ (f103.l5.hd k ts_ m_ n_)
  unfold f103.l5.hd
  refine gTs_ok (p := GoodL _ _ _) goodL_no fun _ h => ?_
  subst h
  refine gV_ok (p := GoodL _ _ _) goodL_no fun _ _ h => ?_
  subst h
  refine rImm_ok (p := GoodL _ _ _) goodL_no fun _ h => ?_
  subst h
  refine gV_ok (p := GoodL _ _ _) goodL_no fun _ _ h => ?_
  subst h
  refine rV_ok (p := GoodL _ _ _) goodL_no fun _ h => ?_
  subst h
  refine vI_ok (p := GoodL _ _ _) goodL_no fun _ h => ?_
  subst h
  refine gV_ok (p := GoodL _ _ _) goodL_no fun _ _ h => ?_
  subst h
  refine rV_ok (p := GoodL _ _ _) goodL_no fun _ h => ?_
  subst h
  refine vI_ok (p := GoodL _ _ _) goodL_no fun _ h => ?_
  subst h
  refine gE_ok (p := GoodL _ _ _) goodL_no fun h => ?_
  subst h
  refine gE_ok (p := GoodL _ _ _) goodL_no fun h => ?_
  subst h
  refine gN_ok (p := GoodL _ _ _) goodL_no fun h => ?_
  subst h
  exact f103.l5.good k _ _ _
theorem f103.nat {R : Type} (k : Nat) (g : Int → Option R) (xs1 : List (List S225)) (a2 : Int) : f103.step k g xs1 a2 = (f103 k xs1 a2).bind g := by
  simp only [f103, f103.step, bind_ite, bind_sum, Option.bind_assoc, Option.bind_some, Option.bind_none]
theorem f103.ev (k : Nat) (xs1 : List (List S225)) (a2 : Int) : evF (f103.X k) (bodyOf Try.f103) Try.f103.ntmps Try.f103.results.toList [.v (.c (.sl 193 xs1)), .v (.c (.s (.int .i64 a2)))] = f103.step k (fun x => f103.w x some) xs1 a2 := by kernel_rfl
theorem f103.hok (k : Nat) : HOK (f103.X k) (bodyOf Try.f103) where
  l := allP_mem (by exact ⟨ls_of (h0 := fun S => f103.l5.hd k S.ts S.m S.n) (by kernel_rfl) (f103.l5.all k), trivial⟩)
  j := allP_mem (by exact trivial)
theorem f103.sound0 (k : Nat) : SoundC env Try.prog 103 (f103.hd k) := by
  intro ps_
  show GoodC _ _ _ ps_ (f103.hd k ps_)
  unfold f103.hd
  refine gC_ok (p := GoodC env Try.prog 103 _) goodC_no fun _ _ h => ?_
  subst h
  refine qC_ok (p := GoodC env Try.prog 103 _) goodC_no fun _ h => ?_
  subst h
  refine qSl_ok (p := GoodC env Try.prog 103 _) goodC_no fun _ h => ?_
  subst h
  refine gC_ok (p := GoodC env Try.prog 103 _) goodC_no fun _ _ h => ?_
  subst h
  refine qC_ok (p := GoodC env Try.prog 103 _) goodC_no fun _ h => ?_
  subst h
  refine qS_ok (p := GoodC env Try.prog 103 _) goodC_no fun _ h => ?_
  subst h
  refine vI_ok (p := GoodC env Try.prog 103 _) goodC_no fun _ h => ?_
  subst h
  refine gE_ok (p := GoodC env Try.prog 103 _) goodC_no fun h => ?_
  subst h
  exact fun_good (fun_sound envOK (cs_sound _ (by exact ⟨⟨f156.sound k, f156.fnok⟩, trivial⟩)) (f103.hok k) Try.func103 rfl) ((f103.ev k _ _).trans (f103.nat k _ _ _))
theorem f103.sound (k : Nat) : SoundC env Try.prog 103 (f103.e k).F := soundC_coer (f103.sound0 k) [[.rd 193], [.no]]
theorem f103.says (k : Nat) (xs1 : List (List S225)) (a2 : Int) (t12 : Int) (h_ : f103 k xs1 a2 = some t12) : SoundAt env Try.prog 103 [.v (.c (.sl 193 xs1)), .v (.c (.s (.int .i64 a2)))] ⟨.v (.c (.s (.int .i64 t12))), [[], []]⟩ :=
  fun_sound envOK (cs_sound _ (by exact ⟨⟨f156.sound k, f156.fnok⟩, trivial⟩)) (f103.hok k) Try.func103 rfl _ _ (((f103.ev k xs1 a2).trans (f103.nat k _ xs1 a2)).trans (by rw [h_]; rfl))
theorem f103.fnok : FnOK Try.prog 103 := fn_ok Try.func103 (by kernel_rfl) rfl
def f41.step {R : Type} (k : Nat) (ret : Int → Option R) (xs1 : List S195) (xs2 : List (List S225)) (a3 : Int) (a4 : Int) : Option R :=
  (f102 k xs1 a4).bind fun t5 => if (decide (t5 < (0 : Int))) = true then
      ret (-1 : Int)
    else
      (f103 k xs2 t5).bind fun t6 => if (decide (t6 < (0 : Int))) = true then
          ret (-1 : Int)
        else
          ret t6
def f41 (k : Nat) (xs1 : List S195) (xs2 : List (List S225)) (a3 : Int) (a4 : Int) : Option Int := f41.step k some xs1 xs2 a3 a4
def f41.w {R : Type} : Int → (Res env → Option R) → Option R := fun t7 K => K ⟨.v (.c (.s (.int .i64 t7))), [[], []]⟩
theorem f41.wn (x : Int) : ∃ res, ∀ {R : Type} (K : Res env → Option R), f41.w x K = K res := by
  exact ⟨_, fun _ => rfl⟩
def f41.hd (k : Nat) (ps_ : List (P2 env)) : Cl env :=
  gC Cl.no ps_ fun p_ ps_ => qG Cl.no p_ fun cs_ => gC Cl.no cs_ fun c_ cs_ => qSl Cl.no 195 c_ fun xs1 => gC Cl.no cs_ fun c_ cs_ => qSl Cl.no 193 c_ fun xs2 => gC Cl.no cs_ fun c_ cs_ => qS Cl.no c_ fun v_ => vI Cl.no .i64 v_ fun a3 => gE Cl.no cs_ <| gC Cl.no ps_ fun p_ ps_ => qC Cl.no p_ fun c_ => qS Cl.no c_ fun v_ => vI Cl.no .i64 v_ fun a4 => gE Cl.no ps_ <| { α := Int, o := f41 k xs1 xs2 a3 a4, w := f41.w, nat := fun x _ => f41.wn x }
def f41.e (k : Nat) : Entry env := ⟨fun ps => f41.hd k (coer [[.rd 195, .rd 193, .no], [.no]] ps), [], []⟩
def f41.X (k : Nat) : Ctx env := { C := lookE [(102, f102.e k), (103, f103.e k)], L := lookE [], J := lookE [], keep := lookD [], keepX := lookD [], span := lookN [], eff := fun n => memN n [], prep := lookP [], np := 0 }
theorem f41.nat {R : Type} (k : Nat) (g : Int → Option R) (xs1 : List S195) (xs2 : List (List S225)) (a3 : Int) (a4 : Int) : f41.step k g xs1 xs2 a3 a4 = (f41 k xs1 xs2 a3 a4).bind g := by
  simp only [f41, f41.step, bind_ite, bind_sum, Option.bind_assoc, Option.bind_some, Option.bind_none]
theorem f41.ev (k : Nat) (xs1 : List S195) (xs2 : List (List S225)) (a3 : Int) (a4 : Int) : evF (f41.X k) (bodyOf Try.f41) Try.f41.ntmps Try.f41.results.toList [.g [.sl 195 xs1, .sl 193 xs2, .s (.int .i64 a3)], .v (.c (.s (.int .i64 a4)))] = f41.step k (fun x => f41.w x some) xs1 xs2 a3 a4 := by kernel_rfl
theorem f41.hok (k : Nat) : HOK (f41.X k) (bodyOf Try.f41) where
  l := allP_mem (by exact trivial)
  j := allP_mem (by exact trivial)
theorem f41.sound0 (k : Nat) : SoundC env Try.prog 41 (f41.hd k) := by
  intro ps_
  show GoodC _ _ _ ps_ (f41.hd k ps_)
  unfold f41.hd
  refine gC_ok (p := GoodC env Try.prog 41 _) goodC_no fun _ _ h => ?_
  subst h
  refine qG_ok (p := GoodC env Try.prog 41 _) goodC_no fun _ h => ?_
  subst h
  refine gC_ok (p := GoodC env Try.prog 41 _) goodC_no fun _ _ h => ?_
  subst h
  refine qSl_ok (p := GoodC env Try.prog 41 _) goodC_no fun _ h => ?_
  subst h
  refine gC_ok (p := GoodC env Try.prog 41 _) goodC_no fun _ _ h => ?_
  subst h
  refine qSl_ok (p := GoodC env Try.prog 41 _) goodC_no fun _ h => ?_
  subst h
  refine gC_ok (p := GoodC env Try.prog 41 _) goodC_no fun _ _ h => ?_
  subst h
  refine qS_ok (p := GoodC env Try.prog 41 _) goodC_no fun _ h => ?_
  subst h
  refine vI_ok (p := GoodC env Try.prog 41 _) goodC_no fun _ h => ?_
  subst h
  refine gE_ok (p := GoodC env Try.prog 41 _) goodC_no fun h => ?_
  subst h
  refine gC_ok (p := GoodC env Try.prog 41 _) goodC_no fun _ _ h => ?_
  subst h
  refine qC_ok (p := GoodC env Try.prog 41 _) goodC_no fun _ h => ?_
  subst h
  refine qS_ok (p := GoodC env Try.prog 41 _) goodC_no fun _ h => ?_
  subst h
  refine vI_ok (p := GoodC env Try.prog 41 _) goodC_no fun _ h => ?_
  subst h
  refine gE_ok (p := GoodC env Try.prog 41 _) goodC_no fun h => ?_
  subst h
  exact fun_good (fun_sound envOK (cs_sound _ (by exact ⟨⟨f102.sound k, f102.fnok⟩, ⟨f103.sound k, f103.fnok⟩, trivial⟩)) (f41.hok k) Try.func41 rfl) ((f41.ev k _ _ _ _).trans (f41.nat k _ _ _ _ _))
theorem f41.sound (k : Nat) : SoundC env Try.prog 41 (f41.e k).F := soundC_coer (f41.sound0 k) [[.rd 195, .rd 193, .no], [.no]]
theorem f41.says (k : Nat) (xs1 : List S195) (xs2 : List (List S225)) (a3 : Int) (a4 : Int) (t8 : Int) (h_ : f41 k xs1 xs2 a3 a4 = some t8) : SoundAt env Try.prog 41 [.g [.sl 195 xs1, .sl 193 xs2, .s (.int .i64 a3)], .v (.c (.s (.int .i64 a4)))] ⟨.v (.c (.s (.int .i64 t8))), [[], []]⟩ :=
  fun_sound envOK (cs_sound _ (by exact ⟨⟨f102.sound k, f102.fnok⟩, ⟨f103.sound k, f103.fnok⟩, trivial⟩)) (f41.hok k) Try.func41 rfl _ _ (((f41.ev k xs1 xs2 a3 a4).trans (f41.nat k _ xs1 xs2 a3 a4)).trans (by rw [h_]; rfl))
theorem f41.fnok : FnOK Try.prog 41 := fn_ok Try.func41 (by kernel_rfl) rfl
def f157.step {R : Type} (k : Nat) (ret : (Int × Int × Int × Bool) → Option R) (a1 : Int) (a2 : Int) (a3 : Int) (b4 : Bool) : Option R :=
  ret (a1, a2, a3, b4)
def f157 (k : Nat) (a1 : Int) (a2 : Int) (a3 : Int) (b4 : Bool) : Option (Int × Int × Int × Bool) := f157.step k some a1 a2 a3 b4
def f157.w {R : Type} : (Int × Int × Int × Bool) → (Res env → Option R) → Option R := fun t5 K => K ⟨.v (.g [.s (.int .i64 t5.1), .s (.int .i64 t5.2.1), .s (.int .i64 t5.2.2.1), .s (.bool t5.2.2.2)]), [[]]⟩
theorem f157.wn (x : (Int × Int × Int × Bool)) : ∃ res, ∀ {R : Type} (K : Res env → Option R), f157.w x K = K res := by
  exact ⟨_, fun _ => rfl⟩
def f157.hd (k : Nat) (ps_ : List (P2 env)) : Cl env :=
  gC Cl.no ps_ fun p_ ps_ => qG Cl.no p_ fun cs_ => gC Cl.no cs_ fun c_ cs_ => qS Cl.no c_ fun v_ => vI Cl.no .i64 v_ fun a1 => gC Cl.no cs_ fun c_ cs_ => qS Cl.no c_ fun v_ => vI Cl.no .i64 v_ fun a2 => gC Cl.no cs_ fun c_ cs_ => qS Cl.no c_ fun v_ => vI Cl.no .i64 v_ fun a3 => gC Cl.no cs_ fun c_ cs_ => qS Cl.no c_ fun v_ => vB Cl.no v_ fun b4 => gE Cl.no cs_ <| gE Cl.no ps_ <| { α := Int × Int × Int × Bool, o := f157 k a1 a2 a3 b4, w := f157.w, nat := fun x _ => f157.wn x }
def f157.e (k : Nat) : Entry env := ⟨f157.hd k, [], []⟩
def f157.X (k : Nat) : Ctx env := { C := lookE [], L := lookE [], J := lookE [], keep := lookD [], keepX := lookD [], span := lookN [], eff := fun n => memN n [], prep := lookP [], np := 0 }
theorem f157.nat {R : Type} (k : Nat) (g : (Int × Int × Int × Bool) → Option R) (a1 : Int) (a2 : Int) (a3 : Int) (b4 : Bool) : f157.step k g a1 a2 a3 b4 = (f157 k a1 a2 a3 b4).bind g := by
  simp only [f157, f157.step, bind_ite, bind_sum, Option.bind_assoc, Option.bind_some, Option.bind_none]
theorem f157.ev (k : Nat) (a1 : Int) (a2 : Int) (a3 : Int) (b4 : Bool) : evF (f157.X k) (bodyOf Try.f157) Try.f157.ntmps Try.f157.results.toList [.g [.s (.int .i64 a1), .s (.int .i64 a2), .s (.int .i64 a3), .s (.bool b4)]] = f157.step k (fun x => f157.w x some) a1 a2 a3 b4 := by kernel_rfl
theorem f157.hok (k : Nat) : HOK (f157.X k) (bodyOf Try.f157) where
  l := allP_mem (by exact trivial)
  j := allP_mem (by exact trivial)
theorem f157.sound (k : Nat) : SoundC env Try.prog 157 ((f157.e k).F) := by
  intro ps_
  show GoodC _ _ _ ps_ (f157.hd k ps_)
  unfold f157.hd
  refine gC_ok (p := GoodC env Try.prog 157 _) goodC_no fun _ _ h => ?_
  subst h
  refine qG_ok (p := GoodC env Try.prog 157 _) goodC_no fun _ h => ?_
  subst h
  refine gC_ok (p := GoodC env Try.prog 157 _) goodC_no fun _ _ h => ?_
  subst h
  refine qS_ok (p := GoodC env Try.prog 157 _) goodC_no fun _ h => ?_
  subst h
  refine vI_ok (p := GoodC env Try.prog 157 _) goodC_no fun _ h => ?_
  subst h
  refine gC_ok (p := GoodC env Try.prog 157 _) goodC_no fun _ _ h => ?_
  subst h
  refine qS_ok (p := GoodC env Try.prog 157 _) goodC_no fun _ h => ?_
  subst h
  refine vI_ok (p := GoodC env Try.prog 157 _) goodC_no fun _ h => ?_
  subst h
  refine gC_ok (p := GoodC env Try.prog 157 _) goodC_no fun _ _ h => ?_
  subst h
  refine qS_ok (p := GoodC env Try.prog 157 _) goodC_no fun _ h => ?_
  subst h
  refine vI_ok (p := GoodC env Try.prog 157 _) goodC_no fun _ h => ?_
  subst h
  refine gC_ok (p := GoodC env Try.prog 157 _) goodC_no fun _ _ h => ?_
  subst h
  refine qS_ok (p := GoodC env Try.prog 157 _) goodC_no fun _ h => ?_
  subst h
  refine vB_ok (p := GoodC env Try.prog 157 _) goodC_no fun _ h => ?_
  subst h
  refine gE_ok (p := GoodC env Try.prog 157 _) goodC_no fun h => ?_
  subst h
  refine gE_ok (p := GoodC env Try.prog 157 _) goodC_no fun h => ?_
  subst h
  exact fun_good (fun_sound envOK (cs_sound _ (by exact trivial)) (f157.hok k) Try.func157 rfl) ((f157.ev k _ _ _ _).trans (f157.nat k _ _ _ _ _))
theorem f157.says (k : Nat) (a1 : Int) (a2 : Int) (a3 : Int) (b4 : Bool) (t6 : Int × Int × Int × Bool) (h_ : f157 k a1 a2 a3 b4 = some t6) : SoundAt env Try.prog 157 [.g [.s (.int .i64 a1), .s (.int .i64 a2), .s (.int .i64 a3), .s (.bool b4)]] ⟨.v (.g [.s (.int .i64 t6.1), .s (.int .i64 t6.2.1), .s (.int .i64 t6.2.2.1), .s (.bool t6.2.2.2)]), [[]]⟩ :=
  fun_sound envOK (cs_sound _ (by exact trivial)) (f157.hok k) Try.func157 rfl _ _ (((f157.ev k a1 a2 a3 b4).trans (f157.nat k _ a1 a2 a3 b4)).trans (by rw [h_]; rfl))
theorem f157.fnok : FnOK Try.prog 157 := fn_ok Try.func157 (by kernel_rfl) rfl
def f107.l3.step {R : Type} (k : Nat) (rec_ : (List S195) → Int → (List S146) → Option R) (ret : ((List S146)) → Option R) (xs2 : List S195) (a3 : Int) (xs4 : List S146) : Option R :=
  if (decide (a3 < (((List.length xs2) : Nat) : Int))) = true then
    if (0 : Int) ≤ a3 then
      if a3 < ((List.length xs2 : Nat) : Int) then
        (f157 k (List.getD xs2 (Int.toNat a3) (⟨(0 : Int), (0 : Int), (0 : Int), false⟩ : S195)).f0 (List.getD xs2 (Int.toNat a3) (⟨(0 : Int), (0 : Int), (0 : Int), false⟩ : S195)).f1 (List.getD xs2 (Int.toNat a3) (⟨(0 : Int), (0 : Int), (0 : Int), false⟩ : S195)).f2 (List.getD xs2 (Int.toNat a3) (⟨(0 : Int), (0 : Int), (0 : Int), false⟩ : S195)).f3).bind fun t5 => if (0 : Int) ≤ a3 then
            if a3 < ((List.length xs4 : Nat) : Int) then
              rec_ xs2 (IntKind.i64.wrap (a3 + (1 : Int))) (List.set xs4 (Int.toNat a3) (⟨t5.1, t5.2.1, t5.2.2.1, t5.2.2.2⟩ : S146))
            else none
          else none
      else none
    else none
  else
    ret xs4
def f107.l3 (k : Nat) : Nat → (List S195) → Int → (List S146) → Option ((List S146))
  | 0, _, _, _ => none
  | j + 1, xs2, a3, xs4 => f107.l3.step k (fun xs2 a3 xs4 => f107.l3 k j xs2 a3 xs4) some xs2 a3 xs4
def f107.l3.w {R : Type} : ((List S146)) → (Exit → St env → Option R) → Option R := fun t7 K => K (.exit 0) ⟨fullT [3] 0 23 [.v (.c (.row 49))], [(49, .row true 146 t7)], 353⟩
def f107.l3.st (xs2 : List S195) (a3 : Int) (xs4 : List S146) : St env := ⟨fullT [0, 3, 4] 0 23 [.v (.c (.imm 195 xs2)), .v (.c (.row 49)), .v (.c (.s (.int .i64 a3)))], [(49, .row true 146 xs4)], 97⟩
def f107.l3.hd (k : Nat) (ts_ : List (AV env)) (mm_ : Mem env) (n_ : Nat) : LCl env :=
  gTs LCl.no [0, 3, 4] 23 ts_ fun l_ => gV LCl.no l_ fun a_ l_ => rImm LCl.no 195 a_ fun xs2 => gV LCl.no l_ fun a_ l_ => rRow LCl.no 49 a_ <| gV LCl.no l_ fun a_ l_ => rV LCl.no a_ fun v_ => vI LCl.no .i64 v_ fun a3 => gE LCl.no l_ <| mRow LCl.no 49 true 146 mm_ fun xs4 m_ => gE LCl.no m_ <| gN LCl.no 97 n_ { α := (List S146), o := f107.l3 k k xs2 a3 xs4, w := f107.l3.w }
def f107.step {R : Type} (k : Nat) (ret : ((List S146)) → Option R) (xs1 : List S195) : Option R :=
  if (0 : Int) ≤ (((List.length xs1) : Nat) : Int) then
    if (Int.toNat (((List.length xs1) : Nat) : Int)) * 32 ≤ maxN then
      (f107.l3 k k xs1 (0 : Int) (List.replicate (Int.toNat (((List.length xs1) : Nat) : Int)) (⟨(0 : Int), (0 : Int), (0 : Int), false⟩ : S146))).bind fun t6 => ret t6
    else none
  else none
def f107 (k : Nat) (xs1 : List S195) : Option ((List S146)) := f107.step k some xs1
def f107.w {R : Type} : ((List S146)) → (Res env → Option R) → Option R := fun t8 K => K ⟨.v (.c (.own true 146 t8)), [[]]⟩
theorem f107.wn (x : ((List S146))) : ∃ res, ∀ {R : Type} (K : Res env → Option R), f107.w x K = K res := by
  exact ⟨_, fun _ => rfl⟩
def f107.hd (k : Nat) (ps_ : List (P2 env)) : Cl env :=
  gC Cl.no ps_ fun p_ ps_ => qC Cl.no p_ fun c_ => qSl Cl.no 195 c_ fun xs1 => gE Cl.no ps_ <| { α := (List S146), o := f107 k xs1, w := f107.w, nat := fun x _ => f107.wn x }
def f107.e (k : Nat) : Entry env := ⟨fun ps => f107.hd k (coer [[.rd 195]] ps), [], []⟩
def f107.X (k : Nat) : Ctx env := { C := lookE [(157, f157.e k)], L := lookE [(3, fun S => f107.l3.hd k S.ts S.m S.n)], J := lookE [], keep := lookD [(3, [0, 3, 4])], keepX := lookD [(3, [3])], span := lookN [(3, 256)], eff := fun n => memN n [], prep := lookP [], np := 0 }
theorem f107.l3.nat {R : Type} (k : Nat) (rec_ : (List S195) → Int → (List S146) → Option ((List S146))) (g : ((List S146)) → Option R) (xs2 : List S195) (a3 : Int) (xs4 : List S146) : (f107.l3.step k rec_ some xs2 a3 xs4).bind g = f107.l3.step k (fun xs2 a3 xs4 => (rec_ xs2 a3 xs4).bind g) g xs2 a3 xs4 := by
  simp only [f107.l3.step, bind_ite, bind_sum, Option.bind_assoc, Option.bind_some, Option.bind_none]
theorem f107.l3.good (k : Nat) (xs2 : List S195) (a3 : Int) (xs4 : List S146) : GoodL (f107.X k) (nthC 0 (loopsOf (bodyOf Try.f107))) (f107.l3.st xs2 a3 xs4) { α := ((List S146)), o := f107.l3 k k xs2 a3 xs4, w := f107.l3.w } :=
  loop_good (ι := (List S195) × Int × (List S146)) (α := ((List S146))) (fun i => f107.l3.st i.1 i.2.1 i.2.2) (fun j i => f107.l3 k j i.1 i.2.1 i.2.2) f107.l3.w (fun rec_ ret i => f107.l3.step k (fun xs2 a3 xs4 => rec_ (xs2, a3, xs4)) ret i.1 i.2.1 i.2.2)
    (fun _ => rfl) (fun _ _ => rfl) (fun rec_ g i => f107.l3.nat k _ g i.1 i.2.1 i.2.2) (fun {R} i0 i rec_ K => by kernel_rfl) k (xs2, a3, xs4)
theorem f107.l3.all (k : Nat) (S : St env) : GoodL (f107.X k) (nthC 0 (loopsOf (bodyOf Try.f107))) S (f107.l3.hd k S.ts S.m S.n) := by
  obtain ⟨ts_, m_, n_⟩ := S
  show GoodL _ _ _ (f107.l3.hd k ts_ m_ n_)
  unfold f107.l3.hd
  refine gTs_ok (p := GoodL _ _ _) goodL_no fun _ h => ?_
  subst h
  refine gV_ok (p := GoodL _ _ _) goodL_no fun _ _ h => ?_
  subst h
  refine rImm_ok (p := GoodL _ _ _) goodL_no fun _ h => ?_
  subst h
  refine gV_ok (p := GoodL _ _ _) goodL_no fun _ _ h => ?_
  subst h
  refine rRow_ok (p := GoodL _ _ _) goodL_no fun h => ?_
  subst h
  refine gV_ok (p := GoodL _ _ _) goodL_no fun _ _ h => ?_
  subst h
  refine rV_ok (p := GoodL _ _ _) goodL_no fun _ h => ?_
  subst h
  refine vI_ok (p := GoodL _ _ _) goodL_no fun _ h => ?_
  subst h
  refine gE_ok (p := GoodL _ _ _) goodL_no fun h => ?_
  subst h
  refine mRow_ok (p := GoodL _ _ _) goodL_no fun _ _ h => ?_
  subst h
  refine gE_ok (p := GoodL _ _ _) goodL_no fun h => ?_
  subst h
  refine gN_ok (p := GoodL _ _ _) goodL_no fun h => ?_
  subst h
  exact f107.l3.good k _ _ _
theorem f107.nat {R : Type} (k : Nat) (g : ((List S146)) → Option R) (xs1 : List S195) : f107.step k g xs1 = (f107 k xs1).bind g := by
  simp only [f107, f107.step, bind_ite, bind_sum, Option.bind_assoc, Option.bind_some, Option.bind_none]
theorem f107.ev (k : Nat) (xs1 : List S195) : evF (f107.X k) (bodyOf Try.f107) Try.f107.ntmps Try.f107.results.toList [.v (.c (.sl 195 xs1))] = f107.step k (fun x => f107.w x some) xs1 := by kernel_rfl
theorem f107.hok (k : Nat) : HOK (f107.X k) (bodyOf Try.f107) where
  l := allP_mem (by exact ⟨ls_of (h0 := fun S => f107.l3.hd k S.ts S.m S.n) (by kernel_rfl) (f107.l3.all k), trivial⟩)
  j := allP_mem (by exact trivial)
theorem f107.sound0 (k : Nat) : SoundC env Try.prog 107 (f107.hd k) := by
  intro ps_
  show GoodC _ _ _ ps_ (f107.hd k ps_)
  unfold f107.hd
  refine gC_ok (p := GoodC env Try.prog 107 _) goodC_no fun _ _ h => ?_
  subst h
  refine qC_ok (p := GoodC env Try.prog 107 _) goodC_no fun _ h => ?_
  subst h
  refine qSl_ok (p := GoodC env Try.prog 107 _) goodC_no fun _ h => ?_
  subst h
  refine gE_ok (p := GoodC env Try.prog 107 _) goodC_no fun h => ?_
  subst h
  exact fun_good (fun_sound envOK (cs_sound _ (by exact ⟨⟨f157.sound k, f157.fnok⟩, trivial⟩)) (f107.hok k) Try.func107 rfl) ((f107.ev k _).trans (f107.nat k _ _))
theorem f107.sound (k : Nat) : SoundC env Try.prog 107 (f107.e k).F := soundC_coer (f107.sound0 k) [[.rd 195]]
theorem f107.says (k : Nat) (xs1 : List S195) (t9 : (List S146)) (h_ : f107 k xs1 = some t9) : SoundAt env Try.prog 107 [.v (.c (.sl 195 xs1))] ⟨.v (.c (.own true 146 t9)), [[]]⟩ :=
  fun_sound envOK (cs_sound _ (by exact ⟨⟨f157.sound k, f157.fnok⟩, trivial⟩)) (f107.hok k) Try.func107 rfl _ _ (((f107.ev k xs1).trans (f107.nat k _ xs1)).trans (by rw [h_]; rfl))
theorem f107.fnok : FnOK Try.prog 107 := fn_ok Try.func107 (by kernel_rfl) rfl
def f186.step {R : Type} (k : Nat) (ret : (Int × Int × Int) → Option R) (a1 : Int) (a2 : Int) (a3 : Int) : Option R :=
  ret (a1, a2, a3)
def f186 (k : Nat) (a1 : Int) (a2 : Int) (a3 : Int) : Option (Int × Int × Int) := f186.step k some a1 a2 a3
def f186.w {R : Type} : (Int × Int × Int) → (Res env → Option R) → Option R := fun t4 K => K ⟨.v (.g [.s (.int .i64 t4.1), .s (.int .i64 t4.2.1), .s (.int .i64 t4.2.2)]), [[]]⟩
theorem f186.wn (x : (Int × Int × Int)) : ∃ res, ∀ {R : Type} (K : Res env → Option R), f186.w x K = K res := by
  exact ⟨_, fun _ => rfl⟩
def f186.hd (k : Nat) (ps_ : List (P2 env)) : Cl env :=
  gC Cl.no ps_ fun p_ ps_ => qG Cl.no p_ fun cs_ => gC Cl.no cs_ fun c_ cs_ => qS Cl.no c_ fun v_ => vI Cl.no .i64 v_ fun a1 => gC Cl.no cs_ fun c_ cs_ => qS Cl.no c_ fun v_ => vI Cl.no .i64 v_ fun a2 => gC Cl.no cs_ fun c_ cs_ => qS Cl.no c_ fun v_ => vI Cl.no .i64 v_ fun a3 => gE Cl.no cs_ <| gE Cl.no ps_ <| { α := Int × Int × Int, o := f186 k a1 a2 a3, w := f186.w, nat := fun x _ => f186.wn x }
def f186.e (k : Nat) : Entry env := ⟨f186.hd k, [], []⟩
def f186.X (k : Nat) : Ctx env := { C := lookE [], L := lookE [], J := lookE [], keep := lookD [], keepX := lookD [], span := lookN [], eff := fun n => memN n [], prep := lookP [], np := 0 }
theorem f186.nat {R : Type} (k : Nat) (g : (Int × Int × Int) → Option R) (a1 : Int) (a2 : Int) (a3 : Int) : f186.step k g a1 a2 a3 = (f186 k a1 a2 a3).bind g := by
  simp only [f186, f186.step, bind_ite, bind_sum, Option.bind_assoc, Option.bind_some, Option.bind_none]
theorem f186.ev (k : Nat) (a1 : Int) (a2 : Int) (a3 : Int) : evF (f186.X k) (bodyOf Try.f186) Try.f186.ntmps Try.f186.results.toList [.g [.s (.int .i64 a1), .s (.int .i64 a2), .s (.int .i64 a3)]] = f186.step k (fun x => f186.w x some) a1 a2 a3 := by kernel_rfl
theorem f186.hok (k : Nat) : HOK (f186.X k) (bodyOf Try.f186) where
  l := allP_mem (by exact trivial)
  j := allP_mem (by exact trivial)
theorem f186.sound (k : Nat) : SoundC env Try.prog 186 ((f186.e k).F) := by
  intro ps_
  show GoodC _ _ _ ps_ (f186.hd k ps_)
  unfold f186.hd
  refine gC_ok (p := GoodC env Try.prog 186 _) goodC_no fun _ _ h => ?_
  subst h
  refine qG_ok (p := GoodC env Try.prog 186 _) goodC_no fun _ h => ?_
  subst h
  refine gC_ok (p := GoodC env Try.prog 186 _) goodC_no fun _ _ h => ?_
  subst h
  refine qS_ok (p := GoodC env Try.prog 186 _) goodC_no fun _ h => ?_
  subst h
  refine vI_ok (p := GoodC env Try.prog 186 _) goodC_no fun _ h => ?_
  subst h
  refine gC_ok (p := GoodC env Try.prog 186 _) goodC_no fun _ _ h => ?_
  subst h
  refine qS_ok (p := GoodC env Try.prog 186 _) goodC_no fun _ h => ?_
  subst h
  refine vI_ok (p := GoodC env Try.prog 186 _) goodC_no fun _ h => ?_
  subst h
  refine gC_ok (p := GoodC env Try.prog 186 _) goodC_no fun _ _ h => ?_
  subst h
  refine qS_ok (p := GoodC env Try.prog 186 _) goodC_no fun _ h => ?_
  subst h
  refine vI_ok (p := GoodC env Try.prog 186 _) goodC_no fun _ h => ?_
  subst h
  refine gE_ok (p := GoodC env Try.prog 186 _) goodC_no fun h => ?_
  subst h
  refine gE_ok (p := GoodC env Try.prog 186 _) goodC_no fun h => ?_
  subst h
  exact fun_good (fun_sound envOK (cs_sound _ (by exact trivial)) (f186.hok k) Try.func186 rfl) ((f186.ev k _ _ _).trans (f186.nat k _ _ _ _))
theorem f186.says (k : Nat) (a1 : Int) (a2 : Int) (a3 : Int) (t5 : Int × Int × Int) (h_ : f186 k a1 a2 a3 = some t5) : SoundAt env Try.prog 186 [.g [.s (.int .i64 a1), .s (.int .i64 a2), .s (.int .i64 a3)]] ⟨.v (.g [.s (.int .i64 t5.1), .s (.int .i64 t5.2.1), .s (.int .i64 t5.2.2)]), [[]]⟩ :=
  fun_sound envOK (cs_sound _ (by exact trivial)) (f186.hok k) Try.func186 rfl _ _ (((f186.ev k a1 a2 a3).trans (f186.nat k _ a1 a2 a3)).trans (by rw [h_]; rfl))
theorem f186.fnok : FnOK Try.prog 186 := fn_ok Try.func186 (by kernel_rfl) rfl
def f158.l3.step {R : Type} (k : Nat) (rec_ : (List S225) → Int → (List S142) → Option R) (ret : ((List S142)) → Option R) (xs2 : List S225) (a3 : Int) (xs4 : List S142) : Option R :=
  if (decide (a3 < (((List.length xs2) : Nat) : Int))) = true then
    if (0 : Int) ≤ a3 then
      if a3 < ((List.length xs2 : Nat) : Int) then
        (f186 k (List.getD xs2 (Int.toNat a3) (⟨(0 : Int), (0 : Int), (0 : Int)⟩ : S225)).f0 (List.getD xs2 (Int.toNat a3) (⟨(0 : Int), (0 : Int), (0 : Int)⟩ : S225)).f1 (List.getD xs2 (Int.toNat a3) (⟨(0 : Int), (0 : Int), (0 : Int)⟩ : S225)).f2).bind fun t5 => if (0 : Int) ≤ a3 then
            if a3 < ((List.length xs4 : Nat) : Int) then
              rec_ xs2 (IntKind.i64.wrap (a3 + (1 : Int))) (List.set xs4 (Int.toNat a3) (⟨t5.1, t5.2.1, t5.2.2⟩ : S142))
            else none
          else none
      else none
    else none
  else
    ret xs4
def f158.l3 (k : Nat) : Nat → (List S225) → Int → (List S142) → Option ((List S142))
  | 0, _, _, _ => none
  | j + 1, xs2, a3, xs4 => f158.l3.step k (fun xs2 a3 xs4 => f158.l3 k j xs2 a3 xs4) some xs2 a3 xs4
def f158.l3.w {R : Type} : ((List S142)) → (Exit → St env → Option R) → Option R := fun t7 K => K (.exit 0) ⟨fullT [3] 0 23 [.v (.c (.row 49))], [(49, .row true 142 t7)], 353⟩
def f158.l3.st (xs2 : List S225) (a3 : Int) (xs4 : List S142) : St env := ⟨fullT [0, 3, 4] 0 23 [.v (.c (.imm 225 xs2)), .v (.c (.row 49)), .v (.c (.s (.int .i64 a3)))], [(49, .row true 142 xs4)], 97⟩
def f158.l3.hd (k : Nat) (ts_ : List (AV env)) (mm_ : Mem env) (n_ : Nat) : LCl env :=
  gTs LCl.no [0, 3, 4] 23 ts_ fun l_ => gV LCl.no l_ fun a_ l_ => rImm LCl.no 225 a_ fun xs2 => gV LCl.no l_ fun a_ l_ => rRow LCl.no 49 a_ <| gV LCl.no l_ fun a_ l_ => rV LCl.no a_ fun v_ => vI LCl.no .i64 v_ fun a3 => gE LCl.no l_ <| mRow LCl.no 49 true 142 mm_ fun xs4 m_ => gE LCl.no m_ <| gN LCl.no 97 n_ { α := (List S142), o := f158.l3 k k xs2 a3 xs4, w := f158.l3.w }
def f158.step {R : Type} (k : Nat) (ret : ((List S142)) → Option R) (xs1 : List S225) : Option R :=
  if (0 : Int) ≤ (((List.length xs1) : Nat) : Int) then
    if (Int.toNat (((List.length xs1) : Nat) : Int)) * 24 ≤ maxN then
      (f158.l3 k k xs1 (0 : Int) (List.replicate (Int.toNat (((List.length xs1) : Nat) : Int)) (⟨(0 : Int), (0 : Int), (0 : Int)⟩ : S142))).bind fun t6 => ret t6
    else none
  else none
def f158 (k : Nat) (xs1 : List S225) : Option ((List S142)) := f158.step k some xs1
def f158.w {R : Type} : ((List S142)) → (Res env → Option R) → Option R := fun t8 K => K ⟨.v (.c (.own true 142 t8)), [[]]⟩
theorem f158.wn (x : ((List S142))) : ∃ res, ∀ {R : Type} (K : Res env → Option R), f158.w x K = K res := by
  exact ⟨_, fun _ => rfl⟩
def f158.hd (k : Nat) (ps_ : List (P2 env)) : Cl env :=
  gC Cl.no ps_ fun p_ ps_ => qC Cl.no p_ fun c_ => qSl Cl.no 225 c_ fun xs1 => gE Cl.no ps_ <| { α := (List S142), o := f158 k xs1, w := f158.w, nat := fun x _ => f158.wn x }
def f158.e (k : Nat) : Entry env := ⟨fun ps => f158.hd k (coer [[.rd 225]] ps), [], []⟩
def f158.X (k : Nat) : Ctx env := { C := lookE [(186, f186.e k)], L := lookE [(3, fun S => f158.l3.hd k S.ts S.m S.n)], J := lookE [], keep := lookD [(3, [0, 3, 4])], keepX := lookD [(3, [3])], span := lookN [(3, 256)], eff := fun n => memN n [], prep := lookP [], np := 0 }
theorem f158.l3.nat {R : Type} (k : Nat) (rec_ : (List S225) → Int → (List S142) → Option ((List S142))) (g : ((List S142)) → Option R) (xs2 : List S225) (a3 : Int) (xs4 : List S142) : (f158.l3.step k rec_ some xs2 a3 xs4).bind g = f158.l3.step k (fun xs2 a3 xs4 => (rec_ xs2 a3 xs4).bind g) g xs2 a3 xs4 := by
  simp only [f158.l3.step, bind_ite, bind_sum, Option.bind_assoc, Option.bind_some, Option.bind_none]
theorem f158.l3.good (k : Nat) (xs2 : List S225) (a3 : Int) (xs4 : List S142) : GoodL (f158.X k) (nthC 0 (loopsOf (bodyOf Try.f158))) (f158.l3.st xs2 a3 xs4) { α := ((List S142)), o := f158.l3 k k xs2 a3 xs4, w := f158.l3.w } :=
  loop_good (ι := (List S225) × Int × (List S142)) (α := ((List S142))) (fun i => f158.l3.st i.1 i.2.1 i.2.2) (fun j i => f158.l3 k j i.1 i.2.1 i.2.2) f158.l3.w (fun rec_ ret i => f158.l3.step k (fun xs2 a3 xs4 => rec_ (xs2, a3, xs4)) ret i.1 i.2.1 i.2.2)
    (fun _ => rfl) (fun _ _ => rfl) (fun rec_ g i => f158.l3.nat k _ g i.1 i.2.1 i.2.2) (fun {R} i0 i rec_ K => by kernel_rfl) k (xs2, a3, xs4)
theorem f158.l3.all (k : Nat) (S : St env) : GoodL (f158.X k) (nthC 0 (loopsOf (bodyOf Try.f158))) S (f158.l3.hd k S.ts S.m S.n) := by
  obtain ⟨ts_, m_, n_⟩ := S
  show GoodL _ _ _ (f158.l3.hd k ts_ m_ n_)
  unfold f158.l3.hd
  refine gTs_ok (p := GoodL _ _ _) goodL_no fun _ h => ?_
  subst h
  refine gV_ok (p := GoodL _ _ _) goodL_no fun _ _ h => ?_
  subst h
  refine rImm_ok (p := GoodL _ _ _) goodL_no fun _ h => ?_
  subst h
  refine gV_ok (p := GoodL _ _ _) goodL_no fun _ _ h => ?_
  subst h
  refine rRow_ok (p := GoodL _ _ _) goodL_no fun h => ?_
  subst h
  refine gV_ok (p := GoodL _ _ _) goodL_no fun _ _ h => ?_
  subst h
  refine rV_ok (p := GoodL _ _ _) goodL_no fun _ h => ?_
  subst h
  refine vI_ok (p := GoodL _ _ _) goodL_no fun _ h => ?_
  subst h
  refine gE_ok (p := GoodL _ _ _) goodL_no fun h => ?_
  subst h
  refine mRow_ok (p := GoodL _ _ _) goodL_no fun _ _ h => ?_
  subst h
  refine gE_ok (p := GoodL _ _ _) goodL_no fun h => ?_
  subst h
  refine gN_ok (p := GoodL _ _ _) goodL_no fun h => ?_
  subst h
  exact f158.l3.good k _ _ _
theorem f158.nat {R : Type} (k : Nat) (g : ((List S142)) → Option R) (xs1 : List S225) : f158.step k g xs1 = (f158 k xs1).bind g := by
  simp only [f158, f158.step, bind_ite, bind_sum, Option.bind_assoc, Option.bind_some, Option.bind_none]
theorem f158.ev (k : Nat) (xs1 : List S225) : evF (f158.X k) (bodyOf Try.f158) Try.f158.ntmps Try.f158.results.toList [.v (.c (.sl 225 xs1))] = f158.step k (fun x => f158.w x some) xs1 := by kernel_rfl
theorem f158.hok (k : Nat) : HOK (f158.X k) (bodyOf Try.f158) where
  l := allP_mem (by exact ⟨ls_of (h0 := fun S => f158.l3.hd k S.ts S.m S.n) (by kernel_rfl) (f158.l3.all k), trivial⟩)
  j := allP_mem (by exact trivial)
theorem f158.sound0 (k : Nat) : SoundC env Try.prog 158 (f158.hd k) := by
  intro ps_
  show GoodC _ _ _ ps_ (f158.hd k ps_)
  unfold f158.hd
  refine gC_ok (p := GoodC env Try.prog 158 _) goodC_no fun _ _ h => ?_
  subst h
  refine qC_ok (p := GoodC env Try.prog 158 _) goodC_no fun _ h => ?_
  subst h
  refine qSl_ok (p := GoodC env Try.prog 158 _) goodC_no fun _ h => ?_
  subst h
  refine gE_ok (p := GoodC env Try.prog 158 _) goodC_no fun h => ?_
  subst h
  exact fun_good (fun_sound envOK (cs_sound _ (by exact ⟨⟨f186.sound k, f186.fnok⟩, trivial⟩)) (f158.hok k) Try.func158 rfl) ((f158.ev k _).trans (f158.nat k _ _))
theorem f158.sound (k : Nat) : SoundC env Try.prog 158 (f158.e k).F := soundC_coer (f158.sound0 k) [[.rd 225]]
theorem f158.says (k : Nat) (xs1 : List S225) (t9 : (List S142)) (h_ : f158 k xs1 = some t9) : SoundAt env Try.prog 158 [.v (.c (.sl 225 xs1))] ⟨.v (.c (.own true 142 t9)), [[]]⟩ :=
  fun_sound envOK (cs_sound _ (by exact ⟨⟨f186.sound k, f186.fnok⟩, trivial⟩)) (f158.hok k) Try.func158 rfl _ _ (((f158.ev k xs1).trans (f158.nat k _ xs1)).trans (by rw [h_]; rfl))
theorem f158.fnok : FnOK Try.prog 158 := fn_ok Try.func158 (by kernel_rfl) rfl
def f108.l3.step {R : Type} (k : Nat) (rec_ : (List (List S225)) → Int → (List (List S142)) → Option R) (ret : ((List (List S142))) → Option R) (xs2 : List (List S225)) (a3 : Int) (xs4 : List (List S142)) : Option R :=
  if (decide (a3 < (((List.length xs2) : Nat) : Int))) = true then
    if (0 : Int) ≤ a3 then
      if a3 < ((List.length xs2 : Nat) : Int) then
        (f158 k (List.getD xs2 (Int.toNat a3) [])).bind fun t5 => if (0 : Int) ≤ a3 then
            if a3 < ((List.length xs4 : Nat) : Int) then
              rec_ xs2 (IntKind.i64.wrap (a3 + (1 : Int))) (List.set xs4 (Int.toNat a3) t5)
            else none
          else none
      else none
    else none
  else
    ret xs4
def f108.l3 (k : Nat) : Nat → (List (List S225)) → Int → (List (List S142)) → Option ((List (List S142)))
  | 0, _, _, _ => none
  | j + 1, xs2, a3, xs4 => f108.l3.step k (fun xs2 a3 xs4 => f108.l3 k j xs2 a3 xs4) some xs2 a3 xs4
def f108.l3.w {R : Type} : ((List (List S142))) → (Exit → St env → Option R) → Option R := fun t7 K => K (.exit 0) ⟨fullT [3] 0 23 [.v (.c (.row 49))], [(49, .row true 140 t7)], 353⟩
def f108.l3.st (xs2 : List (List S225)) (a3 : Int) (xs4 : List (List S142)) : St env := ⟨fullT [0, 3, 4] 0 23 [.v (.c (.imm 193 xs2)), .v (.c (.row 49)), .v (.c (.s (.int .i64 a3)))], [(49, .row true 140 xs4)], 97⟩
def f108.l3.hd (k : Nat) (ts_ : List (AV env)) (mm_ : Mem env) (n_ : Nat) : LCl env :=
  gTs LCl.no [0, 3, 4] 23 ts_ fun l_ => gV LCl.no l_ fun a_ l_ => rImm LCl.no 193 a_ fun xs2 => gV LCl.no l_ fun a_ l_ => rRow LCl.no 49 a_ <| gV LCl.no l_ fun a_ l_ => rV LCl.no a_ fun v_ => vI LCl.no .i64 v_ fun a3 => gE LCl.no l_ <| mRow LCl.no 49 true 140 mm_ fun xs4 m_ => gE LCl.no m_ <| gN LCl.no 97 n_ { α := (List (List S142)), o := f108.l3 k k xs2 a3 xs4, w := f108.l3.w }
def f108.step {R : Type} (k : Nat) (ret : ((List (List S142))) → Option R) (xs1 : List (List S225)) : Option R :=
  if (0 : Int) ≤ (((List.length xs1) : Nat) : Int) then
    if (Int.toNat (((List.length xs1) : Nat) : Int)) * 24 ≤ maxN then
      (f108.l3 k k xs1 (0 : Int) (List.replicate (Int.toNat (((List.length xs1) : Nat) : Int)) ([] : List S142))).bind fun t6 => ret t6
    else none
  else none
def f108 (k : Nat) (xs1 : List (List S225)) : Option ((List (List S142))) := f108.step k some xs1
def f108.w {R : Type} : ((List (List S142))) → (Res env → Option R) → Option R := fun t8 K => K ⟨.v (.c (.own true 140 t8)), [[]]⟩
theorem f108.wn (x : ((List (List S142)))) : ∃ res, ∀ {R : Type} (K : Res env → Option R), f108.w x K = K res := by
  exact ⟨_, fun _ => rfl⟩
def f108.hd (k : Nat) (ps_ : List (P2 env)) : Cl env :=
  gC Cl.no ps_ fun p_ ps_ => qC Cl.no p_ fun c_ => qSl Cl.no 193 c_ fun xs1 => gE Cl.no ps_ <| { α := (List (List S142)), o := f108 k xs1, w := f108.w, nat := fun x _ => f108.wn x }
def f108.e (k : Nat) : Entry env := ⟨fun ps => f108.hd k (coer [[.rd 193]] ps), [], []⟩
def f108.X (k : Nat) : Ctx env := { C := lookE [(158, f158.e k)], L := lookE [(3, fun S => f108.l3.hd k S.ts S.m S.n)], J := lookE [], keep := lookD [(3, [0, 3, 4])], keepX := lookD [(3, [3])], span := lookN [(3, 256)], eff := fun n => memN n [], prep := lookP [], np := 0 }
theorem f108.l3.nat {R : Type} (k : Nat) (rec_ : (List (List S225)) → Int → (List (List S142)) → Option ((List (List S142)))) (g : ((List (List S142))) → Option R) (xs2 : List (List S225)) (a3 : Int) (xs4 : List (List S142)) : (f108.l3.step k rec_ some xs2 a3 xs4).bind g = f108.l3.step k (fun xs2 a3 xs4 => (rec_ xs2 a3 xs4).bind g) g xs2 a3 xs4 := by
  simp only [f108.l3.step, bind_ite, bind_sum, Option.bind_assoc, Option.bind_some, Option.bind_none]
theorem f108.l3.good (k : Nat) (xs2 : List (List S225)) (a3 : Int) (xs4 : List (List S142)) : GoodL (f108.X k) (nthC 0 (loopsOf (bodyOf Try.f108))) (f108.l3.st xs2 a3 xs4) { α := ((List (List S142))), o := f108.l3 k k xs2 a3 xs4, w := f108.l3.w } :=
  loop_good (ι := (List (List S225)) × Int × (List (List S142))) (α := ((List (List S142)))) (fun i => f108.l3.st i.1 i.2.1 i.2.2) (fun j i => f108.l3 k j i.1 i.2.1 i.2.2) f108.l3.w (fun rec_ ret i => f108.l3.step k (fun xs2 a3 xs4 => rec_ (xs2, a3, xs4)) ret i.1 i.2.1 i.2.2)
    (fun _ => rfl) (fun _ _ => rfl) (fun rec_ g i => f108.l3.nat k _ g i.1 i.2.1 i.2.2) (fun {R} i0 i rec_ K => by kernel_rfl) k (xs2, a3, xs4)
theorem f108.l3.all (k : Nat) (S : St env) : GoodL (f108.X k) (nthC 0 (loopsOf (bodyOf Try.f108))) S (f108.l3.hd k S.ts S.m S.n) := by
  obtain ⟨ts_, m_, n_⟩ := S
  show GoodL _ _ _ (f108.l3.hd k ts_ m_ n_)
  unfold f108.l3.hd
  refine gTs_ok (p := GoodL _ _ _) goodL_no fun _ h => ?_
  subst h
  refine gV_ok (p := GoodL _ _ _) goodL_no fun _ _ h => ?_
  subst h
  refine rImm_ok (p := GoodL _ _ _) goodL_no fun _ h => ?_
  subst h
  refine gV_ok (p := GoodL _ _ _) goodL_no fun _ _ h => ?_
  subst h
  refine rRow_ok (p := GoodL _ _ _) goodL_no fun h => ?_
  subst h
  refine gV_ok (p := GoodL _ _ _) goodL_no fun _ _ h => ?_
  subst h
  refine rV_ok (p := GoodL _ _ _) goodL_no fun _ h => ?_
  subst h
  refine vI_ok (p := GoodL _ _ _) goodL_no fun _ h => ?_
  subst h
  refine gE_ok (p := GoodL _ _ _) goodL_no fun h => ?_
  subst h
  refine mRow_ok (p := GoodL _ _ _) goodL_no fun _ _ h => ?_
  subst h
  refine gE_ok (p := GoodL _ _ _) goodL_no fun h => ?_
  subst h
  refine gN_ok (p := GoodL _ _ _) goodL_no fun h => ?_
  subst h
  exact f108.l3.good k _ _ _
theorem f108.nat {R : Type} (k : Nat) (g : ((List (List S142))) → Option R) (xs1 : List (List S225)) : f108.step k g xs1 = (f108 k xs1).bind g := by
  simp only [f108, f108.step, bind_ite, bind_sum, Option.bind_assoc, Option.bind_some, Option.bind_none]
theorem f108.ev (k : Nat) (xs1 : List (List S225)) : evF (f108.X k) (bodyOf Try.f108) Try.f108.ntmps Try.f108.results.toList [.v (.c (.sl 193 xs1))] = f108.step k (fun x => f108.w x some) xs1 := by kernel_rfl
theorem f108.hok (k : Nat) : HOK (f108.X k) (bodyOf Try.f108) where
  l := allP_mem (by exact ⟨ls_of (h0 := fun S => f108.l3.hd k S.ts S.m S.n) (by kernel_rfl) (f108.l3.all k), trivial⟩)
  j := allP_mem (by exact trivial)
theorem f108.sound0 (k : Nat) : SoundC env Try.prog 108 (f108.hd k) := by
  intro ps_
  show GoodC _ _ _ ps_ (f108.hd k ps_)
  unfold f108.hd
  refine gC_ok (p := GoodC env Try.prog 108 _) goodC_no fun _ _ h => ?_
  subst h
  refine qC_ok (p := GoodC env Try.prog 108 _) goodC_no fun _ h => ?_
  subst h
  refine qSl_ok (p := GoodC env Try.prog 108 _) goodC_no fun _ h => ?_
  subst h
  refine gE_ok (p := GoodC env Try.prog 108 _) goodC_no fun h => ?_
  subst h
  exact fun_good (fun_sound envOK (cs_sound _ (by exact ⟨⟨f158.sound k, f158.fnok⟩, trivial⟩)) (f108.hok k) Try.func108 rfl) ((f108.ev k _).trans (f108.nat k _ _))
theorem f108.sound (k : Nat) : SoundC env Try.prog 108 (f108.e k).F := soundC_coer (f108.sound0 k) [[.rd 193]]
theorem f108.says (k : Nat) (xs1 : List (List S225)) (t9 : (List (List S142))) (h_ : f108 k xs1 = some t9) : SoundAt env Try.prog 108 [.v (.c (.sl 193 xs1))] ⟨.v (.c (.own true 140 t9)), [[]]⟩ :=
  fun_sound envOK (cs_sound _ (by exact ⟨⟨f158.sound k, f158.fnok⟩, trivial⟩)) (f108.hok k) Try.func108 rfl _ _ (((f108.ev k xs1).trans (f108.nat k _ xs1)).trans (by rw [h_]; rfl))
theorem f108.fnok : FnOK Try.prog 108 := fn_ok Try.func108 (by kernel_rfl) rfl
def f43.step {R : Type} (k : Nat) (ret : ((List S146) × (List (List S142)) × Int) → Option R) (xs1 : List S195) (xs2 : List (List S225)) (a3 : Int) : Option R :=
  (f107 k xs1).bind fun t4 => (f108 k xs2).bind fun t5 => ret (t4, t5, a3)
def f43 (k : Nat) (xs1 : List S195) (xs2 : List (List S225)) (a3 : Int) : Option ((List S146) × (List (List S142)) × Int) := f43.step k some xs1 xs2 a3
def f43.w {R : Type} : ((List S146) × (List (List S142)) × Int) → (Res env → Option R) → Option R := fun t6 K => K ⟨.v (.g [.own true 146 t6.1, .own true 140 t6.2.1, .s (.int .i64 t6.2.2)]), [[]]⟩
theorem f43.wn (x : ((List S146) × (List (List S142)) × Int)) : ∃ res, ∀ {R : Type} (K : Res env → Option R), f43.w x K = K res := by
  exact ⟨_, fun _ => rfl⟩
def f43.hd (k : Nat) (ps_ : List (P2 env)) : Cl env :=
  gC Cl.no ps_ fun p_ ps_ => qG Cl.no p_ fun cs_ => gC Cl.no cs_ fun c_ cs_ => qSl Cl.no 195 c_ fun xs1 => gC Cl.no cs_ fun c_ cs_ => qSl Cl.no 193 c_ fun xs2 => gC Cl.no cs_ fun c_ cs_ => qS Cl.no c_ fun v_ => vI Cl.no .i64 v_ fun a3 => gE Cl.no cs_ <| gE Cl.no ps_ <| { α := (List S146) × (List (List S142)) × Int, o := f43 k xs1 xs2 a3, w := f43.w, nat := fun x _ => f43.wn x }
def f43.e (k : Nat) : Entry env := ⟨fun ps => f43.hd k (coer [[.rd 195, .rd 193, .no]] ps), [], []⟩
def f43.X (k : Nat) : Ctx env := { C := lookE [(107, f107.e k), (108, f108.e k)], L := lookE [], J := lookE [], keep := lookD [], keepX := lookD [], span := lookN [], eff := fun n => memN n [], prep := lookP [], np := 0 }
theorem f43.nat {R : Type} (k : Nat) (g : ((List S146) × (List (List S142)) × Int) → Option R) (xs1 : List S195) (xs2 : List (List S225)) (a3 : Int) : f43.step k g xs1 xs2 a3 = (f43 k xs1 xs2 a3).bind g := by
  simp only [f43, f43.step, bind_ite, bind_sum, Option.bind_assoc, Option.bind_some, Option.bind_none]
theorem f43.ev (k : Nat) (xs1 : List S195) (xs2 : List (List S225)) (a3 : Int) : evF (f43.X k) (bodyOf Try.f43) Try.f43.ntmps Try.f43.results.toList [.g [.sl 195 xs1, .sl 193 xs2, .s (.int .i64 a3)]] = f43.step k (fun x => f43.w x some) xs1 xs2 a3 := by kernel_rfl
theorem f43.hok (k : Nat) : HOK (f43.X k) (bodyOf Try.f43) where
  l := allP_mem (by exact trivial)
  j := allP_mem (by exact trivial)
theorem f43.sound0 (k : Nat) : SoundC env Try.prog 43 (f43.hd k) := by
  intro ps_
  show GoodC _ _ _ ps_ (f43.hd k ps_)
  unfold f43.hd
  refine gC_ok (p := GoodC env Try.prog 43 _) goodC_no fun _ _ h => ?_
  subst h
  refine qG_ok (p := GoodC env Try.prog 43 _) goodC_no fun _ h => ?_
  subst h
  refine gC_ok (p := GoodC env Try.prog 43 _) goodC_no fun _ _ h => ?_
  subst h
  refine qSl_ok (p := GoodC env Try.prog 43 _) goodC_no fun _ h => ?_
  subst h
  refine gC_ok (p := GoodC env Try.prog 43 _) goodC_no fun _ _ h => ?_
  subst h
  refine qSl_ok (p := GoodC env Try.prog 43 _) goodC_no fun _ h => ?_
  subst h
  refine gC_ok (p := GoodC env Try.prog 43 _) goodC_no fun _ _ h => ?_
  subst h
  refine qS_ok (p := GoodC env Try.prog 43 _) goodC_no fun _ h => ?_
  subst h
  refine vI_ok (p := GoodC env Try.prog 43 _) goodC_no fun _ h => ?_
  subst h
  refine gE_ok (p := GoodC env Try.prog 43 _) goodC_no fun h => ?_
  subst h
  refine gE_ok (p := GoodC env Try.prog 43 _) goodC_no fun h => ?_
  subst h
  exact fun_good (fun_sound envOK (cs_sound _ (by exact ⟨⟨f107.sound k, f107.fnok⟩, ⟨f108.sound k, f108.fnok⟩, trivial⟩)) (f43.hok k) Try.func43 rfl) ((f43.ev k _ _ _).trans (f43.nat k _ _ _ _))
theorem f43.sound (k : Nat) : SoundC env Try.prog 43 (f43.e k).F := soundC_coer (f43.sound0 k) [[.rd 195, .rd 193, .no]]
theorem f43.says (k : Nat) (xs1 : List S195) (xs2 : List (List S225)) (a3 : Int) (t7 : (List S146) × (List (List S142)) × Int) (h_ : f43 k xs1 xs2 a3 = some t7) : SoundAt env Try.prog 43 [.g [.sl 195 xs1, .sl 193 xs2, .s (.int .i64 a3)]] ⟨.v (.g [.own true 146 t7.1, .own true 140 t7.2.1, .s (.int .i64 t7.2.2)]), [[]]⟩ :=
  fun_sound envOK (cs_sound _ (by exact ⟨⟨f107.sound k, f107.fnok⟩, ⟨f108.sound k, f108.fnok⟩, trivial⟩)) (f43.hok k) Try.func43 rfl _ _ (((f43.ev k xs1 xs2 a3).trans (f43.nat k _ xs1 xs2 a3)).trans (by rw [h_]; rfl))
theorem f43.fnok : FnOK Try.prog 43 := fn_ok Try.func43 (by kernel_rfl) rfl
def f86.step {R : Type} (k : Nat) (ret : Bool → Option R) (a1 : Int) (a2 : Int) (a3 : Int) : Option R :=
  if (decide (a1 ≥ a2)) = true then
    ret (decide (a1 ≤ a3))
  else
    ret false
def f86 (k : Nat) (a1 : Int) (a2 : Int) (a3 : Int) : Option Bool := f86.step k some a1 a2 a3
def f86.w {R : Type} : Bool → (Res env → Option R) → Option R := fun t4 K => K ⟨.v (.c (.s (.bool t4))), [[], [], []]⟩
theorem f86.wn (x : Bool) : ∃ res, ∀ {R : Type} (K : Res env → Option R), f86.w x K = K res := by
  exact ⟨_, fun _ => rfl⟩
def f86.hd (k : Nat) (ps_ : List (P2 env)) : Cl env :=
  gC Cl.no ps_ fun p_ ps_ => qC Cl.no p_ fun c_ => qS Cl.no c_ fun v_ => vI Cl.no .i64 v_ fun a1 => gC Cl.no ps_ fun p_ ps_ => qC Cl.no p_ fun c_ => qS Cl.no c_ fun v_ => vI Cl.no .i64 v_ fun a2 => gC Cl.no ps_ fun p_ ps_ => qC Cl.no p_ fun c_ => qS Cl.no c_ fun v_ => vI Cl.no .i64 v_ fun a3 => gE Cl.no ps_ <| { α := Bool, o := f86 k a1 a2 a3, w := f86.w, nat := fun x _ => f86.wn x }
def f86.e (k : Nat) : Entry env := ⟨f86.hd k, [], []⟩
def f86.X (k : Nat) : Ctx env := { C := lookE [], L := lookE [], J := lookE [], keep := lookD [], keepX := lookD [], span := lookN [], eff := fun n => memN n [], prep := lookP [], np := 0 }
theorem f86.nat {R : Type} (k : Nat) (g : Bool → Option R) (a1 : Int) (a2 : Int) (a3 : Int) : f86.step k g a1 a2 a3 = (f86 k a1 a2 a3).bind g := by
  simp only [f86, f86.step, bind_ite, bind_sum, Option.bind_assoc, Option.bind_some, Option.bind_none]
theorem f86.ev (k : Nat) (a1 : Int) (a2 : Int) (a3 : Int) : evF (f86.X k) (bodyOf Try.f86) Try.f86.ntmps Try.f86.results.toList [.v (.c (.s (.int .i64 a1))), .v (.c (.s (.int .i64 a2))), .v (.c (.s (.int .i64 a3)))] = f86.step k (fun x => f86.w x some) a1 a2 a3 := by kernel_rfl
theorem f86.hok (k : Nat) : HOK (f86.X k) (bodyOf Try.f86) where
  l := allP_mem (by exact trivial)
  j := allP_mem (by exact trivial)
theorem f86.sound (k : Nat) : SoundC env Try.prog 86 ((f86.e k).F) := by
  intro ps_
  show GoodC _ _ _ ps_ (f86.hd k ps_)
  unfold f86.hd
  refine gC_ok (p := GoodC env Try.prog 86 _) goodC_no fun _ _ h => ?_
  subst h
  refine qC_ok (p := GoodC env Try.prog 86 _) goodC_no fun _ h => ?_
  subst h
  refine qS_ok (p := GoodC env Try.prog 86 _) goodC_no fun _ h => ?_
  subst h
  refine vI_ok (p := GoodC env Try.prog 86 _) goodC_no fun _ h => ?_
  subst h
  refine gC_ok (p := GoodC env Try.prog 86 _) goodC_no fun _ _ h => ?_
  subst h
  refine qC_ok (p := GoodC env Try.prog 86 _) goodC_no fun _ h => ?_
  subst h
  refine qS_ok (p := GoodC env Try.prog 86 _) goodC_no fun _ h => ?_
  subst h
  refine vI_ok (p := GoodC env Try.prog 86 _) goodC_no fun _ h => ?_
  subst h
  refine gC_ok (p := GoodC env Try.prog 86 _) goodC_no fun _ _ h => ?_
  subst h
  refine qC_ok (p := GoodC env Try.prog 86 _) goodC_no fun _ h => ?_
  subst h
  refine qS_ok (p := GoodC env Try.prog 86 _) goodC_no fun _ h => ?_
  subst h
  refine vI_ok (p := GoodC env Try.prog 86 _) goodC_no fun _ h => ?_
  subst h
  refine gE_ok (p := GoodC env Try.prog 86 _) goodC_no fun h => ?_
  subst h
  exact fun_good (fun_sound envOK (cs_sound _ (by exact trivial)) (f86.hok k) Try.func86 rfl) ((f86.ev k _ _ _).trans (f86.nat k _ _ _ _))
theorem f86.says (k : Nat) (a1 : Int) (a2 : Int) (a3 : Int) (t5 : Bool) (h_ : f86 k a1 a2 a3 = some t5) : SoundAt env Try.prog 86 [.v (.c (.s (.int .i64 a1))), .v (.c (.s (.int .i64 a2))), .v (.c (.s (.int .i64 a3)))] ⟨.v (.c (.s (.bool t5))), [[], [], []]⟩ :=
  fun_sound envOK (cs_sound _ (by exact trivial)) (f86.hok k) Try.func86 rfl _ _ (((f86.ev k a1 a2 a3).trans (f86.nat k _ a1 a2 a3)).trans (by rw [h_]; rfl))
theorem f86.fnok : FnOK Try.prog 86 := fn_ok Try.func86 (by kernel_rfl) rfl
def f106.l2.step {R : Type} (k : Nat) (rec_ : (List S146) → Int → Int → Int → Option R) (ret : (Int ⊕ (Unit)) → Option R) (xs4 : List S146) (a5 : Int) (a6 : Int) (a7 : Int) : Option R :=
  if (decide (a7 < (((List.length xs4) : Nat) : Int))) = true then
    if (0 : Int) ≤ a7 then
      if a7 < ((List.length xs4 : Nat) : Int) then
        if (decide ((List.getD xs4 (Int.toNat a7) (⟨(0 : Int), (0 : Int), (0 : Int), false⟩ : S146)).f0 = a5)) = true then
          if (0 : Int) ≤ a7 then
            if a7 < ((List.length xs4 : Nat) : Int) then
              if (decide ((List.getD xs4 (Int.toNat a7) (⟨(0 : Int), (0 : Int), (0 : Int), false⟩ : S146)).f1 = a6)) = false then
                if (0 : Int) ≤ a7 then
                  if a7 < ((List.length xs4 : Nat) : Int) then
                    if (decide ((List.getD xs4 (Int.toNat a7) (⟨(0 : Int), (0 : Int), (0 : Int), false⟩ : S146)).f0 = a6)) = true then
                      if (0 : Int) ≤ a7 then
                        if a7 < ((List.length xs4 : Nat) : Int) then
                          if (decide ((List.getD xs4 (Int.toNat a7) (⟨(0 : Int), (0 : Int), (0 : Int), false⟩ : S146)).f1 = a5)) = true then
                            ret (.inl a7)
                          else
                            rec_ xs4 a5 a6 (IntKind.i64.wrap (a7 + (1 : Int)))
                        else none
                      else none
                    else
                      rec_ xs4 a5 a6 (IntKind.i64.wrap (a7 + (1 : Int)))
                  else none
                else none
              else
                ret (.inl a7)
            else none
          else none
        else
          if (0 : Int) ≤ a7 then
            if a7 < ((List.length xs4 : Nat) : Int) then
              if (decide ((List.getD xs4 (Int.toNat a7) (⟨(0 : Int), (0 : Int), (0 : Int), false⟩ : S146)).f0 = a6)) = true then
                if (0 : Int) ≤ a7 then
                  if a7 < ((List.length xs4 : Nat) : Int) then
                    if (decide ((List.getD xs4 (Int.toNat a7) (⟨(0 : Int), (0 : Int), (0 : Int), false⟩ : S146)).f1 = a5)) = true then
                      ret (.inl a7)
                    else
                      rec_ xs4 a5 a6 (IntKind.i64.wrap (a7 + (1 : Int)))
                  else none
                else none
              else
                rec_ xs4 a5 a6 (IntKind.i64.wrap (a7 + (1 : Int)))
            else none
          else none
      else none
    else none
  else
    ret (.inr ())
def f106.l2 (k : Nat) : Nat → (List S146) → Int → Int → Int → Option (Int ⊕ (Unit))
  | 0, _, _, _, _ => none
  | j + 1, xs4, a5, a6, a7 => f106.l2.step k (fun xs4 a5 a6 a7 => f106.l2 k j xs4 a5 a6 a7) some xs4 a5 a6 a7
def f106.l2.w {R : Type} : (Int ⊕ (Unit)) → (Exit → St env → Option R) → Option R := fun x K => Sum.elim (fun t10 => K .ret ⟨fullT [6] 0 49 [.v (.c (.s (.int .i64 t10)))], [], 723⟩) (fun t11 => K (.exit 0) ⟨fullT [] 0 49 [], [], 723⟩) x
def f106.l2.st (xs4 : List S146) (a5 : Int) (a6 : Int) (a7 : Int) : St env := ⟨fullT [0, 1, 2, 7] 0 49 [.v (.c (.imm 146 xs4)), .v (.c (.s (.int .i64 a5))), .v (.c (.s (.int .i64 a6))), .v (.c (.s (.int .i64 a7)))], [], 35⟩
def f106.l2.hd (k : Nat) (ts_ : List (AV env)) (mm_ : Mem env) (n_ : Nat) : LCl env :=
  gTs LCl.no [0, 1, 2, 7] 49 ts_ fun l_ => gV LCl.no l_ fun a_ l_ => rImm LCl.no 146 a_ fun xs4 => gV LCl.no l_ fun a_ l_ => rV LCl.no a_ fun v_ => vI LCl.no .i64 v_ fun a5 => gV LCl.no l_ fun a_ l_ => rV LCl.no a_ fun v_ => vI LCl.no .i64 v_ fun a6 => gV LCl.no l_ fun a_ l_ => rV LCl.no a_ fun v_ => vI LCl.no .i64 v_ fun a7 => gE LCl.no l_ <| gE LCl.no mm_ <| gN LCl.no 35 n_ { α := Int ⊕ (Unit), o := f106.l2 k k xs4 a5 a6 a7, w := f106.l2.w }
def f106.step {R : Type} (k : Nat) (ret : Int → Option R) (xs1 : List S146) (a2 : Int) (a3 : Int) : Option R :=
  (f106.l2 k k xs1 a2 a3 (0 : Int)).bind (Sum.elim (fun t8 => ret t8) (fun t9 => ret (-1 : Int)))
def f106 (k : Nat) (xs1 : List S146) (a2 : Int) (a3 : Int) : Option Int := f106.step k some xs1 a2 a3
def f106.w {R : Type} : Int → (Res env → Option R) → Option R := fun t12 K => K ⟨.v (.c (.s (.int .i64 t12))), [[], [], []]⟩
theorem f106.wn (x : Int) : ∃ res, ∀ {R : Type} (K : Res env → Option R), f106.w x K = K res := by
  exact ⟨_, fun _ => rfl⟩
def f106.hd (k : Nat) (ps_ : List (P2 env)) : Cl env :=
  gC Cl.no ps_ fun p_ ps_ => qC Cl.no p_ fun c_ => qSl Cl.no 146 c_ fun xs1 => gC Cl.no ps_ fun p_ ps_ => qC Cl.no p_ fun c_ => qS Cl.no c_ fun v_ => vI Cl.no .i64 v_ fun a2 => gC Cl.no ps_ fun p_ ps_ => qC Cl.no p_ fun c_ => qS Cl.no c_ fun v_ => vI Cl.no .i64 v_ fun a3 => gE Cl.no ps_ <| { α := Int, o := f106 k xs1 a2 a3, w := f106.w, nat := fun x _ => f106.wn x }
def f106.e (k : Nat) : Entry env := ⟨fun ps => f106.hd k (coer [[.rd 146], [.no], [.no]] ps), [], []⟩
def f106.X (k : Nat) : Ctx env := { C := lookE [], L := lookE [(2, fun S => f106.l2.hd k S.ts S.m S.n)], J := lookE [], keep := lookD [(2, [0, 1, 2, 7])], keepX := lookD [(2, [6])], span := lookN [(2, 688)], eff := fun n => memN n [], prep := lookP [], np := 0 }
theorem f106.l2.nat {R : Type} (k : Nat) (rec_ : (List S146) → Int → Int → Int → Option (Int ⊕ (Unit))) (g : (Int ⊕ (Unit)) → Option R) (xs4 : List S146) (a5 : Int) (a6 : Int) (a7 : Int) : (f106.l2.step k rec_ some xs4 a5 a6 a7).bind g = f106.l2.step k (fun xs4 a5 a6 a7 => (rec_ xs4 a5 a6 a7).bind g) g xs4 a5 a6 a7 := by
  simp only [f106.l2.step, bind_ite, bind_sum, Option.bind_assoc, Option.bind_some, Option.bind_none]
theorem f106.l2.good (k : Nat) (xs4 : List S146) (a5 : Int) (a6 : Int) (a7 : Int) : GoodL (f106.X k) (nthC 0 (loopsOf (bodyOf Try.f106))) (f106.l2.st xs4 a5 a6 a7) { α := (Int ⊕ (Unit)), o := f106.l2 k k xs4 a5 a6 a7, w := f106.l2.w } :=
  loop_good (ι := (List S146) × Int × Int × Int) (α := (Int ⊕ (Unit))) (fun i => f106.l2.st i.1 i.2.1 i.2.2.1 i.2.2.2) (fun j i => f106.l2 k j i.1 i.2.1 i.2.2.1 i.2.2.2) f106.l2.w (fun rec_ ret i => f106.l2.step k (fun xs4 a5 a6 a7 => rec_ (xs4, a5, a6, a7)) ret i.1 i.2.1 i.2.2.1 i.2.2.2)
    (fun _ => rfl) (fun _ _ => rfl) (fun rec_ g i => f106.l2.nat k _ g i.1 i.2.1 i.2.2.1 i.2.2.2) (fun {R} i0 i rec_ K => by kernel_rfl) k (xs4, a5, a6, a7)
theorem f106.l2.all (k : Nat) (S : St env) : GoodL (f106.X k) (nthC 0 (loopsOf (bodyOf Try.f106))) S (f106.l2.hd k S.ts S.m S.n) := by
  obtain ⟨ts_, m_, n_⟩ := S
  show GoodL _ _ _ (f106.l2.hd k ts_ m_ n_)
  unfold f106.l2.hd
  refine gTs_ok (p := GoodL _ _ _) goodL_no fun _ h => ?_
  subst h
  refine gV_ok (p := GoodL _ _ _) goodL_no fun _ _ h => ?_
  subst h
  refine rImm_ok (p := GoodL _ _ _) goodL_no fun _ h => ?_
  subst h
  refine gV_ok (p := GoodL _ _ _) goodL_no fun _ _ h => ?_
  subst h
  refine rV_ok (p := GoodL _ _ _) goodL_no fun _ h => ?_
  subst h
  refine vI_ok (p := GoodL _ _ _) goodL_no fun _ h => ?_
  subst h
  refine gV_ok (p := GoodL _ _ _) goodL_no fun _ _ h => ?_
  subst h
  refine rV_ok (p := GoodL _ _ _) goodL_no fun _ h => ?_
  subst h
  refine vI_ok (p := GoodL _ _ _) goodL_no fun _ h => ?_
  subst h
  refine gV_ok (p := GoodL _ _ _) goodL_no fun _ _ h => ?_
  subst h
  refine rV_ok (p := GoodL _ _ _) goodL_no fun _ h => ?_
  subst h
  refine vI_ok (p := GoodL _ _ _) goodL_no fun _ h => ?_
  subst h
  refine gE_ok (p := GoodL _ _ _) goodL_no fun h => ?_
  subst h
  refine gE_ok (p := GoodL _ _ _) goodL_no fun h => ?_
  subst h
  refine gN_ok (p := GoodL _ _ _) goodL_no fun h => ?_
  subst h
  exact f106.l2.good k _ _ _ _
theorem f106.nat {R : Type} (k : Nat) (g : Int → Option R) (xs1 : List S146) (a2 : Int) (a3 : Int) : f106.step k g xs1 a2 a3 = (f106 k xs1 a2 a3).bind g := by
  simp only [f106, f106.step, bind_ite, bind_sum, Option.bind_assoc, Option.bind_some, Option.bind_none]
theorem f106.ev (k : Nat) (xs1 : List S146) (a2 : Int) (a3 : Int) : evF (f106.X k) (bodyOf Try.f106) Try.f106.ntmps Try.f106.results.toList [.v (.c (.sl 146 xs1)), .v (.c (.s (.int .i64 a2))), .v (.c (.s (.int .i64 a3)))] = f106.step k (fun x => f106.w x some) xs1 a2 a3 := by kernel_rfl
theorem f106.hok (k : Nat) : HOK (f106.X k) (bodyOf Try.f106) where
  l := allP_mem (by exact ⟨ls_of (h0 := fun S => f106.l2.hd k S.ts S.m S.n) (by kernel_rfl) (f106.l2.all k), trivial⟩)
  j := allP_mem (by exact trivial)
theorem f106.sound0 (k : Nat) : SoundC env Try.prog 106 (f106.hd k) := by
  intro ps_
  show GoodC _ _ _ ps_ (f106.hd k ps_)
  unfold f106.hd
  refine gC_ok (p := GoodC env Try.prog 106 _) goodC_no fun _ _ h => ?_
  subst h
  refine qC_ok (p := GoodC env Try.prog 106 _) goodC_no fun _ h => ?_
  subst h
  refine qSl_ok (p := GoodC env Try.prog 106 _) goodC_no fun _ h => ?_
  subst h
  refine gC_ok (p := GoodC env Try.prog 106 _) goodC_no fun _ _ h => ?_
  subst h
  refine qC_ok (p := GoodC env Try.prog 106 _) goodC_no fun _ h => ?_
  subst h
  refine qS_ok (p := GoodC env Try.prog 106 _) goodC_no fun _ h => ?_
  subst h
  refine vI_ok (p := GoodC env Try.prog 106 _) goodC_no fun _ h => ?_
  subst h
  refine gC_ok (p := GoodC env Try.prog 106 _) goodC_no fun _ _ h => ?_
  subst h
  refine qC_ok (p := GoodC env Try.prog 106 _) goodC_no fun _ h => ?_
  subst h
  refine qS_ok (p := GoodC env Try.prog 106 _) goodC_no fun _ h => ?_
  subst h
  refine vI_ok (p := GoodC env Try.prog 106 _) goodC_no fun _ h => ?_
  subst h
  refine gE_ok (p := GoodC env Try.prog 106 _) goodC_no fun h => ?_
  subst h
  exact fun_good (fun_sound envOK (cs_sound _ (by exact trivial)) (f106.hok k) Try.func106 rfl) ((f106.ev k _ _ _).trans (f106.nat k _ _ _ _))
theorem f106.sound (k : Nat) : SoundC env Try.prog 106 (f106.e k).F := soundC_coer (f106.sound0 k) [[.rd 146], [.no], [.no]]
theorem f106.says (k : Nat) (xs1 : List S146) (a2 : Int) (a3 : Int) (t13 : Int) (h_ : f106 k xs1 a2 a3 = some t13) : SoundAt env Try.prog 106 [.v (.c (.sl 146 xs1)), .v (.c (.s (.int .i64 a2))), .v (.c (.s (.int .i64 a3)))] ⟨.v (.c (.s (.int .i64 t13))), [[], [], []]⟩ :=
  fun_sound envOK (cs_sound _ (by exact trivial)) (f106.hok k) Try.func106 rfl _ _ (((f106.ev k xs1 a2 a3).trans (f106.nat k _ xs1 a2 a3)).trans (by rw [h_]; rfl))
theorem f106.fnok : FnOK Try.prog 106 := fn_ok Try.func106 (by kernel_rfl) rfl
def f104.l4.step {R : Type} (k : Nat) (rec_ : Int → (List S146) → Int → Option R) (ret : (Bool ⊕ (Unit)) → Option R) (a4 : Int) (xs5 : List S146) (a6 : Int) : Option R :=
  if (decide (a6 < (((List.length xs5) : Nat) : Int))) = true then
    if (0 : Int) ≤ a6 then
      if a6 < ((List.length xs5 : Nat) : Int) then
        (f86 k (List.getD xs5 (Int.toNat a6) (⟨(0 : Int), (0 : Int), (0 : Int), false⟩ : S146)).f0 (0 : Int) (IntKind.i64.wrap (a4 - (1 : Int)))).bind fun t7 => if (!t7) = false then
            (f86 k (List.getD xs5 (Int.toNat a6) (⟨(0 : Int), (0 : Int), (0 : Int), false⟩ : S146)).f1 (0 : Int) (IntKind.i64.wrap (a4 - (1 : Int)))).bind fun t8 => if (!t8) = false then
                if (decide ((List.getD xs5 (Int.toNat a6) (⟨(0 : Int), (0 : Int), (0 : Int), false⟩ : S146)).f0 = (List.getD xs5 (Int.toNat a6) (⟨(0 : Int), (0 : Int), (0 : Int), false⟩ : S146)).f1)) = false then
                  (f86 k (List.getD xs5 (Int.toNat a6) (⟨(0 : Int), (0 : Int), (0 : Int), false⟩ : S146)).f2 (1 : Int) (16 : Int)).bind fun t9 => if (!t9) = false then
                      if (0 : Int) ≤ a6 then
                        if a6 ≤ ((List.length xs5 : Nat) : Int) then
                          (f106 k (List.drop 0 (List.take (Int.toNat a6) xs5)) (List.getD xs5 (Int.toNat a6) (⟨(0 : Int), (0 : Int), (0 : Int), false⟩ : S146)).f0 (List.getD xs5 (Int.toNat a6) (⟨(0 : Int), (0 : Int), (0 : Int), false⟩ : S146)).f1).bind fun t10 => if (decide (t10 ≥ (0 : Int))) = true then
                              ret (.inl false)
                            else
                              rec_ a4 xs5 (IntKind.i64.wrap (a6 + (1 : Int)))
                        else none
                      else none
                    else
                      ret (.inl false)
                else
                  ret (.inl false)
              else
                ret (.inl false)
          else
            ret (.inl false)
      else none
    else none
  else
    ret (.inr ())
def f104.l4 (k : Nat) : Nat → Int → (List S146) → Int → Option (Bool ⊕ (Unit))
  | 0, _, _, _ => none
  | j + 1, a4, xs5, a6 => f104.l4.step k (fun a4 xs5 a6 => f104.l4 k j a4 xs5 a6) some a4 xs5 a6
def f104.l4.w {R : Type} : (Bool ⊕ (Unit)) → (Exit → St env → Option R) → Option R := fun x K => Sum.elim (fun t13 => K .ret ⟨fullT [4] 0 63 [.v (.c (.s (.bool t13)))], [], 994⟩) (fun t14 => K (.exit 0) ⟨fullT [] 0 63 [], [], 994⟩) x
def f104.l4.st (a4 : Int) (xs5 : List S146) (a6 : Int) : St env := ⟨fullT [0, 1, 5] 0 63 [.v (.c (.s (.int .i64 a4))), .v (.c (.imm 146 xs5)), .v (.c (.s (.int .i64 a6)))], [], 162⟩
def f104.l4.hd (k : Nat) (ts_ : List (AV env)) (mm_ : Mem env) (n_ : Nat) : LCl env :=
  gTs LCl.no [0, 1, 5] 63 ts_ fun l_ => gV LCl.no l_ fun a_ l_ => rV LCl.no a_ fun v_ => vI LCl.no .i64 v_ fun a4 => gV LCl.no l_ fun a_ l_ => rImm LCl.no 146 a_ fun xs5 => gV LCl.no l_ fun a_ l_ => rV LCl.no a_ fun v_ => vI LCl.no .i64 v_ fun a6 => gE LCl.no l_ <| gE LCl.no mm_ <| gN LCl.no 162 n_ { α := Bool ⊕ (Unit), o := f104.l4 k k a4 xs5 a6, w := f104.l4.w }
def f104.step {R : Type} (k : Nat) (ret : Bool → Option R) (a1 : Int) (xs2 : List S146) : Option R :=
  (f86 k a1 (1 : Int) (5 : Int)).bind fun t3 => if (!t3) = false then
      if (decide ((((List.length xs2) : Nat) : Int) > (8 : Int))) = true then
        ret false
      else
        (f104.l4 k k a1 xs2 (0 : Int)).bind (Sum.elim (fun t11 => ret t11) (fun t12 => ret true))
    else
      ret false
def f104 (k : Nat) (a1 : Int) (xs2 : List S146) : Option Bool := f104.step k some a1 xs2
def f104.w {R : Type} : Bool → (Res env → Option R) → Option R := fun t15 K => K ⟨.v (.c (.s (.bool t15))), [[], []]⟩
theorem f104.wn (x : Bool) : ∃ res, ∀ {R : Type} (K : Res env → Option R), f104.w x K = K res := by
  exact ⟨_, fun _ => rfl⟩
def f104.hd (k : Nat) (ps_ : List (P2 env)) : Cl env :=
  gC Cl.no ps_ fun p_ ps_ => qC Cl.no p_ fun c_ => qS Cl.no c_ fun v_ => vI Cl.no .i64 v_ fun a1 => gC Cl.no ps_ fun p_ ps_ => qC Cl.no p_ fun c_ => qSl Cl.no 146 c_ fun xs2 => gE Cl.no ps_ <| { α := Bool, o := f104 k a1 xs2, w := f104.w, nat := fun x _ => f104.wn x }
def f104.e (k : Nat) : Entry env := ⟨fun ps => f104.hd k (coer [[.no], [.rd 146]] ps), [], []⟩
def f104.X (k : Nat) : Ctx env := { C := lookE [(86, f86.e k), (106, f106.e k)], L := lookE [(4, fun S => f104.l4.hd k S.ts S.m S.n)], J := lookE [], keep := lookD [(4, [0, 1, 5])], keepX := lookD [(4, [4])], span := lookN [(4, 832)], eff := fun n => memN n [], prep := lookP [], np := 0 }
theorem f104.l4.nat {R : Type} (k : Nat) (rec_ : Int → (List S146) → Int → Option (Bool ⊕ (Unit))) (g : (Bool ⊕ (Unit)) → Option R) (a4 : Int) (xs5 : List S146) (a6 : Int) : (f104.l4.step k rec_ some a4 xs5 a6).bind g = f104.l4.step k (fun a4 xs5 a6 => (rec_ a4 xs5 a6).bind g) g a4 xs5 a6 := by
  simp only [f104.l4.step, bind_ite, bind_sum, Option.bind_assoc, Option.bind_some, Option.bind_none]
theorem f104.l4.good (k : Nat) (a4 : Int) (xs5 : List S146) (a6 : Int) : GoodL (f104.X k) (nthC 0 (loopsOf (bodyOf Try.f104))) (f104.l4.st a4 xs5 a6) { α := (Bool ⊕ (Unit)), o := f104.l4 k k a4 xs5 a6, w := f104.l4.w } :=
  loop_good (ι := Int × (List S146) × Int) (α := (Bool ⊕ (Unit))) (fun i => f104.l4.st i.1 i.2.1 i.2.2) (fun j i => f104.l4 k j i.1 i.2.1 i.2.2) f104.l4.w (fun rec_ ret i => f104.l4.step k (fun a4 xs5 a6 => rec_ (a4, xs5, a6)) ret i.1 i.2.1 i.2.2)
    (fun _ => rfl) (fun _ _ => rfl) (fun rec_ g i => f104.l4.nat k _ g i.1 i.2.1 i.2.2) (fun {R} i0 i rec_ K => by kernel_rfl) k (a4, xs5, a6)
theorem f104.l4.all (k : Nat) (S : St env) : GoodL (f104.X k) (nthC 0 (loopsOf (bodyOf Try.f104))) S (f104.l4.hd k S.ts S.m S.n) := by
  obtain ⟨ts_, m_, n_⟩ := S
  show GoodL _ _ _ (f104.l4.hd k ts_ m_ n_)
  unfold f104.l4.hd
  refine gTs_ok (p := GoodL _ _ _) goodL_no fun _ h => ?_
  subst h
  refine gV_ok (p := GoodL _ _ _) goodL_no fun _ _ h => ?_
  subst h
  refine rV_ok (p := GoodL _ _ _) goodL_no fun _ h => ?_
  subst h
  refine vI_ok (p := GoodL _ _ _) goodL_no fun _ h => ?_
  subst h
  refine gV_ok (p := GoodL _ _ _) goodL_no fun _ _ h => ?_
  subst h
  refine rImm_ok (p := GoodL _ _ _) goodL_no fun _ h => ?_
  subst h
  refine gV_ok (p := GoodL _ _ _) goodL_no fun _ _ h => ?_
  subst h
  refine rV_ok (p := GoodL _ _ _) goodL_no fun _ h => ?_
  subst h
  refine vI_ok (p := GoodL _ _ _) goodL_no fun _ h => ?_
  subst h
  refine gE_ok (p := GoodL _ _ _) goodL_no fun h => ?_
  subst h
  refine gE_ok (p := GoodL _ _ _) goodL_no fun h => ?_
  subst h
  refine gN_ok (p := GoodL _ _ _) goodL_no fun h => ?_
  subst h
  exact f104.l4.good k _ _ _
theorem f104.nat {R : Type} (k : Nat) (g : Bool → Option R) (a1 : Int) (xs2 : List S146) : f104.step k g a1 xs2 = (f104 k a1 xs2).bind g := by
  simp only [f104, f104.step, bind_ite, bind_sum, Option.bind_assoc, Option.bind_some, Option.bind_none]
theorem f104.ev (k : Nat) (a1 : Int) (xs2 : List S146) : evF (f104.X k) (bodyOf Try.f104) Try.f104.ntmps Try.f104.results.toList [.v (.c (.s (.int .i64 a1))), .v (.c (.sl 146 xs2))] = f104.step k (fun x => f104.w x some) a1 xs2 := by kernel_rfl
theorem f104.hok (k : Nat) : HOK (f104.X k) (bodyOf Try.f104) where
  l := allP_mem (by exact ⟨ls_of (h0 := fun S => f104.l4.hd k S.ts S.m S.n) (by kernel_rfl) (f104.l4.all k), trivial⟩)
  j := allP_mem (by exact trivial)
theorem f104.sound0 (k : Nat) : SoundC env Try.prog 104 (f104.hd k) := by
  intro ps_
  show GoodC _ _ _ ps_ (f104.hd k ps_)
  unfold f104.hd
  refine gC_ok (p := GoodC env Try.prog 104 _) goodC_no fun _ _ h => ?_
  subst h
  refine qC_ok (p := GoodC env Try.prog 104 _) goodC_no fun _ h => ?_
  subst h
  refine qS_ok (p := GoodC env Try.prog 104 _) goodC_no fun _ h => ?_
  subst h
  refine vI_ok (p := GoodC env Try.prog 104 _) goodC_no fun _ h => ?_
  subst h
  refine gC_ok (p := GoodC env Try.prog 104 _) goodC_no fun _ _ h => ?_
  subst h
  refine qC_ok (p := GoodC env Try.prog 104 _) goodC_no fun _ h => ?_
  subst h
  refine qSl_ok (p := GoodC env Try.prog 104 _) goodC_no fun _ h => ?_
  subst h
  refine gE_ok (p := GoodC env Try.prog 104 _) goodC_no fun h => ?_
  subst h
  exact fun_good (fun_sound envOK (cs_sound _ (by exact ⟨⟨f86.sound k, f86.fnok⟩, ⟨f106.sound k, f106.fnok⟩, trivial⟩)) (f104.hok k) Try.func104 rfl) ((f104.ev k _ _).trans (f104.nat k _ _ _))
theorem f104.sound (k : Nat) : SoundC env Try.prog 104 (f104.e k).F := soundC_coer (f104.sound0 k) [[.no], [.rd 146]]
theorem f104.says (k : Nat) (a1 : Int) (xs2 : List S146) (t16 : Bool) (h_ : f104 k a1 xs2 = some t16) : SoundAt env Try.prog 104 [.v (.c (.s (.int .i64 a1))), .v (.c (.sl 146 xs2))] ⟨.v (.c (.s (.bool t16))), [[], []]⟩ :=
  fun_sound envOK (cs_sound _ (by exact ⟨⟨f86.sound k, f86.fnok⟩, ⟨f106.sound k, f106.fnok⟩, trivial⟩)) (f104.hok k) Try.func104 rfl _ _ (((f104.ev k a1 xs2).trans (f104.nat k _ a1 xs2)).trans (by rw [h_]; rfl))
theorem f104.fnok : FnOK Try.prog 104 := fn_ok Try.func104 (by kernel_rfl) rfl
def f105.step {R : Type} (k : Nat) (ret : (Int × Int × Int) → Option R) (a1 : Int) (a2 : Int) : Option R :=
  if (decide (a1 = a2)) = true then
    ret ((0 : Int), a1, (0 : Int))
  else
    ret ((16 : Int), (-1 : Int), (0 : Int))
def f105 (k : Nat) (a1 : Int) (a2 : Int) : Option (Int × Int × Int) := f105.step k some a1 a2
def f105.w {R : Type} : (Int × Int × Int) → (Res env → Option R) → Option R := fun t3 K => K ⟨.v (.g [.s (.int .i64 t3.1), .s (.int .i64 t3.2.1), .s (.int .i64 t3.2.2)]), [[], []]⟩
theorem f105.wn (x : (Int × Int × Int)) : ∃ res, ∀ {R : Type} (K : Res env → Option R), f105.w x K = K res := by
  exact ⟨_, fun _ => rfl⟩
def f105.hd (k : Nat) (ps_ : List (P2 env)) : Cl env :=
  gC Cl.no ps_ fun p_ ps_ => qC Cl.no p_ fun c_ => qS Cl.no c_ fun v_ => vI Cl.no .i64 v_ fun a1 => gC Cl.no ps_ fun p_ ps_ => qC Cl.no p_ fun c_ => qS Cl.no c_ fun v_ => vI Cl.no .i64 v_ fun a2 => gE Cl.no ps_ <| { α := Int × Int × Int, o := f105 k a1 a2, w := f105.w, nat := fun x _ => f105.wn x }
def f105.e (k : Nat) : Entry env := ⟨f105.hd k, [], []⟩
def f105.X (k : Nat) : Ctx env := { C := lookE [], L := lookE [], J := lookE [], keep := lookD [], keepX := lookD [], span := lookN [], eff := fun n => memN n [], prep := lookP [], np := 0 }
theorem f105.nat {R : Type} (k : Nat) (g : (Int × Int × Int) → Option R) (a1 : Int) (a2 : Int) : f105.step k g a1 a2 = (f105 k a1 a2).bind g := by
  simp only [f105, f105.step, bind_ite, bind_sum, Option.bind_assoc, Option.bind_some, Option.bind_none]
theorem f105.ev (k : Nat) (a1 : Int) (a2 : Int) : evF (f105.X k) (bodyOf Try.f105) Try.f105.ntmps Try.f105.results.toList [.v (.c (.s (.int .i64 a1))), .v (.c (.s (.int .i64 a2)))] = f105.step k (fun x => f105.w x some) a1 a2 := by kernel_rfl
theorem f105.hok (k : Nat) : HOK (f105.X k) (bodyOf Try.f105) where
  l := allP_mem (by exact trivial)
  j := allP_mem (by exact trivial)
theorem f105.sound (k : Nat) : SoundC env Try.prog 105 ((f105.e k).F) := by
  intro ps_
  show GoodC _ _ _ ps_ (f105.hd k ps_)
  unfold f105.hd
  refine gC_ok (p := GoodC env Try.prog 105 _) goodC_no fun _ _ h => ?_
  subst h
  refine qC_ok (p := GoodC env Try.prog 105 _) goodC_no fun _ h => ?_
  subst h
  refine qS_ok (p := GoodC env Try.prog 105 _) goodC_no fun _ h => ?_
  subst h
  refine vI_ok (p := GoodC env Try.prog 105 _) goodC_no fun _ h => ?_
  subst h
  refine gC_ok (p := GoodC env Try.prog 105 _) goodC_no fun _ _ h => ?_
  subst h
  refine qC_ok (p := GoodC env Try.prog 105 _) goodC_no fun _ h => ?_
  subst h
  refine qS_ok (p := GoodC env Try.prog 105 _) goodC_no fun _ h => ?_
  subst h
  refine vI_ok (p := GoodC env Try.prog 105 _) goodC_no fun _ h => ?_
  subst h
  refine gE_ok (p := GoodC env Try.prog 105 _) goodC_no fun h => ?_
  subst h
  exact fun_good (fun_sound envOK (cs_sound _ (by exact trivial)) (f105.hok k) Try.func105 rfl) ((f105.ev k _ _).trans (f105.nat k _ _ _))
theorem f105.says (k : Nat) (a1 : Int) (a2 : Int) (t4 : Int × Int × Int) (h_ : f105 k a1 a2 = some t4) : SoundAt env Try.prog 105 [.v (.c (.s (.int .i64 a1))), .v (.c (.s (.int .i64 a2)))] ⟨.v (.g [.s (.int .i64 t4.1), .s (.int .i64 t4.2.1), .s (.int .i64 t4.2.2)]), [[], []]⟩ :=
  fun_sound envOK (cs_sound _ (by exact trivial)) (f105.hok k) Try.func105 rfl _ _ (((f105.ev k a1 a2).trans (f105.nat k _ a1 a2)).trans (by rw [h_]; rfl))
theorem f105.fnok : FnOK Try.prog 105 := fn_ok Try.func105 (by kernel_rfl) rfl
def f42.l9.step {R : Type} (k : Nat) (rec_ : Int → Int → (List S146) → (List (List S142)) → Int → Option R) (ret : ((Bool × Int × (List S146) × (List (List S142)) × Int) ⊕ (Int × (List S146) × (List (List S142)) × Int)) → Option R) (a9 : Int) (a10 : Int) (xs11 : List S146) (xs12 : List (List S142)) (a13 : Int) : Option R :=
  if (decide (a10 < a13)) = true then
    if (0 : Int) ≤ a9 then
      if a9 < ((List.length xs12 : Nat) : Int) then
        if (0 : Int) ≤ a10 then
          if a10 < ((List.length (List.getD xs12 (Int.toNat a9) []) : Nat) : Int) then
            if (decide (a9 = a10)) = true then
              (f105 k a9 a10).bind fun t14 => if (!(decide ((List.getD (List.getD xs12 (Int.toNat a9) []) (Int.toNat a10) (⟨(0 : Int), (0 : Int), (0 : Int)⟩ : S142)).f0 = t14.1) && (decide ((List.getD (List.getD xs12 (Int.toNat a9) []) (Int.toNat a10) (⟨(0 : Int), (0 : Int), (0 : Int)⟩ : S142)).f1 = t14.2.1) && (decide ((List.getD (List.getD xs12 (Int.toNat a9) []) (Int.toNat a10) (⟨(0 : Int), (0 : Int), (0 : Int)⟩ : S142)).f2 = t14.2.2) && true)))) = true then
                  ret (.inl (false, a9, xs11, xs12, a13))
                else
                  rec_ a9 (IntKind.i64.wrap (a10 + (1 : Int))) xs11 xs12 a13
            else
              (f86 k (List.getD (List.getD xs12 (Int.toNat a9) []) (Int.toNat a10) (⟨(0 : Int), (0 : Int), (0 : Int)⟩ : S142)).f0 (1 : Int) (16 : Int)).bind fun t15 => if (!t15) = false then
                  (f86 k (List.getD (List.getD xs12 (Int.toNat a9) []) (Int.toNat a10) (⟨(0 : Int), (0 : Int), (0 : Int)⟩ : S142)).f2 (0 : Int) (6 : Int)).bind fun t16 => if (!t16) = false then
                      (f86 k (List.getD (List.getD xs12 (Int.toNat a9) []) (Int.toNat a10) (⟨(0 : Int), (0 : Int), (0 : Int)⟩ : S142)).f1 (-1 : Int) (IntKind.i64.wrap (a13 - (1 : Int)))).bind fun t17 => if (!t17) = false then
                          (f105 k a9 a10).bind fun t18 => if (!((decide ((List.getD (List.getD xs12 (Int.toNat a9) []) (Int.toNat a10) (⟨(0 : Int), (0 : Int), (0 : Int)⟩ : S142)).f1 < (0 : Int))) == (decide ((List.getD (List.getD xs12 (Int.toNat a9) []) (Int.toNat a10) (⟨(0 : Int), (0 : Int), (0 : Int)⟩ : S142)).f0 = t18.1) && (decide ((List.getD (List.getD xs12 (Int.toNat a9) []) (Int.toNat a10) (⟨(0 : Int), (0 : Int), (0 : Int)⟩ : S142)).f1 = t18.2.1) && (decide ((List.getD (List.getD xs12 (Int.toNat a9) []) (Int.toNat a10) (⟨(0 : Int), (0 : Int), (0 : Int)⟩ : S142)).f2 = t18.2.2) && true))))) = true then
                              ret (.inl (false, a9, xs11, xs12, a13))
                            else
                              if (decide ((List.getD (List.getD xs12 (Int.toNat a9) []) (Int.toNat a10) (⟨(0 : Int), (0 : Int), (0 : Int)⟩ : S142)).f1 ≥ (0 : Int))) = true then
                                (f106 k xs11 a9 (List.getD (List.getD xs12 (Int.toNat a9) []) (Int.toNat a10) (⟨(0 : Int), (0 : Int), (0 : Int)⟩ : S142)).f1).bind fun t19 => if (decide (t19 < (0 : Int))) = false then
                                    if (decide ((List.getD (List.getD xs12 (Int.toNat a9) []) (Int.toNat a10) (⟨(0 : Int), (0 : Int), (0 : Int)⟩ : S142)).f0 < (16 : Int))) = true then
                                      if (0 : Int) ≤ t19 then
                                        if t19 < ((List.length xs11 : Nat) : Int) then
                                          if (!(List.getD xs11 (Int.toNat t19) (⟨(0 : Int), (0 : Int), (0 : Int), false⟩ : S146)).f3) = true then
                                            ret (.inl (false, a9, xs11, xs12, a13))
                                          else
                                            rec_ a9 (IntKind.i64.wrap (a10 + (1 : Int))) xs11 xs12 a13
                                        else none
                                      else none
                                    else
                                      rec_ a9 (IntKind.i64.wrap (a10 + (1 : Int))) xs11 xs12 a13
                                  else
                                    ret (.inl (false, a9, xs11, xs12, a13))
                              else
                                rec_ a9 (IntKind.i64.wrap (a10 + (1 : Int))) xs11 xs12 a13
                        else
                          ret (.inl (false, a9, xs11, xs12, a13))
                    else
                      ret (.inl (false, a9, xs11, xs12, a13))
                else
                  ret (.inl (false, a9, xs11, xs12, a13))
          else none
        else none
      else none
    else none
  else
    ret (.inr (a9, xs11, xs12, a13))
def f42.l9 (k : Nat) : Nat → Int → Int → (List S146) → (List (List S142)) → Int → Option ((Bool × Int × (List S146) × (List (List S142)) × Int) ⊕ (Int × (List S146) × (List (List S142)) × Int))
  | 0, _, _, _, _, _ => none
  | j + 1, a9, a10, xs11, xs12, a13 => f42.l9.step k (fun a9 a10 xs11 xs12 a13 => f42.l9 k j a9 a10 xs11 xs12 a13) some a9 a10 xs11 xs12 a13
def f42.l9.w {R : Type} : ((Bool × Int × (List S146) × (List (List S142)) × Int) ⊕ (Int × (List S146) × (List (List S142)) × Int)) → (Exit → St env → Option R) → Option R := fun x K => Sum.elim (fun t24 => K .ret ⟨fullT [1, 2, 3] 0 113 [.v (.c (.bp 1 0)), .v (.c (.s (.bool t24.1))), .v (.c (.s (.int .i64 t24.2.1)))], [(1, .box [.imm 146 t24.2.2.1, .imm 140 t24.2.2.2.1, .s (.int .i64 t24.2.2.2.2)])], 1841⟩) (fun t25 => K (.exit 2) ⟨fullT [1, 3] 0 113 [.v (.c (.bp 1 0)), .v (.c (.s (.int .i64 t25.1)))], [(1, .box [.imm 146 t25.2.1, .imm 140 t25.2.2.1, .s (.int .i64 t25.2.2.2)])], 1841⟩) x
def f42.l9.st (a9 : Int) (a10 : Int) (xs11 : List S146) (xs12 : List (List S142)) (a13 : Int) : St env := ⟨fullT [1, 3, 4] 0 113 [.v (.c (.bp 1 0)), .v (.c (.s (.int .i64 a9))), .v (.c (.s (.int .i64 a10)))], [(1, .box [.imm 146 xs11, .imm 140 xs12, .s (.int .i64 a13)])], 497⟩
def f42.l4.step {R : Type} (k : Nat) (rec_ : Int → (List S146) → (List (List S142)) → Int → Option R) (ret : (Bool ⊕ (Unit)) → Option R) (a5 : Int) (xs6 : List S146) (xs7 : List (List S142)) (a8 : Int) : Option R :=
  if (decide (a5 < a8)) = true then
    if (0 : Int) ≤ a5 then
      if a5 < ((List.length xs7 : Nat) : Int) then
        if (decide ((((List.length (List.getD xs7 (Int.toNat a5) [])) : Nat) : Int) ≠ a8)) = true then
          ret (.inl false)
        else
          (f42.l9 k k a5 (0 : Int) xs6 xs7 a8).bind (Sum.elim (fun t20 => ret (.inl t20.1)) (fun t21 => rec_ (IntKind.i64.wrap (t21.1 + (1 : Int))) t21.2.1 t21.2.2.1 t21.2.2.2))
      else none
    else none
  else
    ret (.inr ())
def f42.l4 (k : Nat) : Nat → Int → (List S146) → (List (List S142)) → Int → Option (Bool ⊕ (Unit))
  | 0, _, _, _, _ => none
  | j + 1, a5, xs6, xs7, a8 => f42.l4.step k (fun a5 xs6 xs7 a8 => f42.l4 k j a5 xs6 xs7 a8) some a5 xs6 xs7 a8
def f42.l4.w {R : Type} : (Bool ⊕ (Unit)) → (Exit → St env → Option R) → Option R := fun x K => Sum.elim (fun t26 => K .ret ⟨fullT [2] 0 113 [.v (.c (.s (.bool t26)))], [], 1905⟩) (fun t27 => K (.exit 0) ⟨fullT [] 0 113 [], [], 1905⟩) x
def f42.l4.st (a5 : Int) (xs6 : List S146) (xs7 : List (List S142)) (a8 : Int) : St env := ⟨fullT [1, 3] 0 113 [.v (.c (.bp 1 0)), .v (.c (.s (.int .i64 a5)))], [(1, .box [.imm 146 xs6, .imm 140 xs7, .s (.int .i64 a8)])], 273⟩
def f42.l9.hd (k : Nat) (ts_ : List (AV env)) (mm_ : Mem env) (n_ : Nat) : LCl env :=
  gTs LCl.no [1, 3, 4] 113 ts_ fun l_ => gV LCl.no l_ fun a_ l_ => rBp LCl.no 1 0 a_ <| gV LCl.no l_ fun a_ l_ => rV LCl.no a_ fun v_ => vI LCl.no .i64 v_ fun a9 => gV LCl.no l_ fun a_ l_ => rV LCl.no a_ fun v_ => vI LCl.no .i64 v_ fun a10 => gE LCl.no l_ <| mBox LCl.no 1 mm_ fun c_ m_ => gC LCl.no c_ fun a_ c_ => rImm LCl.no 146 a_ fun xs11 => gC LCl.no c_ fun a_ c_ => rImm LCl.no 140 a_ fun xs12 => gC LCl.no c_ fun a_ c_ => rV LCl.no a_ fun v_ => vI LCl.no .i64 v_ fun a13 => gE LCl.no c_ <| gE LCl.no m_ <| gN LCl.no 497 n_ { α := (Bool × Int × (List S146) × (List (List S142)) × Int) ⊕ (Int × (List S146) × (List (List S142)) × Int), o := f42.l9 k k a9 a10 xs11 xs12 a13, w := f42.l9.w }
def f42.l4.hd (k : Nat) (ts_ : List (AV env)) (mm_ : Mem env) (n_ : Nat) : LCl env :=
  gTs LCl.no [1, 3] 113 ts_ fun l_ => gV LCl.no l_ fun a_ l_ => rBp LCl.no 1 0 a_ <| gV LCl.no l_ fun a_ l_ => rV LCl.no a_ fun v_ => vI LCl.no .i64 v_ fun a5 => gE LCl.no l_ <| mBox LCl.no 1 mm_ fun c_ m_ => gC LCl.no c_ fun a_ c_ => rImm LCl.no 146 a_ fun xs6 => gC LCl.no c_ fun a_ c_ => rImm LCl.no 140 a_ fun xs7 => gC LCl.no c_ fun a_ c_ => rV LCl.no a_ fun v_ => vI LCl.no .i64 v_ fun a8 => gE LCl.no c_ <| gE LCl.no m_ <| gN LCl.no 273 n_ { α := Bool ⊕ (Unit), o := f42.l4 k k a5 xs6 xs7 a8, w := f42.l4.w }
def f42.step {R : Type} (k : Nat) (ret : Bool → Option R) (xs1 : List S146) (xs2 : List (List S142)) (a3 : Int) : Option R :=
  (f104 k a3 xs1).bind fun t4 => if (!t4) = false then
      if (decide ((((List.length xs2) : Nat) : Int) ≠ a3)) = true then
        ret false
      else
        (f42.l4 k k (0 : Int) xs1 xs2 a3).bind (Sum.elim (fun t22 => ret t22) (fun t23 => ret true))
    else
      ret false
def f42 (k : Nat) (xs1 : List S146) (xs2 : List (List S142)) (a3 : Int) : Option Bool := f42.step k some xs1 xs2 a3
def f42.w {R : Type} : Bool → (Res env → Option R) → Option R := fun t28 K => K ⟨.v (.c (.s (.bool t28))), [[]]⟩
theorem f42.wn (x : Bool) : ∃ res, ∀ {R : Type} (K : Res env → Option R), f42.w x K = K res := by
  exact ⟨_, fun _ => rfl⟩
def f42.hd (k : Nat) (ps_ : List (P2 env)) : Cl env :=
  gC Cl.no ps_ fun p_ ps_ => qG Cl.no p_ fun cs_ => gC Cl.no cs_ fun c_ cs_ => qSl Cl.no 146 c_ fun xs1 => gC Cl.no cs_ fun c_ cs_ => qSl Cl.no 140 c_ fun xs2 => gC Cl.no cs_ fun c_ cs_ => qS Cl.no c_ fun v_ => vI Cl.no .i64 v_ fun a3 => gE Cl.no cs_ <| gE Cl.no ps_ <| { α := Bool, o := f42 k xs1 xs2 a3, w := f42.w, nat := fun x _ => f42.wn x }
def f42.e (k : Nat) : Entry env := ⟨fun ps => f42.hd k (coer [[.rd 146, .rd 140, .no]] ps), [], []⟩
def f42.X (k : Nat) : Ctx env := { C := lookE [(86, f86.e k), (104, f104.e k), (105, f105.e k), (106, f106.e k)], L := lookE [(9, fun S => f42.l9.hd k S.ts S.m S.n), (4, fun S => f42.l4.hd k S.ts S.m S.n)], J := lookE [], keep := lookD [(9, [1, 3, 4]), (4, [1, 3])], keepX := lookD [(9, [1, 2, 3]), (4, [2])], span := lookN [(9, 1344), (4, 1632)], eff := fun n => memN n [], prep := lookP [], np := 0 }
theorem f42.l9.nat {R : Type} (k : Nat) (rec_ : Int → Int → (List S146) → (List (List S142)) → Int → Option ((Bool × Int × (List S146) × (List (List S142)) × Int) ⊕ (Int × (List S146) × (List (List S142)) × Int))) (g : ((Bool × Int × (List S146) × (List (List S142)) × Int) ⊕ (Int × (List S146) × (List (List S142)) × Int)) → Option R) (a9 : Int) (a10 : Int) (xs11 : List S146) (xs12 : List (List S142)) (a13 : Int) : (f42.l9.step k rec_ some a9 a10 xs11 xs12 a13).bind g = f42.l9.step k (fun a9 a10 xs11 xs12 a13 => (rec_ a9 a10 xs11 xs12 a13).bind g) g a9 a10 xs11 xs12 a13 := by
  simp only [f42.l9.step, bind_ite, bind_sum, Option.bind_assoc, Option.bind_some, Option.bind_none]
theorem f42.l9.good (k : Nat) (a9 : Int) (a10 : Int) (xs11 : List S146) (xs12 : List (List S142)) (a13 : Int) : GoodL (f42.X k) (nthC 1 (loopsOf (bodyOf Try.f42))) (f42.l9.st a9 a10 xs11 xs12 a13) { α := ((Bool × Int × (List S146) × (List (List S142)) × Int) ⊕ (Int × (List S146) × (List (List S142)) × Int)), o := f42.l9 k k a9 a10 xs11 xs12 a13, w := f42.l9.w } :=
  loop_good (ι := Int × Int × (List S146) × (List (List S142)) × Int) (α := ((Bool × Int × (List S146) × (List (List S142)) × Int) ⊕ (Int × (List S146) × (List (List S142)) × Int))) (fun i => f42.l9.st i.1 i.2.1 i.2.2.1 i.2.2.2.1 i.2.2.2.2) (fun j i => f42.l9 k j i.1 i.2.1 i.2.2.1 i.2.2.2.1 i.2.2.2.2) f42.l9.w (fun rec_ ret i => f42.l9.step k (fun a9 a10 xs11 xs12 a13 => rec_ (a9, a10, xs11, xs12, a13)) ret i.1 i.2.1 i.2.2.1 i.2.2.2.1 i.2.2.2.2)
    (fun _ => rfl) (fun _ _ => rfl) (fun rec_ g i => f42.l9.nat k _ g i.1 i.2.1 i.2.2.1 i.2.2.2.1 i.2.2.2.2) (fun {R} i0 i rec_ K => by kernel_rfl) k (a9, a10, xs11, xs12, a13)
theorem f42.l9.all (k : Nat) (S : St env) : GoodL (f42.X k) (nthC 1 (loopsOf (bodyOf Try.f42))) S (f42.l9.hd k S.ts S.m S.n) := by
  obtain ⟨ts_, m_, n_⟩ := S
  show GoodL _ _ _ (f42.l9.hd k ts_ m_ n_)
  unfold f42.l9.hd
  refine gTs_ok (p := GoodL _ _ _) goodL_no fun _ h => ?_
  subst h
  refine gV_ok (p := GoodL _ _ _) goodL_no fun _ _ h => ?_
  subst h
  refine rBp_ok (p := GoodL _ _ _) goodL_no fun h => ?_
  subst h
  refine gV_ok (p := GoodL _ _ _) goodL_no fun _ _ h => ?_
  subst h
  refine rV_ok (p := GoodL _ _ _) goodL_no fun _ h => ?_
  subst h
  refine vI_ok (p := GoodL _ _ _) goodL_no fun _ h => ?_
  subst h
  refine gV_ok (p := GoodL _ _ _) goodL_no fun _ _ h => ?_
  subst h
  refine rV_ok (p := GoodL _ _ _) goodL_no fun _ h => ?_
  subst h
  refine vI_ok (p := GoodL _ _ _) goodL_no fun _ h => ?_
  subst h
  refine gE_ok (p := GoodL _ _ _) goodL_no fun h => ?_
  subst h
  refine mBox_ok (p := GoodL _ _ _) goodL_no fun _ _ h => ?_
  subst h
  refine gC_ok (p := GoodL _ _ _) goodL_no fun _ _ h => ?_
  subst h
  refine rImm_ok (p := GoodL _ _ _) goodL_no fun _ h => ?_
  subst h
  refine gC_ok (p := GoodL _ _ _) goodL_no fun _ _ h => ?_
  subst h
  refine rImm_ok (p := GoodL _ _ _) goodL_no fun _ h => ?_
  subst h
  refine gC_ok (p := GoodL _ _ _) goodL_no fun _ _ h => ?_
  subst h
  refine rV_ok (p := GoodL _ _ _) goodL_no fun _ h => ?_
  subst h
  refine vI_ok (p := GoodL _ _ _) goodL_no fun _ h => ?_
  subst h
  refine gE_ok (p := GoodL _ _ _) goodL_no fun h => ?_
  subst h
  refine gE_ok (p := GoodL _ _ _) goodL_no fun h => ?_
  subst h
  refine gN_ok (p := GoodL _ _ _) goodL_no fun h => ?_
  subst h
  exact f42.l9.good k _ _ _ _ _
theorem f42.l4.nat {R : Type} (k : Nat) (rec_ : Int → (List S146) → (List (List S142)) → Int → Option (Bool ⊕ (Unit))) (g : (Bool ⊕ (Unit)) → Option R) (a5 : Int) (xs6 : List S146) (xs7 : List (List S142)) (a8 : Int) : (f42.l4.step k rec_ some a5 xs6 xs7 a8).bind g = f42.l4.step k (fun a5 xs6 xs7 a8 => (rec_ a5 xs6 xs7 a8).bind g) g a5 xs6 xs7 a8 := by
  simp only [f42.l4.step, bind_ite, bind_sum, Option.bind_assoc, Option.bind_some, Option.bind_none]
theorem f42.l4.good (k : Nat) (a5 : Int) (xs6 : List S146) (xs7 : List (List S142)) (a8 : Int) : GoodL (f42.X k) (nthC 0 (loopsOf (bodyOf Try.f42))) (f42.l4.st a5 xs6 xs7 a8) { α := (Bool ⊕ (Unit)), o := f42.l4 k k a5 xs6 xs7 a8, w := f42.l4.w } :=
  loop_good (ι := Int × (List S146) × (List (List S142)) × Int) (α := (Bool ⊕ (Unit))) (fun i => f42.l4.st i.1 i.2.1 i.2.2.1 i.2.2.2) (fun j i => f42.l4 k j i.1 i.2.1 i.2.2.1 i.2.2.2) f42.l4.w (fun rec_ ret i => f42.l4.step k (fun a5 xs6 xs7 a8 => rec_ (a5, xs6, xs7, a8)) ret i.1 i.2.1 i.2.2.1 i.2.2.2)
    (fun _ => rfl) (fun _ _ => rfl) (fun rec_ g i => f42.l4.nat k _ g i.1 i.2.1 i.2.2.1 i.2.2.2) (fun {R} i0 i rec_ K => by kernel_rfl) k (a5, xs6, xs7, a8)
theorem f42.l4.all (k : Nat) (S : St env) : GoodL (f42.X k) (nthC 0 (loopsOf (bodyOf Try.f42))) S (f42.l4.hd k S.ts S.m S.n) := by
  obtain ⟨ts_, m_, n_⟩ := S
  show GoodL _ _ _ (f42.l4.hd k ts_ m_ n_)
  unfold f42.l4.hd
  refine gTs_ok (p := GoodL _ _ _) goodL_no fun _ h => ?_
  subst h
  refine gV_ok (p := GoodL _ _ _) goodL_no fun _ _ h => ?_
  subst h
  refine rBp_ok (p := GoodL _ _ _) goodL_no fun h => ?_
  subst h
  refine gV_ok (p := GoodL _ _ _) goodL_no fun _ _ h => ?_
  subst h
  refine rV_ok (p := GoodL _ _ _) goodL_no fun _ h => ?_
  subst h
  refine vI_ok (p := GoodL _ _ _) goodL_no fun _ h => ?_
  subst h
  refine gE_ok (p := GoodL _ _ _) goodL_no fun h => ?_
  subst h
  refine mBox_ok (p := GoodL _ _ _) goodL_no fun _ _ h => ?_
  subst h
  refine gC_ok (p := GoodL _ _ _) goodL_no fun _ _ h => ?_
  subst h
  refine rImm_ok (p := GoodL _ _ _) goodL_no fun _ h => ?_
  subst h
  refine gC_ok (p := GoodL _ _ _) goodL_no fun _ _ h => ?_
  subst h
  refine rImm_ok (p := GoodL _ _ _) goodL_no fun _ h => ?_
  subst h
  refine gC_ok (p := GoodL _ _ _) goodL_no fun _ _ h => ?_
  subst h
  refine rV_ok (p := GoodL _ _ _) goodL_no fun _ h => ?_
  subst h
  refine vI_ok (p := GoodL _ _ _) goodL_no fun _ h => ?_
  subst h
  refine gE_ok (p := GoodL _ _ _) goodL_no fun h => ?_
  subst h
  refine gE_ok (p := GoodL _ _ _) goodL_no fun h => ?_
  subst h
  refine gN_ok (p := GoodL _ _ _) goodL_no fun h => ?_
  subst h
  exact f42.l4.good k _ _ _ _
theorem f42.nat {R : Type} (k : Nat) (g : Bool → Option R) (xs1 : List S146) (xs2 : List (List S142)) (a3 : Int) : f42.step k g xs1 xs2 a3 = (f42 k xs1 xs2 a3).bind g := by
  simp only [f42, f42.step, bind_ite, bind_sum, Option.bind_assoc, Option.bind_some, Option.bind_none]
theorem f42.ev (k : Nat) (xs1 : List S146) (xs2 : List (List S142)) (a3 : Int) : evF (f42.X k) (bodyOf Try.f42) Try.f42.ntmps Try.f42.results.toList [.g [.sl 146 xs1, .sl 140 xs2, .s (.int .i64 a3)]] = f42.step k (fun x => f42.w x some) xs1 xs2 a3 := by kernel_rfl
theorem f42.hok (k : Nat) : HOK (f42.X k) (bodyOf Try.f42) where
  l := allP_mem (by exact ⟨ls_of (h0 := fun S => f42.l4.hd k S.ts S.m S.n) (by kernel_rfl) (f42.l4.all k), ls_of (h0 := fun S => f42.l9.hd k S.ts S.m S.n) (by kernel_rfl) (f42.l9.all k), trivial⟩)
  j := allP_mem (by exact trivial)
theorem f42.sound0 (k : Nat) : SoundC env Try.prog 42 (f42.hd k) := by
  intro ps_
  show GoodC _ _ _ ps_ (f42.hd k ps_)
  unfold f42.hd
  refine gC_ok (p := GoodC env Try.prog 42 _) goodC_no fun _ _ h => ?_
  subst h
  refine qG_ok (p := GoodC env Try.prog 42 _) goodC_no fun _ h => ?_
  subst h
  refine gC_ok (p := GoodC env Try.prog 42 _) goodC_no fun _ _ h => ?_
  subst h
  refine qSl_ok (p := GoodC env Try.prog 42 _) goodC_no fun _ h => ?_
  subst h
  refine gC_ok (p := GoodC env Try.prog 42 _) goodC_no fun _ _ h => ?_
  subst h
  refine qSl_ok (p := GoodC env Try.prog 42 _) goodC_no fun _ h => ?_
  subst h
  refine gC_ok (p := GoodC env Try.prog 42 _) goodC_no fun _ _ h => ?_
  subst h
  refine qS_ok (p := GoodC env Try.prog 42 _) goodC_no fun _ h => ?_
  subst h
  refine vI_ok (p := GoodC env Try.prog 42 _) goodC_no fun _ h => ?_
  subst h
  refine gE_ok (p := GoodC env Try.prog 42 _) goodC_no fun h => ?_
  subst h
  refine gE_ok (p := GoodC env Try.prog 42 _) goodC_no fun h => ?_
  subst h
  exact fun_good (fun_sound envOK (cs_sound _ (by exact ⟨⟨f86.sound k, f86.fnok⟩, ⟨f104.sound k, f104.fnok⟩, ⟨f105.sound k, f105.fnok⟩, ⟨f106.sound k, f106.fnok⟩, trivial⟩)) (f42.hok k) Try.func42 rfl) ((f42.ev k _ _ _).trans (f42.nat k _ _ _ _))
theorem f42.sound (k : Nat) : SoundC env Try.prog 42 (f42.e k).F := soundC_coer (f42.sound0 k) [[.rd 146, .rd 140, .no]]
theorem f42.says (k : Nat) (xs1 : List S146) (xs2 : List (List S142)) (a3 : Int) (t29 : Bool) (h_ : f42 k xs1 xs2 a3 = some t29) : SoundAt env Try.prog 42 [.g [.sl 146 xs1, .sl 140 xs2, .s (.int .i64 a3)]] ⟨.v (.c (.s (.bool t29))), [[]]⟩ :=
  fun_sound envOK (cs_sound _ (by exact ⟨⟨f86.sound k, f86.fnok⟩, ⟨f104.sound k, f104.fnok⟩, ⟨f105.sound k, f105.fnok⟩, ⟨f106.sound k, f106.fnok⟩, trivial⟩)) (f42.hok k) Try.func42 rfl _ _ (((f42.ev k xs1 xs2 a3).trans (f42.nat k _ xs1 xs2 a3)).trans (by rw [h_]; rfl))
theorem f42.fnok : FnOK Try.prog 42 := fn_ok Try.func42 (by kernel_rfl) rfl
def f138.l7.step {R : Type} (k : Nat) (rec_ : Int → Int → (List S146) → (List (List S142)) → Int → (List (List Int)) → (List Int) → Option R) (ret : (Int × (List S146) × (List (List S142)) × Int × (List (List Int)) × (List Int)) → Option R) (a9 : Int) (a10 : Int) (xs11 : List S146) (xs12 : List (List S142)) (a13 : Int) (xs14 : List (List Int)) (xs15 : List Int) : Option R :=
  if (decide (a10 < a13)) = true then
    (f105 k a9 a10).bind fun t16 => if (List.length xs15 + List.length ([t16.1] : List Int)) * 8 ≤ maxN then
        rec_ a9 (IntKind.i64.wrap (a10 + (1 : Int))) xs11 xs12 a13 xs14 (xs15 ++ ([t16.1] : List Int))
      else none
  else
    ret (a9, xs11, xs12, a13, xs14, xs15)
def f138.l7 (k : Nat) : Nat → Int → Int → (List S146) → (List (List S142)) → Int → (List (List Int)) → (List Int) → Option (Int × (List S146) × (List (List S142)) × Int × (List (List Int)) × (List Int))
  | 0, _, _, _, _, _, _, _ => none
  | j + 1, a9, a10, xs11, xs12, a13, xs14, xs15 => f138.l7.step k (fun a9 a10 xs11 xs12 a13 xs14 xs15 => f138.l7 k j a9 a10 xs11 xs12 a13 xs14 xs15) some a9 a10 xs11 xs12 a13 xs14 xs15
def f138.l7.w {R : Type} : (Int × (List S146) × (List (List S142)) × Int × (List (List Int)) × (List Int)) → (Exit → St env → Option R) → Option R := fun t44 K => K (.exit 2) ⟨fullT [1, 3, 4, 5] 0 119 [.v (.c (.bp 1 0)), .v (.c (.row 33)), .v (.c (.s (.int .i64 t44.1))), .v (.c (.row 145))], [(1, .box [.imm 146 t44.2.1, .imm 140 t44.2.2.1, .s (.int .i64 t44.2.2.2.1)]), (33, .row true 33 t44.2.2.2.2.1), (145, .row true 3 t44.2.2.2.2.2)], 433⟩
def f138.l7.st (a9 : Int) (a10 : Int) (xs11 : List S146) (xs12 : List (List S142)) (a13 : Int) (xs14 : List (List Int)) (xs15 : List Int) : St env := ⟨fullT [1, 3, 4, 5, 6] 0 119 [.v (.c (.bp 1 0)), .v (.c (.row 33)), .v (.c (.s (.int .i64 a9))), .v (.c (.row 145)), .v (.c (.s (.int .i64 a10)))], [(1, .box [.imm 146 xs11, .imm 140 xs12, .s (.int .i64 a13)]), (33, .row true 33 xs14), (145, .row true 3 xs15)], 193⟩
def f138.l3.step {R : Type} (k : Nat) (rec_ : Int → (List S146) → (List (List S142)) → Int → (List (List Int)) → Option R) (ret : ((List S146) × (List (List S142)) × Int × (List (List Int))) → Option R) (a4 : Int) (xs5 : List S146) (xs6 : List (List S142)) (a7 : Int) (xs8 : List (List Int)) : Option R :=
  if (decide (a4 < a7)) = true then
    (f138.l7 k k a4 (0 : Int) xs5 xs6 a7 xs8 ([] : List Int)).bind fun t17 => if (List.length t17.2.2.2.2.1 + List.length ([t17.2.2.2.2.2] : List (List Int))) * 24 ≤ maxN then
        rec_ (IntKind.i64.wrap (t17.1 + (1 : Int))) t17.2.1 t17.2.2.1 t17.2.2.2.1 (t17.2.2.2.2.1 ++ ([t17.2.2.2.2.2] : List (List Int)))
      else none
  else
    ret (xs5, xs6, a7, xs8)
def f138.l3 (k : Nat) : Nat → Int → (List S146) → (List (List S142)) → Int → (List (List Int)) → Option ((List S146) × (List (List S142)) × Int × (List (List Int)))
  | 0, _, _, _, _, _ => none
  | j + 1, a4, xs5, xs6, a7, xs8 => f138.l3.step k (fun a4 xs5 xs6 a7 xs8 => f138.l3 k j a4 xs5 xs6 a7 xs8) some a4 xs5 xs6 a7 xs8
def f138.l3.w {R : Type} : ((List S146) × (List (List S142)) × Int × (List (List Int))) → (Exit → St env → Option R) → Option R := fun t45 K => K (.exit 0) ⟨fullT [1, 3] 0 119 [.v (.c (.bp 1 0)), .v (.c (.row 33))], [(1, .box [.imm 146 t45.1, .imm 140 t45.2.1, .s (.int .i64 t45.2.2.1)]), (33, .row true 33 t45.2.2.2)], 561⟩
def f138.l3.st (a4 : Int) (xs5 : List S146) (xs6 : List (List S142)) (a7 : Int) (xs8 : List (List Int)) : St env := ⟨fullT [1, 3, 4] 0 119 [.v (.c (.bp 1 0)), .v (.c (.row 33)), .v (.c (.s (.int .i64 a4)))], [(1, .box [.imm 146 xs5, .imm 140 xs6, .s (.int .i64 a7)]), (33, .row true 33 xs8)], 81⟩
def f138.l19.step {R : Type} (k : Nat) (rec_ : Int → Int → Int → (List S146) → (List (List S142)) → Int → (List (List Int)) → Int → Int → Int → Bool → Option R) (ret : (Int × Int × (List S146) × (List (List S142)) × Int × (List (List Int))) → Option R) (a30 : Int) (a31 : Int) (a32 : Int) (xs33 : List S146) (xs34 : List (List S142)) (a35 : Int) (xs36 : List (List Int)) (a37 : Int) (a38 : Int) (a39 : Int) (b40 : Bool) : Option R :=
  if b40 = true then
    if (decide (a32 < a35)) = true then
      if (0 : Int) ≤ a37 then
        if a37 < ((List.length xs36 : Nat) : Int) then
          if (0 : Int) ≤ a37 then
            if a37 < ((List.length xs36 : Nat) : Int) then
              if (0 : Int) ≤ a32 then
                if a32 < ((List.length (List.getD xs36 (Int.toNat a37) []) : Nat) : Int) then
                  if (Int.toNat a32) < List.length (List.getD xs36 (Int.toNat a37) []) then
                    if (0 : Int) ≤ a38 then
                      if a38 < ((List.length xs36 : Nat) : Int) then
                        if (0 : Int) ≤ a32 then
                          if a32 < ((List.length (List.getD xs36 (Int.toNat a38) []) : Nat) : Int) then
                            if (Int.toNat a32) < List.length (List.getD xs36 (Int.toNat a38) []) then
                              if (0 : Int) ≤ a32 then
                                if a32 < ((List.length (List.getD xs36 (Int.toNat a37) []) : Nat) : Int) then
                                  if (Int.toNat a32) < List.length (List.getD xs36 (Int.toNat a37) []) then
                                    if (0 : Int) ≤ a38 then
                                      if a38 < ((List.length (List.set xs36 (Int.toNat a37) (List.set (List.getD xs36 (Int.toNat a37) []) (Int.toNat a32) (if (IntKind.i64.wrap ((List.getD (List.getD xs36 (Int.toNat a38) []) (Int.toNat a32) (0 : Int)) + a39)) < (List.getD (List.getD xs36 (Int.toNat a37) []) (Int.toNat a32) (0 : Int)) then (IntKind.i64.wrap ((List.getD (List.getD xs36 (Int.toNat a38) []) (Int.toNat a32) (0 : Int)) + a39)) else (List.getD (List.getD xs36 (Int.toNat a37) []) (Int.toNat a32) (0 : Int))))) : Nat) : Int) then
                                        if (0 : Int) ≤ a38 then
                                          if a38 < ((List.length (List.set xs36 (Int.toNat a37) (List.set (List.getD xs36 (Int.toNat a37) []) (Int.toNat a32) (if (IntKind.i64.wrap ((List.getD (List.getD xs36 (Int.toNat a38) []) (Int.toNat a32) (0 : Int)) + a39)) < (List.getD (List.getD xs36 (Int.toNat a37) []) (Int.toNat a32) (0 : Int)) then (IntKind.i64.wrap ((List.getD (List.getD xs36 (Int.toNat a38) []) (Int.toNat a32) (0 : Int)) + a39)) else (List.getD (List.getD xs36 (Int.toNat a37) []) (Int.toNat a32) (0 : Int))))) : Nat) : Int) then
                                            if (0 : Int) ≤ a32 then
                                              if a32 < ((List.length (List.getD (List.set xs36 (Int.toNat a37) (List.set (List.getD xs36 (Int.toNat a37) []) (Int.toNat a32) (if (IntKind.i64.wrap ((List.getD (List.getD xs36 (Int.toNat a38) []) (Int.toNat a32) (0 : Int)) + a39)) < (List.getD (List.getD xs36 (Int.toNat a37) []) (Int.toNat a32) (0 : Int)) then (IntKind.i64.wrap ((List.getD (List.getD xs36 (Int.toNat a38) []) (Int.toNat a32) (0 : Int)) + a39)) else (List.getD (List.getD xs36 (Int.toNat a37) []) (Int.toNat a32) (0 : Int))))) (Int.toNat a38) []) : Nat) : Int) then
                                                if (Int.toNat a32) < List.length (List.getD (List.set xs36 (Int.toNat a37) (List.set (List.getD xs36 (Int.toNat a37) []) (Int.toNat a32) (if (IntKind.i64.wrap ((List.getD (List.getD xs36 (Int.toNat a38) []) (Int.toNat a32) (0 : Int)) + a39)) < (List.getD (List.getD xs36 (Int.toNat a37) []) (Int.toNat a32) (0 : Int)) then (IntKind.i64.wrap ((List.getD (List.getD xs36 (Int.toNat a38) []) (Int.toNat a32) (0 : Int)) + a39)) else (List.getD (List.getD xs36 (Int.toNat a37) []) (Int.toNat a32) (0 : Int))))) (Int.toNat a38) []) then
                                                  if (0 : Int) ≤ a37 then
                                                    if a37 < ((List.length (List.set xs36 (Int.toNat a37) (List.set (List.getD xs36 (Int.toNat a37) []) (Int.toNat a32) (if (IntKind.i64.wrap ((List.getD (List.getD xs36 (Int.toNat a38) []) (Int.toNat a32) (0 : Int)) + a39)) < (List.getD (List.getD xs36 (Int.toNat a37) []) (Int.toNat a32) (0 : Int)) then (IntKind.i64.wrap ((List.getD (List.getD xs36 (Int.toNat a38) []) (Int.toNat a32) (0 : Int)) + a39)) else (List.getD (List.getD xs36 (Int.toNat a37) []) (Int.toNat a32) (0 : Int))))) : Nat) : Int) then
                                                      if (0 : Int) ≤ a32 then
                                                        if a32 < ((List.length (List.getD (List.set xs36 (Int.toNat a37) (List.set (List.getD xs36 (Int.toNat a37) []) (Int.toNat a32) (if (IntKind.i64.wrap ((List.getD (List.getD xs36 (Int.toNat a38) []) (Int.toNat a32) (0 : Int)) + a39)) < (List.getD (List.getD xs36 (Int.toNat a37) []) (Int.toNat a32) (0 : Int)) then (IntKind.i64.wrap ((List.getD (List.getD xs36 (Int.toNat a38) []) (Int.toNat a32) (0 : Int)) + a39)) else (List.getD (List.getD xs36 (Int.toNat a37) []) (Int.toNat a32) (0 : Int))))) (Int.toNat a37) []) : Nat) : Int) then
                                                          if (Int.toNat a32) < List.length (List.getD (List.set xs36 (Int.toNat a37) (List.set (List.getD xs36 (Int.toNat a37) []) (Int.toNat a32) (if (IntKind.i64.wrap ((List.getD (List.getD xs36 (Int.toNat a38) []) (Int.toNat a32) (0 : Int)) + a39)) < (List.getD (List.getD xs36 (Int.toNat a37) []) (Int.toNat a32) (0 : Int)) then (IntKind.i64.wrap ((List.getD (List.getD xs36 (Int.toNat a38) []) (Int.toNat a32) (0 : Int)) + a39)) else (List.getD (List.getD xs36 (Int.toNat a37) []) (Int.toNat a32) (0 : Int))))) (Int.toNat a37) []) then
                                                            if (0 : Int) ≤ a32 then
                                                              if a32 < ((List.length (List.getD (List.set xs36 (Int.toNat a37) (List.set (List.getD xs36 (Int.toNat a37) []) (Int.toNat a32) (if (IntKind.i64.wrap ((List.getD (List.getD xs36 (Int.toNat a38) []) (Int.toNat a32) (0 : Int)) + a39)) < (List.getD (List.getD xs36 (Int.toNat a37) []) (Int.toNat a32) (0 : Int)) then (IntKind.i64.wrap ((List.getD (List.getD xs36 (Int.toNat a38) []) (Int.toNat a32) (0 : Int)) + a39)) else (List.getD (List.getD xs36 (Int.toNat a37) []) (Int.toNat a32) (0 : Int))))) (Int.toNat a38) []) : Nat) : Int) then
                                                                if (Int.toNat a32) < List.length (List.getD (List.set xs36 (Int.toNat a37) (List.set (List.getD xs36 (Int.toNat a37) []) (Int.toNat a32) (if (IntKind.i64.wrap ((List.getD (List.getD xs36 (Int.toNat a38) []) (Int.toNat a32) (0 : Int)) + a39)) < (List.getD (List.getD xs36 (Int.toNat a37) []) (Int.toNat a32) (0 : Int)) then (IntKind.i64.wrap ((List.getD (List.getD xs36 (Int.toNat a38) []) (Int.toNat a32) (0 : Int)) + a39)) else (List.getD (List.getD xs36 (Int.toNat a37) []) (Int.toNat a32) (0 : Int))))) (Int.toNat a38) []) then
                                                                  rec_ a30 a31 (IntKind.i64.wrap (a32 + (1 : Int))) xs33 xs34 a35 (List.set (List.set xs36 (Int.toNat a37) (List.set (List.getD xs36 (Int.toNat a37) []) (Int.toNat a32) (if (IntKind.i64.wrap ((List.getD (List.getD xs36 (Int.toNat a38) []) (Int.toNat a32) (0 : Int)) + a39)) < (List.getD (List.getD xs36 (Int.toNat a37) []) (Int.toNat a32) (0 : Int)) then (IntKind.i64.wrap ((List.getD (List.getD xs36 (Int.toNat a38) []) (Int.toNat a32) (0 : Int)) + a39)) else (List.getD (List.getD xs36 (Int.toNat a37) []) (Int.toNat a32) (0 : Int))))) (Int.toNat a38) (List.set (List.getD (List.set xs36 (Int.toNat a37) (List.set (List.getD xs36 (Int.toNat a37) []) (Int.toNat a32) (if (IntKind.i64.wrap ((List.getD (List.getD xs36 (Int.toNat a38) []) (Int.toNat a32) (0 : Int)) + a39)) < (List.getD (List.getD xs36 (Int.toNat a37) []) (Int.toNat a32) (0 : Int)) then (IntKind.i64.wrap ((List.getD (List.getD xs36 (Int.toNat a38) []) (Int.toNat a32) (0 : Int)) + a39)) else (List.getD (List.getD xs36 (Int.toNat a37) []) (Int.toNat a32) (0 : Int))))) (Int.toNat a38) []) (Int.toNat a32) (if (IntKind.i64.wrap ((List.getD (List.getD (List.set xs36 (Int.toNat a37) (List.set (List.getD xs36 (Int.toNat a37) []) (Int.toNat a32) (if (IntKind.i64.wrap ((List.getD (List.getD xs36 (Int.toNat a38) []) (Int.toNat a32) (0 : Int)) + a39)) < (List.getD (List.getD xs36 (Int.toNat a37) []) (Int.toNat a32) (0 : Int)) then (IntKind.i64.wrap ((List.getD (List.getD xs36 (Int.toNat a38) []) (Int.toNat a32) (0 : Int)) + a39)) else (List.getD (List.getD xs36 (Int.toNat a37) []) (Int.toNat a32) (0 : Int))))) (Int.toNat a37) []) (Int.toNat a32) (0 : Int)) + a39)) < (List.getD (List.getD (List.set xs36 (Int.toNat a37) (List.set (List.getD xs36 (Int.toNat a37) []) (Int.toNat a32) (if (IntKind.i64.wrap ((List.getD (List.getD xs36 (Int.toNat a38) []) (Int.toNat a32) (0 : Int)) + a39)) < (List.getD (List.getD xs36 (Int.toNat a37) []) (Int.toNat a32) (0 : Int)) then (IntKind.i64.wrap ((List.getD (List.getD xs36 (Int.toNat a38) []) (Int.toNat a32) (0 : Int)) + a39)) else (List.getD (List.getD xs36 (Int.toNat a37) []) (Int.toNat a32) (0 : Int))))) (Int.toNat a38) []) (Int.toNat a32) (0 : Int)) then (IntKind.i64.wrap ((List.getD (List.getD (List.set xs36 (Int.toNat a37) (List.set (List.getD xs36 (Int.toNat a37) []) (Int.toNat a32) (if (IntKind.i64.wrap ((List.getD (List.getD xs36 (Int.toNat a38) []) (Int.toNat a32) (0 : Int)) + a39)) < (List.getD (List.getD xs36 (Int.toNat a37) []) (Int.toNat a32) (0 : Int)) then (IntKind.i64.wrap ((List.getD (List.getD xs36 (Int.toNat a38) []) (Int.toNat a32) (0 : Int)) + a39)) else (List.getD (List.getD xs36 (Int.toNat a37) []) (Int.toNat a32) (0 : Int))))) (Int.toNat a37) []) (Int.toNat a32) (0 : Int)) + a39)) else (List.getD (List.getD (List.set xs36 (Int.toNat a37) (List.set (List.getD xs36 (Int.toNat a37) []) (Int.toNat a32) (if (IntKind.i64.wrap ((List.getD (List.getD xs36 (Int.toNat a38) []) (Int.toNat a32) (0 : Int)) + a39)) < (List.getD (List.getD xs36 (Int.toNat a37) []) (Int.toNat a32) (0 : Int)) then (IntKind.i64.wrap ((List.getD (List.getD xs36 (Int.toNat a38) []) (Int.toNat a32) (0 : Int)) + a39)) else (List.getD (List.getD xs36 (Int.toNat a37) []) (Int.toNat a32) (0 : Int))))) (Int.toNat a38) []) (Int.toNat a32) (0 : Int))))) a37 a38 a39 b40
                                                                else none
                                                              else none
                                                            else none
                                                          else none
                                                        else none
                                                      else none
                                                    else none
                                                  else none
                                                else none
                                              else none
                                            else none
                                          else none
                                        else none
                                      else none
                                    else none
                                  else none
                                else none
                              else none
                            else none
                          else none
                        else none
                      else none
                    else none
                  else none
                else none
              else none
            else none
          else none
        else none
      else none
    else
      ret (a30, a31, xs33, xs34, a35, xs36)
  else
    ret (a30, a31, xs33, xs34, a35, xs36)
def f138.l19 (k : Nat) : Nat → Int → Int → Int → (List S146) → (List (List S142)) → Int → (List (List Int)) → Int → Int → Int → Bool → Option (Int × Int × (List S146) × (List (List S142)) × Int × (List (List Int)))
  | 0, _, _, _, _, _, _, _, _, _, _, _ => none
  | j + 1, a30, a31, a32, xs33, xs34, a35, xs36, a37, a38, a39, b40 => f138.l19.step k (fun a30 a31 a32 xs33 xs34 a35 xs36 a37 a38 a39 b40 => f138.l19 k j a30 a31 a32 xs33 xs34 a35 xs36 a37 a38 a39 b40) some a30 a31 a32 xs33 xs34 a35 xs36 a37 a38 a39 b40
def f138.l19.w {R : Type} : (Int × Int × (List S146) × (List (List S142)) × Int × (List (List Int))) → (Exit → St env → Option R) → Option R := fun t46 K => K (.exit 8) ⟨fullT [1, 3, 7, 8] 0 119 [.v (.c (.bp 1 0)), .v (.c (.row 33)), .v (.c (.s (.int .i64 t46.1))), .v (.c (.s (.int .i64 t46.2.1)))], [(1, .box [.imm 146 t46.2.2.1, .imm 140 t46.2.2.2.1, .s (.int .i64 t46.2.2.2.2.1)]), (33, .row true 33 t46.2.2.2.2.2)], 1937⟩
def f138.l19.st (a30 : Int) (a31 : Int) (a32 : Int) (xs33 : List S146) (xs34 : List (List S142)) (a35 : Int) (xs36 : List (List Int)) (a37 : Int) (a38 : Int) (a39 : Int) (b40 : Bool) : St env := ⟨fullT [1, 3, 7, 8, 9, 10] 0 119 [.v (.c (.bp 1 0)), .v (.c (.row 33)), .v (.c (.s (.int .i64 a30))), .v (.c (.s (.int .i64 a31))), .v (.c (.bp 817 0)), .v (.c (.s (.int .i64 a32)))], [(1, .box [.imm 146 xs33, .imm 140 xs34, .s (.int .i64 a35)]), (33, .row true 33 xs36), (817, .box [.s (.int .i64 a37), .s (.int .i64 a38), .s (.int .i64 a39), .s (.bool b40)])], 865⟩
def f138.l15.step {R : Type} (k : Nat) (rec_ : Int → Int → (List S146) → (List (List S142)) → Int → (List (List Int)) → Option R) (ret : (Int × (List S146) × (List (List S142)) × Int × (List (List Int))) → Option R) (a24 : Int) (a25 : Int) (xs26 : List S146) (xs27 : List (List S142)) (a28 : Int) (xs29 : List (List Int)) : Option R :=
  if (decide (a25 < (((List.length xs26) : Nat) : Int))) = true then
    if (0 : Int) ≤ a25 then
      if a25 < ((List.length xs26 : Nat) : Int) then
        (f138.l19 k k a24 a25 (0 : Int) xs26 xs27 a28 xs29 (List.getD xs26 (Int.toNat a25) (⟨(0 : Int), (0 : Int), (0 : Int), false⟩ : S146)).f0 (List.getD xs26 (Int.toNat a25) (⟨(0 : Int), (0 : Int), (0 : Int), false⟩ : S146)).f1 (List.getD xs26 (Int.toNat a25) (⟨(0 : Int), (0 : Int), (0 : Int), false⟩ : S146)).f2 (List.getD xs26 (Int.toNat a25) (⟨(0 : Int), (0 : Int), (0 : Int), false⟩ : S146)).f3).bind fun t41 => rec_ t41.1 (IntKind.i64.wrap (t41.2.1 + (1 : Int))) t41.2.2.1 t41.2.2.2.1 t41.2.2.2.2.1 t41.2.2.2.2.2
      else none
    else none
  else
    ret (a24, xs26, xs27, a28, xs29)
def f138.l15 (k : Nat) : Nat → Int → Int → (List S146) → (List (List S142)) → Int → (List (List Int)) → Option (Int × (List S146) × (List (List S142)) × Int × (List (List Int)))
  | 0, _, _, _, _, _, _ => none
  | j + 1, a24, a25, xs26, xs27, a28, xs29 => f138.l15.step k (fun a24 a25 xs26 xs27 a28 xs29 => f138.l15 k j a24 a25 xs26 xs27 a28 xs29) some a24 a25 xs26 xs27 a28 xs29
def f138.l15.w {R : Type} : (Int × (List S146) × (List (List S142)) × Int × (List (List Int))) → (Exit → St env → Option R) → Option R := fun t47 K => K (.exit 6) ⟨fullT [1, 3, 7] 0 119 [.v (.c (.bp 1 0)), .v (.c (.row 33)), .v (.c (.s (.int .i64 t47.1)))], [(1, .box [.imm 146 t47.2.1, .imm 140 t47.2.2.1, .s (.int .i64 t47.2.2.2.1)]), (33, .row true 33 t47.2.2.2.2)], 1985⟩
def f138.l15.st (a24 : Int) (a25 : Int) (xs26 : List S146) (xs27 : List (List S142)) (a28 : Int) (xs29 : List (List Int)) : St env := ⟨fullT [1, 3, 7, 8] 0 119 [.v (.c (.bp 1 0)), .v (.c (.row 33)), .v (.c (.s (.int .i64 a24))), .v (.c (.s (.int .i64 a25)))], [(1, .box [.imm 146 xs26, .imm 140 xs27, .s (.int .i64 a28)]), (33, .row true 33 xs29)], 657⟩
def f138.l12.step {R : Type} (k : Nat) (rec_ : Int → (List S146) → (List (List S142)) → Int → (List (List Int)) → Option R) (ret : ((List (List Int))) → Option R) (a19 : Int) (xs20 : List S146) (xs21 : List (List S142)) (a22 : Int) (xs23 : List (List Int)) : Option R :=
  if (decide (a19 < a22)) = true then
    (f138.l15 k k a19 (0 : Int) xs20 xs21 a22 xs23).bind fun t42 => rec_ (IntKind.i64.wrap (t42.1 + (1 : Int))) t42.2.1 t42.2.2.1 t42.2.2.2.1 t42.2.2.2.2
  else
    ret xs23
def f138.l12 (k : Nat) : Nat → Int → (List S146) → (List (List S142)) → Int → (List (List Int)) → Option ((List (List Int)))
  | 0, _, _, _, _, _ => none
  | j + 1, a19, xs20, xs21, a22, xs23 => f138.l12.step k (fun a19 xs20 xs21 a22 xs23 => f138.l12 k j a19 xs20 xs21 a22 xs23) some a19 xs20 xs21 a22 xs23
def f138.l12.w {R : Type} : ((List (List Int))) → (Exit → St env → Option R) → Option R := fun t48 K => K (.exit 4) ⟨fullT [3] 0 119 [.v (.c (.row 33))], [(33, .row true 33 t48)], 2033⟩
def f138.l12.st (a19 : Int) (xs20 : List S146) (xs21 : List (List S142)) (a22 : Int) (xs23 : List (List Int)) : St env := ⟨fullT [1, 3, 7] 0 119 [.v (.c (.bp 1 0)), .v (.c (.row 33)), .v (.c (.s (.int .i64 a19)))], [(1, .box [.imm 146 xs20, .imm 140 xs21, .s (.int .i64 a22)]), (33, .row true 33 xs23)], 577⟩
def f138.l7.hd (k : Nat) (ts_ : List (AV env)) (mm_ : Mem env) (n_ : Nat) : LCl env :=
  gTs LCl.no [1, 3, 4, 5, 6] 119 ts_ fun l_ => gV LCl.no l_ fun a_ l_ => rBp LCl.no 1 0 a_ <| gV LCl.no l_ fun a_ l_ => rRow LCl.no 33 a_ <| gV LCl.no l_ fun a_ l_ => rV LCl.no a_ fun v_ => vI LCl.no .i64 v_ fun a9 => gV LCl.no l_ fun a_ l_ => rRow LCl.no 145 a_ <| gV LCl.no l_ fun a_ l_ => rV LCl.no a_ fun v_ => vI LCl.no .i64 v_ fun a10 => gE LCl.no l_ <| mBox LCl.no 1 mm_ fun c_ m_ => gC LCl.no c_ fun a_ c_ => rImm LCl.no 146 a_ fun xs11 => gC LCl.no c_ fun a_ c_ => rImm LCl.no 140 a_ fun xs12 => gC LCl.no c_ fun a_ c_ => rV LCl.no a_ fun v_ => vI LCl.no .i64 v_ fun a13 => gE LCl.no c_ <| mRow LCl.no 33 true 33 m_ fun xs14 m_ => mRow LCl.no 145 true 3 m_ fun xs15 m_ => gE LCl.no m_ <| gN LCl.no 193 n_ { α := Int × (List S146) × (List (List S142)) × Int × (List (List Int)) × (List Int), o := f138.l7 k k a9 a10 xs11 xs12 a13 xs14 xs15, w := f138.l7.w }
def f138.l3.hd (k : Nat) (ts_ : List (AV env)) (mm_ : Mem env) (n_ : Nat) : LCl env :=
  gTs LCl.no [1, 3, 4] 119 ts_ fun l_ => gV LCl.no l_ fun a_ l_ => rBp LCl.no 1 0 a_ <| gV LCl.no l_ fun a_ l_ => rRow LCl.no 33 a_ <| gV LCl.no l_ fun a_ l_ => rV LCl.no a_ fun v_ => vI LCl.no .i64 v_ fun a4 => gE LCl.no l_ <| mBox LCl.no 1 mm_ fun c_ m_ => gC LCl.no c_ fun a_ c_ => rImm LCl.no 146 a_ fun xs5 => gC LCl.no c_ fun a_ c_ => rImm LCl.no 140 a_ fun xs6 => gC LCl.no c_ fun a_ c_ => rV LCl.no a_ fun v_ => vI LCl.no .i64 v_ fun a7 => gE LCl.no c_ <| mRow LCl.no 33 true 33 m_ fun xs8 m_ => gE LCl.no m_ <| gN LCl.no 81 n_ { α := (List S146) × (List (List S142)) × Int × (List (List Int)), o := f138.l3 k k a4 xs5 xs6 a7 xs8, w := f138.l3.w }
def f138.l19.hd (k : Nat) (ts_ : List (AV env)) (mm_ : Mem env) (n_ : Nat) : LCl env :=
  gTs LCl.no [1, 3, 7, 8, 9, 10] 119 ts_ fun l_ => gV LCl.no l_ fun a_ l_ => rBp LCl.no 1 0 a_ <| gV LCl.no l_ fun a_ l_ => rRow LCl.no 33 a_ <| gV LCl.no l_ fun a_ l_ => rV LCl.no a_ fun v_ => vI LCl.no .i64 v_ fun a30 => gV LCl.no l_ fun a_ l_ => rV LCl.no a_ fun v_ => vI LCl.no .i64 v_ fun a31 => gV LCl.no l_ fun a_ l_ => rBp LCl.no 817 0 a_ <| gV LCl.no l_ fun a_ l_ => rV LCl.no a_ fun v_ => vI LCl.no .i64 v_ fun a32 => gE LCl.no l_ <| mBox LCl.no 1 mm_ fun c_ m_ => gC LCl.no c_ fun a_ c_ => rImm LCl.no 146 a_ fun xs33 => gC LCl.no c_ fun a_ c_ => rImm LCl.no 140 a_ fun xs34 => gC LCl.no c_ fun a_ c_ => rV LCl.no a_ fun v_ => vI LCl.no .i64 v_ fun a35 => gE LCl.no c_ <| mRow LCl.no 33 true 33 m_ fun xs36 m_ => mBox LCl.no 817 m_ fun c_ m_ => gC LCl.no c_ fun a_ c_ => rV LCl.no a_ fun v_ => vI LCl.no .i64 v_ fun a37 => gC LCl.no c_ fun a_ c_ => rV LCl.no a_ fun v_ => vI LCl.no .i64 v_ fun a38 => gC LCl.no c_ fun a_ c_ => rV LCl.no a_ fun v_ => vI LCl.no .i64 v_ fun a39 => gC LCl.no c_ fun a_ c_ => rV LCl.no a_ fun v_ => vB LCl.no v_ fun b40 => gE LCl.no c_ <| gE LCl.no m_ <| gN LCl.no 865 n_ { α := Int × Int × (List S146) × (List (List S142)) × Int × (List (List Int)), o := f138.l19 k k a30 a31 a32 xs33 xs34 a35 xs36 a37 a38 a39 b40, w := f138.l19.w }
def f138.l15.hd (k : Nat) (ts_ : List (AV env)) (mm_ : Mem env) (n_ : Nat) : LCl env :=
  gTs LCl.no [1, 3, 7, 8] 119 ts_ fun l_ => gV LCl.no l_ fun a_ l_ => rBp LCl.no 1 0 a_ <| gV LCl.no l_ fun a_ l_ => rRow LCl.no 33 a_ <| gV LCl.no l_ fun a_ l_ => rV LCl.no a_ fun v_ => vI LCl.no .i64 v_ fun a24 => gV LCl.no l_ fun a_ l_ => rV LCl.no a_ fun v_ => vI LCl.no .i64 v_ fun a25 => gE LCl.no l_ <| mBox LCl.no 1 mm_ fun c_ m_ => gC LCl.no c_ fun a_ c_ => rImm LCl.no 146 a_ fun xs26 => gC LCl.no c_ fun a_ c_ => rImm LCl.no 140 a_ fun xs27 => gC LCl.no c_ fun a_ c_ => rV LCl.no a_ fun v_ => vI LCl.no .i64 v_ fun a28 => gE LCl.no c_ <| mRow LCl.no 33 true 33 m_ fun xs29 m_ => gE LCl.no m_ <| gN LCl.no 657 n_ { α := Int × (List S146) × (List (List S142)) × Int × (List (List Int)), o := f138.l15 k k a24 a25 xs26 xs27 a28 xs29, w := f138.l15.w }
def f138.l12.hd (k : Nat) (ts_ : List (AV env)) (mm_ : Mem env) (n_ : Nat) : LCl env :=
  gTs LCl.no [1, 3, 7] 119 ts_ fun l_ => gV LCl.no l_ fun a_ l_ => rBp LCl.no 1 0 a_ <| gV LCl.no l_ fun a_ l_ => rRow LCl.no 33 a_ <| gV LCl.no l_ fun a_ l_ => rV LCl.no a_ fun v_ => vI LCl.no .i64 v_ fun a19 => gE LCl.no l_ <| mBox LCl.no 1 mm_ fun c_ m_ => gC LCl.no c_ fun a_ c_ => rImm LCl.no 146 a_ fun xs20 => gC LCl.no c_ fun a_ c_ => rImm LCl.no 140 a_ fun xs21 => gC LCl.no c_ fun a_ c_ => rV LCl.no a_ fun v_ => vI LCl.no .i64 v_ fun a22 => gE LCl.no c_ <| mRow LCl.no 33 true 33 m_ fun xs23 m_ => gE LCl.no m_ <| gN LCl.no 577 n_ { α := (List (List Int)), o := f138.l12 k k a19 xs20 xs21 a22 xs23, w := f138.l12.w }
def f138.step {R : Type} (k : Nat) (ret : ((List (List Int))) → Option R) (xs1 : List S146) (xs2 : List (List S142)) (a3 : Int) : Option R :=
  (f138.l3 k k (0 : Int) xs1 xs2 a3 ([] : List (List Int))).bind fun t18 => (f138.l12 k k (0 : Int) t18.1 t18.2.1 t18.2.2.1 t18.2.2.2).bind fun t43 => ret t43
def f138 (k : Nat) (xs1 : List S146) (xs2 : List (List S142)) (a3 : Int) : Option ((List (List Int))) := f138.step k some xs1 xs2 a3
def f138.w {R : Type} : ((List (List Int))) → (Res env → Option R) → Option R := fun t49 K => K ⟨.v (.c (.own true 33 t49)), [[]]⟩
theorem f138.wn (x : ((List (List Int)))) : ∃ res, ∀ {R : Type} (K : Res env → Option R), f138.w x K = K res := by
  exact ⟨_, fun _ => rfl⟩
def f138.hd (k : Nat) (ps_ : List (P2 env)) : Cl env :=
  gC Cl.no ps_ fun p_ ps_ => qG Cl.no p_ fun cs_ => gC Cl.no cs_ fun c_ cs_ => qSl Cl.no 146 c_ fun xs1 => gC Cl.no cs_ fun c_ cs_ => qSl Cl.no 140 c_ fun xs2 => gC Cl.no cs_ fun c_ cs_ => qS Cl.no c_ fun v_ => vI Cl.no .i64 v_ fun a3 => gE Cl.no cs_ <| gE Cl.no ps_ <| { α := (List (List Int)), o := f138 k xs1 xs2 a3, w := f138.w, nat := fun x _ => f138.wn x }
def f138.e (k : Nat) : Entry env := ⟨fun ps => f138.hd k (coer [[.rd 146, .rd 140, .no]] ps), [], []⟩
def f138.X (k : Nat) : Ctx env := { C := lookE [(105, f105.e k)], L := lookE [(7, fun S => f138.l7.hd k S.ts S.m S.n), (3, fun S => f138.l3.hd k S.ts S.m S.n), (19, fun S => f138.l19.hd k S.ts S.m S.n), (15, fun S => f138.l15.hd k S.ts S.m S.n), (12, fun S => f138.l12.hd k S.ts S.m S.n)], J := lookE [], keep := lookD [(7, [1, 3, 4, 5, 6]), (3, [1, 3, 4]), (19, [1, 3, 7, 8, 9, 10]), (15, [1, 3, 7, 8]), (12, [1, 3, 7])], keepX := lookD [(7, [1, 3, 4, 5]), (3, [1, 3]), (19, [1, 3, 7, 8]), (15, [1, 3, 7]), (12, [3])], span := lookN [(7, 240), (3, 480), (19, 1072), (15, 1328), (12, 1456)], eff := fun n => memN n [21, 22], prep := lookP [], np := 0, vb := lookN [(21, 2), (22, 2)], ve := lookN [(21, 1), (22, 1)] }
theorem f138.l7.nat {R : Type} (k : Nat) (rec_ : Int → Int → (List S146) → (List (List S142)) → Int → (List (List Int)) → (List Int) → Option (Int × (List S146) × (List (List S142)) × Int × (List (List Int)) × (List Int))) (g : (Int × (List S146) × (List (List S142)) × Int × (List (List Int)) × (List Int)) → Option R) (a9 : Int) (a10 : Int) (xs11 : List S146) (xs12 : List (List S142)) (a13 : Int) (xs14 : List (List Int)) (xs15 : List Int) : (f138.l7.step k rec_ some a9 a10 xs11 xs12 a13 xs14 xs15).bind g = f138.l7.step k (fun a9 a10 xs11 xs12 a13 xs14 xs15 => (rec_ a9 a10 xs11 xs12 a13 xs14 xs15).bind g) g a9 a10 xs11 xs12 a13 xs14 xs15 := by
  simp only [f138.l7.step, bind_ite, bind_sum, Option.bind_assoc, Option.bind_some, Option.bind_none]
theorem f138.l7.good (k : Nat) (a9 : Int) (a10 : Int) (xs11 : List S146) (xs12 : List (List S142)) (a13 : Int) (xs14 : List (List Int)) (xs15 : List Int) : GoodL (f138.X k) (nthC 1 (loopsOf (bodyOf Try.f138))) (f138.l7.st a9 a10 xs11 xs12 a13 xs14 xs15) { α := (Int × (List S146) × (List (List S142)) × Int × (List (List Int)) × (List Int)), o := f138.l7 k k a9 a10 xs11 xs12 a13 xs14 xs15, w := f138.l7.w } :=
  loop_good (ι := Int × Int × (List S146) × (List (List S142)) × Int × (List (List Int)) × (List Int)) (α := (Int × (List S146) × (List (List S142)) × Int × (List (List Int)) × (List Int))) (fun i => f138.l7.st i.1 i.2.1 i.2.2.1 i.2.2.2.1 i.2.2.2.2.1 i.2.2.2.2.2.1 i.2.2.2.2.2.2) (fun j i => f138.l7 k j i.1 i.2.1 i.2.2.1 i.2.2.2.1 i.2.2.2.2.1 i.2.2.2.2.2.1 i.2.2.2.2.2.2) f138.l7.w (fun rec_ ret i => f138.l7.step k (fun a9 a10 xs11 xs12 a13 xs14 xs15 => rec_ (a9, a10, xs11, xs12, a13, xs14, xs15)) ret i.1 i.2.1 i.2.2.1 i.2.2.2.1 i.2.2.2.2.1 i.2.2.2.2.2.1 i.2.2.2.2.2.2)
    (fun _ => rfl) (fun _ _ => rfl) (fun rec_ g i => f138.l7.nat k _ g i.1 i.2.1 i.2.2.1 i.2.2.2.1 i.2.2.2.2.1 i.2.2.2.2.2.1 i.2.2.2.2.2.2) (fun {R} i0 i rec_ K => by kernel_rfl) k (a9, a10, xs11, xs12, a13, xs14, xs15)
theorem f138.l7.all (k : Nat) (S : St env) : GoodL (f138.X k) (nthC 1 (loopsOf (bodyOf Try.f138))) S (f138.l7.hd k S.ts S.m S.n) := by
  obtain ⟨ts_, m_, n_⟩ := S
  show GoodL _ _ _ (f138.l7.hd k ts_ m_ n_)
  unfold f138.l7.hd
  refine gTs_ok (p := GoodL _ _ _) goodL_no fun _ h => ?_
  subst h
  refine gV_ok (p := GoodL _ _ _) goodL_no fun _ _ h => ?_
  subst h
  refine rBp_ok (p := GoodL _ _ _) goodL_no fun h => ?_
  subst h
  refine gV_ok (p := GoodL _ _ _) goodL_no fun _ _ h => ?_
  subst h
  refine rRow_ok (p := GoodL _ _ _) goodL_no fun h => ?_
  subst h
  refine gV_ok (p := GoodL _ _ _) goodL_no fun _ _ h => ?_
  subst h
  refine rV_ok (p := GoodL _ _ _) goodL_no fun _ h => ?_
  subst h
  refine vI_ok (p := GoodL _ _ _) goodL_no fun _ h => ?_
  subst h
  refine gV_ok (p := GoodL _ _ _) goodL_no fun _ _ h => ?_
  subst h
  refine rRow_ok (p := GoodL _ _ _) goodL_no fun h => ?_
  subst h
  refine gV_ok (p := GoodL _ _ _) goodL_no fun _ _ h => ?_
  subst h
  refine rV_ok (p := GoodL _ _ _) goodL_no fun _ h => ?_
  subst h
  refine vI_ok (p := GoodL _ _ _) goodL_no fun _ h => ?_
  subst h
  refine gE_ok (p := GoodL _ _ _) goodL_no fun h => ?_
  subst h
  refine mBox_ok (p := GoodL _ _ _) goodL_no fun _ _ h => ?_
  subst h
  refine gC_ok (p := GoodL _ _ _) goodL_no fun _ _ h => ?_
  subst h
  refine rImm_ok (p := GoodL _ _ _) goodL_no fun _ h => ?_
  subst h
  refine gC_ok (p := GoodL _ _ _) goodL_no fun _ _ h => ?_
  subst h
  refine rImm_ok (p := GoodL _ _ _) goodL_no fun _ h => ?_
  subst h
  refine gC_ok (p := GoodL _ _ _) goodL_no fun _ _ h => ?_
  subst h
  refine rV_ok (p := GoodL _ _ _) goodL_no fun _ h => ?_
  subst h
  refine vI_ok (p := GoodL _ _ _) goodL_no fun _ h => ?_
  subst h
  refine gE_ok (p := GoodL _ _ _) goodL_no fun h => ?_
  subst h
  refine mRow_ok (p := GoodL _ _ _) goodL_no fun _ _ h => ?_
  subst h
  refine mRow_ok (p := GoodL _ _ _) goodL_no fun _ _ h => ?_
  subst h
  refine gE_ok (p := GoodL _ _ _) goodL_no fun h => ?_
  subst h
  refine gN_ok (p := GoodL _ _ _) goodL_no fun h => ?_
  subst h
  exact f138.l7.good k _ _ _ _ _ _ _
theorem f138.l3.nat {R : Type} (k : Nat) (rec_ : Int → (List S146) → (List (List S142)) → Int → (List (List Int)) → Option ((List S146) × (List (List S142)) × Int × (List (List Int)))) (g : ((List S146) × (List (List S142)) × Int × (List (List Int))) → Option R) (a4 : Int) (xs5 : List S146) (xs6 : List (List S142)) (a7 : Int) (xs8 : List (List Int)) : (f138.l3.step k rec_ some a4 xs5 xs6 a7 xs8).bind g = f138.l3.step k (fun a4 xs5 xs6 a7 xs8 => (rec_ a4 xs5 xs6 a7 xs8).bind g) g a4 xs5 xs6 a7 xs8 := by
  simp only [f138.l3.step, bind_ite, bind_sum, Option.bind_assoc, Option.bind_some, Option.bind_none]
theorem f138.l3.good (k : Nat) (a4 : Int) (xs5 : List S146) (xs6 : List (List S142)) (a7 : Int) (xs8 : List (List Int)) : GoodL (f138.X k) (nthC 0 (loopsOf (bodyOf Try.f138))) (f138.l3.st a4 xs5 xs6 a7 xs8) { α := ((List S146) × (List (List S142)) × Int × (List (List Int))), o := f138.l3 k k a4 xs5 xs6 a7 xs8, w := f138.l3.w } :=
  loop_good (ι := Int × (List S146) × (List (List S142)) × Int × (List (List Int))) (α := ((List S146) × (List (List S142)) × Int × (List (List Int)))) (fun i => f138.l3.st i.1 i.2.1 i.2.2.1 i.2.2.2.1 i.2.2.2.2) (fun j i => f138.l3 k j i.1 i.2.1 i.2.2.1 i.2.2.2.1 i.2.2.2.2) f138.l3.w (fun rec_ ret i => f138.l3.step k (fun a4 xs5 xs6 a7 xs8 => rec_ (a4, xs5, xs6, a7, xs8)) ret i.1 i.2.1 i.2.2.1 i.2.2.2.1 i.2.2.2.2)
    (fun _ => rfl) (fun _ _ => rfl) (fun rec_ g i => f138.l3.nat k _ g i.1 i.2.1 i.2.2.1 i.2.2.2.1 i.2.2.2.2) (fun {R} i0 i rec_ K => by kernel_rfl) k (a4, xs5, xs6, a7, xs8)
theorem f138.l3.all (k : Nat) (S : St env) : GoodL (f138.X k) (nthC 0 (loopsOf (bodyOf Try.f138))) S (f138.l3.hd k S.ts S.m S.n) := by
  obtain ⟨ts_, m_, n_⟩ := S
  show GoodL _ _ _ (f138.l3.hd k ts_ m_ n_)
  unfold f138.l3.hd
  refine gTs_ok (p := GoodL _ _ _) goodL_no fun _ h => ?_
  subst h
  refine gV_ok (p := GoodL _ _ _) goodL_no fun _ _ h => ?_
  subst h
  refine rBp_ok (p := GoodL _ _ _) goodL_no fun h => ?_
  subst h
  refine gV_ok (p := GoodL _ _ _) goodL_no fun _ _ h => ?_
  subst h
  refine rRow_ok (p := GoodL _ _ _) goodL_no fun h => ?_
  subst h
  refine gV_ok (p := GoodL _ _ _) goodL_no fun _ _ h => ?_
  subst h
  refine rV_ok (p := GoodL _ _ _) goodL_no fun _ h => ?_
  subst h
  refine vI_ok (p := GoodL _ _ _) goodL_no fun _ h => ?_
  subst h
  refine gE_ok (p := GoodL _ _ _) goodL_no fun h => ?_
  subst h
  refine mBox_ok (p := GoodL _ _ _) goodL_no fun _ _ h => ?_
  subst h
  refine gC_ok (p := GoodL _ _ _) goodL_no fun _ _ h => ?_
  subst h
  refine rImm_ok (p := GoodL _ _ _) goodL_no fun _ h => ?_
  subst h
  refine gC_ok (p := GoodL _ _ _) goodL_no fun _ _ h => ?_
  subst h
  refine rImm_ok (p := GoodL _ _ _) goodL_no fun _ h => ?_
  subst h
  refine gC_ok (p := GoodL _ _ _) goodL_no fun _ _ h => ?_
  subst h
  refine rV_ok (p := GoodL _ _ _) goodL_no fun _ h => ?_
  subst h
  refine vI_ok (p := GoodL _ _ _) goodL_no fun _ h => ?_
  subst h
  refine gE_ok (p := GoodL _ _ _) goodL_no fun h => ?_
  subst h
  refine mRow_ok (p := GoodL _ _ _) goodL_no fun _ _ h => ?_
  subst h
  refine gE_ok (p := GoodL _ _ _) goodL_no fun h => ?_
  subst h
  refine gN_ok (p := GoodL _ _ _) goodL_no fun h => ?_
  subst h
  exact f138.l3.good k _ _ _ _ _
theorem f138.l19.nat {R : Type} (k : Nat) (rec_ : Int → Int → Int → (List S146) → (List (List S142)) → Int → (List (List Int)) → Int → Int → Int → Bool → Option (Int × Int × (List S146) × (List (List S142)) × Int × (List (List Int)))) (g : (Int × Int × (List S146) × (List (List S142)) × Int × (List (List Int))) → Option R) (a30 : Int) (a31 : Int) (a32 : Int) (xs33 : List S146) (xs34 : List (List S142)) (a35 : Int) (xs36 : List (List Int)) (a37 : Int) (a38 : Int) (a39 : Int) (b40 : Bool) : (f138.l19.step k rec_ some a30 a31 a32 xs33 xs34 a35 xs36 a37 a38 a39 b40).bind g = f138.l19.step k (fun a30 a31 a32 xs33 xs34 a35 xs36 a37 a38 a39 b40 => (rec_ a30 a31 a32 xs33 xs34 a35 xs36 a37 a38 a39 b40).bind g) g a30 a31 a32 xs33 xs34 a35 xs36 a37 a38 a39 b40 := by
  simp only [f138.l19.step, bind_ite, bind_sum, Option.bind_assoc, Option.bind_some, Option.bind_none]
theorem f138.l19.good (k : Nat) (a30 : Int) (a31 : Int) (a32 : Int) (xs33 : List S146) (xs34 : List (List S142)) (a35 : Int) (xs36 : List (List Int)) (a37 : Int) (a38 : Int) (a39 : Int) (b40 : Bool) : GoodL (f138.X k) (nthC 4 (loopsOf (bodyOf Try.f138))) (f138.l19.st a30 a31 a32 xs33 xs34 a35 xs36 a37 a38 a39 b40) { α := (Int × Int × (List S146) × (List (List S142)) × Int × (List (List Int))), o := f138.l19 k k a30 a31 a32 xs33 xs34 a35 xs36 a37 a38 a39 b40, w := f138.l19.w } :=
  loop_good (ι := Int × Int × Int × (List S146) × (List (List S142)) × Int × (List (List Int)) × Int × Int × Int × Bool) (α := (Int × Int × (List S146) × (List (List S142)) × Int × (List (List Int)))) (fun i => f138.l19.st i.1 i.2.1 i.2.2.1 i.2.2.2.1 i.2.2.2.2.1 i.2.2.2.2.2.1 i.2.2.2.2.2.2.1 i.2.2.2.2.2.2.2.1 i.2.2.2.2.2.2.2.2.1 i.2.2.2.2.2.2.2.2.2.1 i.2.2.2.2.2.2.2.2.2.2) (fun j i => f138.l19 k j i.1 i.2.1 i.2.2.1 i.2.2.2.1 i.2.2.2.2.1 i.2.2.2.2.2.1 i.2.2.2.2.2.2.1 i.2.2.2.2.2.2.2.1 i.2.2.2.2.2.2.2.2.1 i.2.2.2.2.2.2.2.2.2.1 i.2.2.2.2.2.2.2.2.2.2) f138.l19.w (fun rec_ ret i => f138.l19.step k (fun a30 a31 a32 xs33 xs34 a35 xs36 a37 a38 a39 b40 => rec_ (a30, a31, a32, xs33, xs34, a35, xs36, a37, a38, a39, b40)) ret i.1 i.2.1 i.2.2.1 i.2.2.2.1 i.2.2.2.2.1 i.2.2.2.2.2.1 i.2.2.2.2.2.2.1 i.2.2.2.2.2.2.2.1 i.2.2.2.2.2.2.2.2.1 i.2.2.2.2.2.2.2.2.2.1 i.2.2.2.2.2.2.2.2.2.2)
    (fun _ => rfl) (fun _ _ => rfl) (fun rec_ g i => f138.l19.nat k _ g i.1 i.2.1 i.2.2.1 i.2.2.2.1 i.2.2.2.2.1 i.2.2.2.2.2.1 i.2.2.2.2.2.2.1 i.2.2.2.2.2.2.2.1 i.2.2.2.2.2.2.2.2.1 i.2.2.2.2.2.2.2.2.2.1 i.2.2.2.2.2.2.2.2.2.2) (fun {R} i0 i rec_ K => by kernel_rfl) k (a30, a31, a32, xs33, xs34, a35, xs36, a37, a38, a39, b40)
theorem f138.l19.all (k : Nat) (S : St env) : GoodL (f138.X k) (nthC 4 (loopsOf (bodyOf Try.f138))) S (f138.l19.hd k S.ts S.m S.n) := by
  obtain ⟨ts_, m_, n_⟩ := S
  show GoodL _ _ _ (f138.l19.hd k ts_ m_ n_)
  unfold f138.l19.hd
  refine gTs_ok (p := GoodL _ _ _) goodL_no fun _ h => ?_
  subst h
  refine gV_ok (p := GoodL _ _ _) goodL_no fun _ _ h => ?_
  subst h
  refine rBp_ok (p := GoodL _ _ _) goodL_no fun h => ?_
  subst h
  refine gV_ok (p := GoodL _ _ _) goodL_no fun _ _ h => ?_
  subst h
  refine rRow_ok (p := GoodL _ _ _) goodL_no fun h => ?_
  subst h
  refine gV_ok (p := GoodL _ _ _) goodL_no fun _ _ h => ?_
  subst h
  refine rV_ok (p := GoodL _ _ _) goodL_no fun _ h => ?_
  subst h
  refine vI_ok (p := GoodL _ _ _) goodL_no fun _ h => ?_
  subst h
  refine gV_ok (p := GoodL _ _ _) goodL_no fun _ _ h => ?_
  subst h
  refine rV_ok (p := GoodL _ _ _) goodL_no fun _ h => ?_
  subst h
  refine vI_ok (p := GoodL _ _ _) goodL_no fun _ h => ?_
  subst h
  refine gV_ok (p := GoodL _ _ _) goodL_no fun _ _ h => ?_
  subst h
  refine rBp_ok (p := GoodL _ _ _) goodL_no fun h => ?_
  subst h
  refine gV_ok (p := GoodL _ _ _) goodL_no fun _ _ h => ?_
  subst h
  refine rV_ok (p := GoodL _ _ _) goodL_no fun _ h => ?_
  subst h
  refine vI_ok (p := GoodL _ _ _) goodL_no fun _ h => ?_
  subst h
  refine gE_ok (p := GoodL _ _ _) goodL_no fun h => ?_
  subst h
  refine mBox_ok (p := GoodL _ _ _) goodL_no fun _ _ h => ?_
  subst h
  refine gC_ok (p := GoodL _ _ _) goodL_no fun _ _ h => ?_
  subst h
  refine rImm_ok (p := GoodL _ _ _) goodL_no fun _ h => ?_
  subst h
  refine gC_ok (p := GoodL _ _ _) goodL_no fun _ _ h => ?_
  subst h
  refine rImm_ok (p := GoodL _ _ _) goodL_no fun _ h => ?_
  subst h
  refine gC_ok (p := GoodL _ _ _) goodL_no fun _ _ h => ?_
  subst h
  refine rV_ok (p := GoodL _ _ _) goodL_no fun _ h => ?_
  subst h
  refine vI_ok (p := GoodL _ _ _) goodL_no fun _ h => ?_
  subst h
  refine gE_ok (p := GoodL _ _ _) goodL_no fun h => ?_
  subst h
  refine mRow_ok (p := GoodL _ _ _) goodL_no fun _ _ h => ?_
  subst h
  refine mBox_ok (p := GoodL _ _ _) goodL_no fun _ _ h => ?_
  subst h
  refine gC_ok (p := GoodL _ _ _) goodL_no fun _ _ h => ?_
  subst h
  refine rV_ok (p := GoodL _ _ _) goodL_no fun _ h => ?_
  subst h
  refine vI_ok (p := GoodL _ _ _) goodL_no fun _ h => ?_
  subst h
  refine gC_ok (p := GoodL _ _ _) goodL_no fun _ _ h => ?_
  subst h
  refine rV_ok (p := GoodL _ _ _) goodL_no fun _ h => ?_
  subst h
  refine vI_ok (p := GoodL _ _ _) goodL_no fun _ h => ?_
  subst h
  refine gC_ok (p := GoodL _ _ _) goodL_no fun _ _ h => ?_
  subst h
  refine rV_ok (p := GoodL _ _ _) goodL_no fun _ h => ?_
  subst h
  refine vI_ok (p := GoodL _ _ _) goodL_no fun _ h => ?_
  subst h
  refine gC_ok (p := GoodL _ _ _) goodL_no fun _ _ h => ?_
  subst h
  refine rV_ok (p := GoodL _ _ _) goodL_no fun _ h => ?_
  subst h
  refine vB_ok (p := GoodL _ _ _) goodL_no fun _ h => ?_
  subst h
  refine gE_ok (p := GoodL _ _ _) goodL_no fun h => ?_
  subst h
  refine gE_ok (p := GoodL _ _ _) goodL_no fun h => ?_
  subst h
  refine gN_ok (p := GoodL _ _ _) goodL_no fun h => ?_
  subst h
  exact f138.l19.good k _ _ _ _ _ _ _ _ _ _ _
theorem f138.l15.nat {R : Type} (k : Nat) (rec_ : Int → Int → (List S146) → (List (List S142)) → Int → (List (List Int)) → Option (Int × (List S146) × (List (List S142)) × Int × (List (List Int)))) (g : (Int × (List S146) × (List (List S142)) × Int × (List (List Int))) → Option R) (a24 : Int) (a25 : Int) (xs26 : List S146) (xs27 : List (List S142)) (a28 : Int) (xs29 : List (List Int)) : (f138.l15.step k rec_ some a24 a25 xs26 xs27 a28 xs29).bind g = f138.l15.step k (fun a24 a25 xs26 xs27 a28 xs29 => (rec_ a24 a25 xs26 xs27 a28 xs29).bind g) g a24 a25 xs26 xs27 a28 xs29 := by
  simp only [f138.l15.step, bind_ite, bind_sum, Option.bind_assoc, Option.bind_some, Option.bind_none]
theorem f138.l15.good (k : Nat) (a24 : Int) (a25 : Int) (xs26 : List S146) (xs27 : List (List S142)) (a28 : Int) (xs29 : List (List Int)) : GoodL (f138.X k) (nthC 3 (loopsOf (bodyOf Try.f138))) (f138.l15.st a24 a25 xs26 xs27 a28 xs29) { α := (Int × (List S146) × (List (List S142)) × Int × (List (List Int))), o := f138.l15 k k a24 a25 xs26 xs27 a28 xs29, w := f138.l15.w } :=
  loop_good (ι := Int × Int × (List S146) × (List (List S142)) × Int × (List (List Int))) (α := (Int × (List S146) × (List (List S142)) × Int × (List (List Int)))) (fun i => f138.l15.st i.1 i.2.1 i.2.2.1 i.2.2.2.1 i.2.2.2.2.1 i.2.2.2.2.2) (fun j i => f138.l15 k j i.1 i.2.1 i.2.2.1 i.2.2.2.1 i.2.2.2.2.1 i.2.2.2.2.2) f138.l15.w (fun rec_ ret i => f138.l15.step k (fun a24 a25 xs26 xs27 a28 xs29 => rec_ (a24, a25, xs26, xs27, a28, xs29)) ret i.1 i.2.1 i.2.2.1 i.2.2.2.1 i.2.2.2.2.1 i.2.2.2.2.2)
    (fun _ => rfl) (fun _ _ => rfl) (fun rec_ g i => f138.l15.nat k _ g i.1 i.2.1 i.2.2.1 i.2.2.2.1 i.2.2.2.2.1 i.2.2.2.2.2) (fun {R} i0 i rec_ K => by kernel_rfl) k (a24, a25, xs26, xs27, a28, xs29)
theorem f138.l15.all (k : Nat) (S : St env) : GoodL (f138.X k) (nthC 3 (loopsOf (bodyOf Try.f138))) S (f138.l15.hd k S.ts S.m S.n) := by
  obtain ⟨ts_, m_, n_⟩ := S
  show GoodL _ _ _ (f138.l15.hd k ts_ m_ n_)
  unfold f138.l15.hd
  refine gTs_ok (p := GoodL _ _ _) goodL_no fun _ h => ?_
  subst h
  refine gV_ok (p := GoodL _ _ _) goodL_no fun _ _ h => ?_
  subst h
  refine rBp_ok (p := GoodL _ _ _) goodL_no fun h => ?_
  subst h
  refine gV_ok (p := GoodL _ _ _) goodL_no fun _ _ h => ?_
  subst h
  refine rRow_ok (p := GoodL _ _ _) goodL_no fun h => ?_
  subst h
  refine gV_ok (p := GoodL _ _ _) goodL_no fun _ _ h => ?_
  subst h
  refine rV_ok (p := GoodL _ _ _) goodL_no fun _ h => ?_
  subst h
  refine vI_ok (p := GoodL _ _ _) goodL_no fun _ h => ?_
  subst h
  refine gV_ok (p := GoodL _ _ _) goodL_no fun _ _ h => ?_
  subst h
  refine rV_ok (p := GoodL _ _ _) goodL_no fun _ h => ?_
  subst h
  refine vI_ok (p := GoodL _ _ _) goodL_no fun _ h => ?_
  subst h
  refine gE_ok (p := GoodL _ _ _) goodL_no fun h => ?_
  subst h
  refine mBox_ok (p := GoodL _ _ _) goodL_no fun _ _ h => ?_
  subst h
  refine gC_ok (p := GoodL _ _ _) goodL_no fun _ _ h => ?_
  subst h
  refine rImm_ok (p := GoodL _ _ _) goodL_no fun _ h => ?_
  subst h
  refine gC_ok (p := GoodL _ _ _) goodL_no fun _ _ h => ?_
  subst h
  refine rImm_ok (p := GoodL _ _ _) goodL_no fun _ h => ?_
  subst h
  refine gC_ok (p := GoodL _ _ _) goodL_no fun _ _ h => ?_
  subst h
  refine rV_ok (p := GoodL _ _ _) goodL_no fun _ h => ?_
  subst h
  refine vI_ok (p := GoodL _ _ _) goodL_no fun _ h => ?_
  subst h
  refine gE_ok (p := GoodL _ _ _) goodL_no fun h => ?_
  subst h
  refine mRow_ok (p := GoodL _ _ _) goodL_no fun _ _ h => ?_
  subst h
  refine gE_ok (p := GoodL _ _ _) goodL_no fun h => ?_
  subst h
  refine gN_ok (p := GoodL _ _ _) goodL_no fun h => ?_
  subst h
  exact f138.l15.good k _ _ _ _ _ _
theorem f138.l12.nat {R : Type} (k : Nat) (rec_ : Int → (List S146) → (List (List S142)) → Int → (List (List Int)) → Option ((List (List Int)))) (g : ((List (List Int))) → Option R) (a19 : Int) (xs20 : List S146) (xs21 : List (List S142)) (a22 : Int) (xs23 : List (List Int)) : (f138.l12.step k rec_ some a19 xs20 xs21 a22 xs23).bind g = f138.l12.step k (fun a19 xs20 xs21 a22 xs23 => (rec_ a19 xs20 xs21 a22 xs23).bind g) g a19 xs20 xs21 a22 xs23 := by
  simp only [f138.l12.step, bind_ite, bind_sum, Option.bind_assoc, Option.bind_some, Option.bind_none]
theorem f138.l12.good (k : Nat) (a19 : Int) (xs20 : List S146) (xs21 : List (List S142)) (a22 : Int) (xs23 : List (List Int)) : GoodL (f138.X k) (nthC 2 (loopsOf (bodyOf Try.f138))) (f138.l12.st a19 xs20 xs21 a22 xs23) { α := ((List (List Int))), o := f138.l12 k k a19 xs20 xs21 a22 xs23, w := f138.l12.w } :=
  loop_good (ι := Int × (List S146) × (List (List S142)) × Int × (List (List Int))) (α := ((List (List Int)))) (fun i => f138.l12.st i.1 i.2.1 i.2.2.1 i.2.2.2.1 i.2.2.2.2) (fun j i => f138.l12 k j i.1 i.2.1 i.2.2.1 i.2.2.2.1 i.2.2.2.2) f138.l12.w (fun rec_ ret i => f138.l12.step k (fun a19 xs20 xs21 a22 xs23 => rec_ (a19, xs20, xs21, a22, xs23)) ret i.1 i.2.1 i.2.2.1 i.2.2.2.1 i.2.2.2.2)
    (fun _ => rfl) (fun _ _ => rfl) (fun rec_ g i => f138.l12.nat k _ g i.1 i.2.1 i.2.2.1 i.2.2.2.1 i.2.2.2.2) (fun {R} i0 i rec_ K => by kernel_rfl) k (a19, xs20, xs21, a22, xs23)
theorem f138.l12.all (k : Nat) (S : St env) : GoodL (f138.X k) (nthC 2 (loopsOf (bodyOf Try.f138))) S (f138.l12.hd k S.ts S.m S.n) := by
  obtain ⟨ts_, m_, n_⟩ := S
  show GoodL _ _ _ (f138.l12.hd k ts_ m_ n_)
  unfold f138.l12.hd
  refine gTs_ok (p := GoodL _ _ _) goodL_no fun _ h => ?_
  subst h
  refine gV_ok (p := GoodL _ _ _) goodL_no fun _ _ h => ?_
  subst h
  refine rBp_ok (p := GoodL _ _ _) goodL_no fun h => ?_
  subst h
  refine gV_ok (p := GoodL _ _ _) goodL_no fun _ _ h => ?_
  subst h
  refine rRow_ok (p := GoodL _ _ _) goodL_no fun h => ?_
  subst h
  refine gV_ok (p := GoodL _ _ _) goodL_no fun _ _ h => ?_
  subst h
  refine rV_ok (p := GoodL _ _ _) goodL_no fun _ h => ?_
  subst h
  refine vI_ok (p := GoodL _ _ _) goodL_no fun _ h => ?_
  subst h
  refine gE_ok (p := GoodL _ _ _) goodL_no fun h => ?_
  subst h
  refine mBox_ok (p := GoodL _ _ _) goodL_no fun _ _ h => ?_
  subst h
  refine gC_ok (p := GoodL _ _ _) goodL_no fun _ _ h => ?_
  subst h
  refine rImm_ok (p := GoodL _ _ _) goodL_no fun _ h => ?_
  subst h
  refine gC_ok (p := GoodL _ _ _) goodL_no fun _ _ h => ?_
  subst h
  refine rImm_ok (p := GoodL _ _ _) goodL_no fun _ h => ?_
  subst h
  refine gC_ok (p := GoodL _ _ _) goodL_no fun _ _ h => ?_
  subst h
  refine rV_ok (p := GoodL _ _ _) goodL_no fun _ h => ?_
  subst h
  refine vI_ok (p := GoodL _ _ _) goodL_no fun _ h => ?_
  subst h
  refine gE_ok (p := GoodL _ _ _) goodL_no fun h => ?_
  subst h
  refine mRow_ok (p := GoodL _ _ _) goodL_no fun _ _ h => ?_
  subst h
  refine gE_ok (p := GoodL _ _ _) goodL_no fun h => ?_
  subst h
  refine gN_ok (p := GoodL _ _ _) goodL_no fun h => ?_
  subst h
  exact f138.l12.good k _ _ _ _ _
theorem f138.nat {R : Type} (k : Nat) (g : ((List (List Int))) → Option R) (xs1 : List S146) (xs2 : List (List S142)) (a3 : Int) : f138.step k g xs1 xs2 a3 = (f138 k xs1 xs2 a3).bind g := by
  simp only [f138, f138.step, bind_ite, bind_sum, Option.bind_assoc, Option.bind_some, Option.bind_none]
theorem f138.ev (k : Nat) (xs1 : List S146) (xs2 : List (List S142)) (a3 : Int) : evF (f138.X k) (bodyOf Try.f138) Try.f138.ntmps Try.f138.results.toList [.g [.sl 146 xs1, .sl 140 xs2, .s (.int .i64 a3)]] = f138.step k (fun x => f138.w x some) xs1 xs2 a3 := by kernel_rfl
theorem f138.hok (k : Nat) : HOK (f138.X k) (bodyOf Try.f138) where
  l := allP_mem (by exact ⟨ls_of (h0 := fun S => f138.l3.hd k S.ts S.m S.n) (by kernel_rfl) (f138.l3.all k), ls_of (h0 := fun S => f138.l7.hd k S.ts S.m S.n) (by kernel_rfl) (f138.l7.all k), ls_of (h0 := fun S => f138.l12.hd k S.ts S.m S.n) (by kernel_rfl) (f138.l12.all k), ls_of (h0 := fun S => f138.l15.hd k S.ts S.m S.n) (by kernel_rfl) (f138.l15.all k), ls_of (h0 := fun S => f138.l19.hd k S.ts S.m S.n) (by kernel_rfl) (f138.l19.all k), trivial⟩)
  j := allP_mem (by exact trivial)
theorem f138.sound0 (k : Nat) : SoundC env Try.prog 138 (f138.hd k) := by
  intro ps_
  show GoodC _ _ _ ps_ (f138.hd k ps_)
  unfold f138.hd
  refine gC_ok (p := GoodC env Try.prog 138 _) goodC_no fun _ _ h => ?_
  subst h
  refine qG_ok (p := GoodC env Try.prog 138 _) goodC_no fun _ h => ?_
  subst h
  refine gC_ok (p := GoodC env Try.prog 138 _) goodC_no fun _ _ h => ?_
  subst h
  refine qSl_ok (p := GoodC env Try.prog 138 _) goodC_no fun _ h => ?_
  subst h
  refine gC_ok (p := GoodC env Try.prog 138 _) goodC_no fun _ _ h => ?_
  subst h
  refine qSl_ok (p := GoodC env Try.prog 138 _) goodC_no fun _ h => ?_
  subst h
  refine gC_ok (p := GoodC env Try.prog 138 _) goodC_no fun _ _ h => ?_
  subst h
  refine qS_ok (p := GoodC env Try.prog 138 _) goodC_no fun _ h => ?_
  subst h
  refine vI_ok (p := GoodC env Try.prog 138 _) goodC_no fun _ h => ?_
  subst h
  refine gE_ok (p := GoodC env Try.prog 138 _) goodC_no fun h => ?_
  subst h
  refine gE_ok (p := GoodC env Try.prog 138 _) goodC_no fun h => ?_
  subst h
  exact fun_good (fun_sound envOK (cs_sound _ (by exact ⟨⟨f105.sound k, f105.fnok⟩, trivial⟩)) (f138.hok k) Try.func138 rfl) ((f138.ev k _ _ _).trans (f138.nat k _ _ _ _))
theorem f138.sound (k : Nat) : SoundC env Try.prog 138 (f138.e k).F := soundC_coer (f138.sound0 k) [[.rd 146, .rd 140, .no]]
theorem f138.says (k : Nat) (xs1 : List S146) (xs2 : List (List S142)) (a3 : Int) (t50 : (List (List Int))) (h_ : f138 k xs1 xs2 a3 = some t50) : SoundAt env Try.prog 138 [.g [.sl 146 xs1, .sl 140 xs2, .s (.int .i64 a3)]] ⟨.v (.c (.own true 33 t50)), [[]]⟩ :=
  fun_sound envOK (cs_sound _ (by exact ⟨⟨f105.sound k, f105.fnok⟩, trivial⟩)) (f138.hok k) Try.func138 rfl _ _ (((f138.ev k xs1 xs2 a3).trans (f138.nat k _ xs1 xs2 a3)).trans (by rw [h_]; rfl))
theorem f138.fnok : FnOK Try.prog 138 := fn_ok Try.func138 (by kernel_rfl) rfl
def f71.step {R : Type} (k : Nat) (ret : ((List (List Int)) × Int) → Option R) (xs1 : List S146) (xs2 : List (List S142)) (a3 : Int) : Option R :=
  (f42 k xs1 xs2 a3).bind fun t4 => if (!t4) = true then
      ret (([] : List (List Int)), (1 : Int))
    else
      (f138 k xs1 xs2 a3).bind fun t5 => ret (t5, (0 : Int))
def f71 (k : Nat) (xs1 : List S146) (xs2 : List (List S142)) (a3 : Int) : Option ((List (List Int)) × Int) := f71.step k some xs1 xs2 a3
def f71.w {R : Type} : ((List (List Int)) × Int) → (Res env → Option R) → Option R := fun t6 K => K ⟨.tup [.c (.own true 33 t6.1), .c (.s (.int .i64 t6.2))], [[]]⟩
theorem f71.wn (x : ((List (List Int)) × Int)) : ∃ res, ∀ {R : Type} (K : Res env → Option R), f71.w x K = K res := by
  exact ⟨_, fun _ => rfl⟩
def f71.hd (k : Nat) (ps_ : List (P2 env)) : Cl env :=
  gC Cl.no ps_ fun p_ ps_ => qG Cl.no p_ fun cs_ => gC Cl.no cs_ fun c_ cs_ => qSl Cl.no 146 c_ fun xs1 => gC Cl.no cs_ fun c_ cs_ => qSl Cl.no 140 c_ fun xs2 => gC Cl.no cs_ fun c_ cs_ => qS Cl.no c_ fun v_ => vI Cl.no .i64 v_ fun a3 => gE Cl.no cs_ <| gE Cl.no ps_ <| { α := (List (List Int)) × Int, o := f71 k xs1 xs2 a3, w := f71.w, nat := fun x _ => f71.wn x }
def f71.e (k : Nat) : Entry env := ⟨fun ps => f71.hd k (coer [[.rd 146, .rd 140, .no]] ps), [], []⟩
def f71.X (k : Nat) : Ctx env := { C := lookE [(42, f42.e k), (138, f138.e k)], L := lookE [], J := lookE [], keep := lookD [], keepX := lookD [], span := lookN [], eff := fun n => memN n [], prep := lookP [], np := 0 }
theorem f71.nat {R : Type} (k : Nat) (g : ((List (List Int)) × Int) → Option R) (xs1 : List S146) (xs2 : List (List S142)) (a3 : Int) : f71.step k g xs1 xs2 a3 = (f71 k xs1 xs2 a3).bind g := by
  simp only [f71, f71.step, bind_ite, bind_sum, Option.bind_assoc, Option.bind_some, Option.bind_none]
theorem f71.ev (k : Nat) (xs1 : List S146) (xs2 : List (List S142)) (a3 : Int) : evF (f71.X k) (bodyOf Try.f71) Try.f71.ntmps Try.f71.results.toList [.g [.sl 146 xs1, .sl 140 xs2, .s (.int .i64 a3)]] = f71.step k (fun x => f71.w x some) xs1 xs2 a3 := by kernel_rfl
theorem f71.hok (k : Nat) : HOK (f71.X k) (bodyOf Try.f71) where
  l := allP_mem (by exact trivial)
  j := allP_mem (by exact trivial)
theorem f71.sound0 (k : Nat) : SoundC env Try.prog 71 (f71.hd k) := by
  intro ps_
  show GoodC _ _ _ ps_ (f71.hd k ps_)
  unfold f71.hd
  refine gC_ok (p := GoodC env Try.prog 71 _) goodC_no fun _ _ h => ?_
  subst h
  refine qG_ok (p := GoodC env Try.prog 71 _) goodC_no fun _ h => ?_
  subst h
  refine gC_ok (p := GoodC env Try.prog 71 _) goodC_no fun _ _ h => ?_
  subst h
  refine qSl_ok (p := GoodC env Try.prog 71 _) goodC_no fun _ h => ?_
  subst h
  refine gC_ok (p := GoodC env Try.prog 71 _) goodC_no fun _ _ h => ?_
  subst h
  refine qSl_ok (p := GoodC env Try.prog 71 _) goodC_no fun _ h => ?_
  subst h
  refine gC_ok (p := GoodC env Try.prog 71 _) goodC_no fun _ _ h => ?_
  subst h
  refine qS_ok (p := GoodC env Try.prog 71 _) goodC_no fun _ h => ?_
  subst h
  refine vI_ok (p := GoodC env Try.prog 71 _) goodC_no fun _ h => ?_
  subst h
  refine gE_ok (p := GoodC env Try.prog 71 _) goodC_no fun h => ?_
  subst h
  refine gE_ok (p := GoodC env Try.prog 71 _) goodC_no fun h => ?_
  subst h
  exact fun_good (fun_sound envOK (cs_sound _ (by exact ⟨⟨f42.sound k, f42.fnok⟩, ⟨f138.sound k, f138.fnok⟩, trivial⟩)) (f71.hok k) Try.func71 rfl) ((f71.ev k _ _ _).trans (f71.nat k _ _ _ _))
theorem f71.sound (k : Nat) : SoundC env Try.prog 71 (f71.e k).F := soundC_coer (f71.sound0 k) [[.rd 146, .rd 140, .no]]
theorem f71.says (k : Nat) (xs1 : List S146) (xs2 : List (List S142)) (a3 : Int) (t7 : (List (List Int)) × Int) (h_ : f71 k xs1 xs2 a3 = some t7) : SoundAt env Try.prog 71 [.g [.sl 146 xs1, .sl 140 xs2, .s (.int .i64 a3)]] ⟨.tup [.c (.own true 33 t7.1), .c (.s (.int .i64 t7.2))], [[]]⟩ :=
  fun_sound envOK (cs_sound _ (by exact ⟨⟨f42.sound k, f42.fnok⟩, ⟨f138.sound k, f138.fnok⟩, trivial⟩)) (f71.hok k) Try.func71 rfl _ _ (((f71.ev k xs1 xs2 a3).trans (f71.nat k _ xs1 xs2 a3)).trans (by rw [h_]; rfl))
theorem f71.fnok : FnOK Try.prog 71 := fn_ok Try.func71 (by kernel_rfl) rfl
def f83.step {R : Type} (k : Nat) (ret : Bool → Option R) (a1 : Int) (a2 : Int) (a3 : Int) : Option R :=
  if (decide (a1 ≥ a2)) = true then
    ret (decide (a1 ≤ a3))
  else
    ret false
def f83 (k : Nat) (a1 : Int) (a2 : Int) (a3 : Int) : Option Bool := f83.step k some a1 a2 a3
def f83.w {R : Type} : Bool → (Res env → Option R) → Option R := fun t4 K => K ⟨.v (.c (.s (.bool t4))), [[], [], []]⟩
theorem f83.wn (x : Bool) : ∃ res, ∀ {R : Type} (K : Res env → Option R), f83.w x K = K res := by
  exact ⟨_, fun _ => rfl⟩
def f83.hd (k : Nat) (ps_ : List (P2 env)) : Cl env :=
  gC Cl.no ps_ fun p_ ps_ => qC Cl.no p_ fun c_ => qS Cl.no c_ fun v_ => vI Cl.no .i64 v_ fun a1 => gC Cl.no ps_ fun p_ ps_ => qC Cl.no p_ fun c_ => qS Cl.no c_ fun v_ => vI Cl.no .i64 v_ fun a2 => gC Cl.no ps_ fun p_ ps_ => qC Cl.no p_ fun c_ => qS Cl.no c_ fun v_ => vI Cl.no .i64 v_ fun a3 => gE Cl.no ps_ <| { α := Bool, o := f83 k a1 a2 a3, w := f83.w, nat := fun x _ => f83.wn x }
def f83.e (k : Nat) : Entry env := ⟨f83.hd k, [], []⟩
def f83.X (k : Nat) : Ctx env := { C := lookE [], L := lookE [], J := lookE [], keep := lookD [], keepX := lookD [], span := lookN [], eff := fun n => memN n [], prep := lookP [], np := 0 }
theorem f83.nat {R : Type} (k : Nat) (g : Bool → Option R) (a1 : Int) (a2 : Int) (a3 : Int) : f83.step k g a1 a2 a3 = (f83 k a1 a2 a3).bind g := by
  simp only [f83, f83.step, bind_ite, bind_sum, Option.bind_assoc, Option.bind_some, Option.bind_none]
theorem f83.ev (k : Nat) (a1 : Int) (a2 : Int) (a3 : Int) : evF (f83.X k) (bodyOf Try.f83) Try.f83.ntmps Try.f83.results.toList [.v (.c (.s (.int .i64 a1))), .v (.c (.s (.int .i64 a2))), .v (.c (.s (.int .i64 a3)))] = f83.step k (fun x => f83.w x some) a1 a2 a3 := by kernel_rfl
theorem f83.hok (k : Nat) : HOK (f83.X k) (bodyOf Try.f83) where
  l := allP_mem (by exact trivial)
  j := allP_mem (by exact trivial)
theorem f83.sound (k : Nat) : SoundC env Try.prog 83 ((f83.e k).F) := by
  intro ps_
  show GoodC _ _ _ ps_ (f83.hd k ps_)
  unfold f83.hd
  refine gC_ok (p := GoodC env Try.prog 83 _) goodC_no fun _ _ h => ?_
  subst h
  refine qC_ok (p := GoodC env Try.prog 83 _) goodC_no fun _ h => ?_
  subst h
  refine qS_ok (p := GoodC env Try.prog 83 _) goodC_no fun _ h => ?_
  subst h
  refine vI_ok (p := GoodC env Try.prog 83 _) goodC_no fun _ h => ?_
  subst h
  refine gC_ok (p := GoodC env Try.prog 83 _) goodC_no fun _ _ h => ?_
  subst h
  refine qC_ok (p := GoodC env Try.prog 83 _) goodC_no fun _ h => ?_
  subst h
  refine qS_ok (p := GoodC env Try.prog 83 _) goodC_no fun _ h => ?_
  subst h
  refine vI_ok (p := GoodC env Try.prog 83 _) goodC_no fun _ h => ?_
  subst h
  refine gC_ok (p := GoodC env Try.prog 83 _) goodC_no fun _ _ h => ?_
  subst h
  refine qC_ok (p := GoodC env Try.prog 83 _) goodC_no fun _ h => ?_
  subst h
  refine qS_ok (p := GoodC env Try.prog 83 _) goodC_no fun _ h => ?_
  subst h
  refine vI_ok (p := GoodC env Try.prog 83 _) goodC_no fun _ h => ?_
  subst h
  refine gE_ok (p := GoodC env Try.prog 83 _) goodC_no fun h => ?_
  subst h
  exact fun_good (fun_sound envOK (cs_sound _ (by exact trivial)) (f83.hok k) Try.func83 rfl) ((f83.ev k _ _ _).trans (f83.nat k _ _ _ _))
theorem f83.says (k : Nat) (a1 : Int) (a2 : Int) (a3 : Int) (t5 : Bool) (h_ : f83 k a1 a2 a3 = some t5) : SoundAt env Try.prog 83 [.v (.c (.s (.int .i64 a1))), .v (.c (.s (.int .i64 a2))), .v (.c (.s (.int .i64 a3)))] ⟨.v (.c (.s (.bool t5))), [[], [], []]⟩ :=
  fun_sound envOK (cs_sound _ (by exact trivial)) (f83.hok k) Try.func83 rfl _ _ (((f83.ev k a1 a2 a3).trans (f83.nat k _ a1 a2 a3)).trans (by rw [h_]; rfl))
theorem f83.fnok : FnOK Try.prog 83 := fn_ok Try.func83 (by kernel_rfl) rfl
def f109.l5.step {R : Type} (k : Nat) (rec_ : Int → (List S146) → Int → Int → Bool → Bool → Bool → Bool → Bool → Bool → Bool → Bool → Bool → Bool → Bool → Bool → Bool → Bool → Bool → Bool → Bool → Bool → Bool → Bool → Bool → Bool → Bool → Bool → Bool → Option R) (ret : (Bool ⊕ (Unit)) → Option R) (a4 : Int) (xs5 : List S146) (a6 : Int) (a7 : Int) (b8 : Bool) (b9 : Bool) (b10 : Bool) (b11 : Bool) (b12 : Bool) (b13 : Bool) (b14 : Bool) (b15 : Bool) (b16 : Bool) (b17 : Bool) (b18 : Bool) (b19 : Bool) (b20 : Bool) (b21 : Bool) (b22 : Bool) (b23 : Bool) (b24 : Bool) (b25 : Bool) (b26 : Bool) (b27 : Bool) (b28 : Bool) (b29 : Bool) (b30 : Bool) (b31 : Bool) (b32 : Bool) : Option R :=
  if (decide (a7 < a6)) = true then
    if (0 : Int) ≤ a7 then
      if a7 < ((List.length xs5 : Nat) : Int) then
        (f83 k (List.getD xs5 (Int.toNat a7) (⟨(0 : Int), (0 : Int), (0 : Int), false⟩ : S146)).f0 (0 : Int) (IntKind.i64.wrap (a4 - (1 : Int)))).bind fun t33 => if (!t33) = false then
            (f83 k (List.getD xs5 (Int.toNat a7) (⟨(0 : Int), (0 : Int), (0 : Int), false⟩ : S146)).f1 (0 : Int) (IntKind.i64.wrap (a4 - (1 : Int)))).bind fun t34 => if (!t34) = false then
                if (decide ((List.getD xs5 (Int.toNat a7) (⟨(0 : Int), (0 : Int), (0 : Int), false⟩ : S146)).f0 = (List.getD xs5 (Int.toNat a7) (⟨(0 : Int), (0 : Int), (0 : Int), false⟩ : S146)).f1)) = false then
                  (f83 k (List.getD xs5 (Int.toNat a7) (⟨(0 : Int), (0 : Int), (0 : Int), false⟩ : S146)).f2 (1 : Int) (16 : Int)).bind fun t35 => if (!t35) = false then
                      if (0 : Int) ≤ (List.getD xs5 (Int.toNat a7) (⟨(0 : Int), (0 : Int), (0 : Int), false⟩ : S146)).f0 then
                        if (List.getD xs5 (Int.toNat a7) (⟨(0 : Int), (0 : Int), (0 : Int), false⟩ : S146)).f0 < (5 : Int) then
                          if (0 : Int) ≤ (List.getD xs5 (Int.toNat a7) (⟨(0 : Int), (0 : Int), (0 : Int), false⟩ : S146)).f1 then
                            if (List.getD xs5 (Int.toNat a7) (⟨(0 : Int), (0 : Int), (0 : Int), false⟩ : S146)).f1 < (5 : Int) then
                              if (((Int.toNat (List.getD xs5 (Int.toNat a7) (⟨(0 : Int), (0 : Int), (0 : Int), false⟩ : S146)).f0) * 5) + ((Int.toNat (List.getD xs5 (Int.toNat a7) (⟨(0 : Int), (0 : Int), (0 : Int), false⟩ : S146)).f1) * 1)) < 25 then
                                if (List.getD [b8, b9, b10, b11, b12, b13, b14, b15, b16, b17, b18, b19, b20, b21, b22, b23, b24, b25, b26, b27, b28, b29, b30, b31, b32] (((Int.toNat (List.getD xs5 (Int.toNat a7) (⟨(0 : Int), (0 : Int), (0 : Int), false⟩ : S146)).f0) * 5) + ((Int.toNat (List.getD xs5 (Int.toNat a7) (⟨(0 : Int), (0 : Int), (0 : Int), false⟩ : S146)).f1) * 1)) false) = true then
                                  ret (.inl false)
                                else
                                  if (0 : Int) ≤ (List.getD xs5 (Int.toNat a7) (⟨(0 : Int), (0 : Int), (0 : Int), false⟩ : S146)).f0 then
                                    if (List.getD xs5 (Int.toNat a7) (⟨(0 : Int), (0 : Int), (0 : Int), false⟩ : S146)).f0 < (5 : Int) then
                                      if (0 : Int) ≤ (List.getD xs5 (Int.toNat a7) (⟨(0 : Int), (0 : Int), (0 : Int), false⟩ : S146)).f1 then
                                        if (List.getD xs5 (Int.toNat a7) (⟨(0 : Int), (0 : Int), (0 : Int), false⟩ : S146)).f1 < (5 : Int) then
                                          if (((Int.toNat (List.getD xs5 (Int.toNat a7) (⟨(0 : Int), (0 : Int), (0 : Int), false⟩ : S146)).f0) * 5) + ((Int.toNat (List.getD xs5 (Int.toNat a7) (⟨(0 : Int), (0 : Int), (0 : Int), false⟩ : S146)).f1) * 1)) < 25 then
                                            if (0 : Int) ≤ (List.getD xs5 (Int.toNat a7) (⟨(0 : Int), (0 : Int), (0 : Int), false⟩ : S146)).f1 then
                                              if (List.getD xs5 (Int.toNat a7) (⟨(0 : Int), (0 : Int), (0 : Int), false⟩ : S146)).f1 < (5 : Int) then
                                                if (0 : Int) ≤ (List.getD xs5 (Int.toNat a7) (⟨(0 : Int), (0 : Int), (0 : Int), false⟩ : S146)).f0 then
                                                  if (List.getD xs5 (Int.toNat a7) (⟨(0 : Int), (0 : Int), (0 : Int), false⟩ : S146)).f0 < (5 : Int) then
                                                    if (((Int.toNat (List.getD xs5 (Int.toNat a7) (⟨(0 : Int), (0 : Int), (0 : Int), false⟩ : S146)).f1) * 5) + ((Int.toNat (List.getD xs5 (Int.toNat a7) (⟨(0 : Int), (0 : Int), (0 : Int), false⟩ : S146)).f0) * 1)) < 25 then
                                                      (let l1_ := (List.set [b8, b9, b10, b11, b12, b13, b14, b15, b16, b17, b18, b19, b20, b21, b22, b23, b24, b25, b26, b27, b28, b29, b30, b31, b32] (((Int.toNat (List.getD xs5 (Int.toNat a7) (⟨(0 : Int), (0 : Int), (0 : Int), false⟩ : S146)).f0) * 5) + ((Int.toNat (List.getD xs5 (Int.toNat a7) (⟨(0 : Int), (0 : Int), (0 : Int), false⟩ : S146)).f1) * 1)) true); let l2_ := (List.set [(List.getD l1_ 0 false), (List.getD l1_ 1 false), (List.getD l1_ 2 false), (List.getD l1_ 3 false), (List.getD l1_ 4 false), (List.getD l1_ 5 false), (List.getD l1_ 6 false), (List.getD l1_ 7 false), (List.getD l1_ 8 false), (List.getD l1_ 9 false), (List.getD l1_ 10 false), (List.getD l1_ 11 false), (List.getD l1_ 12 false), (List.getD l1_ 13 false), (List.getD l1_ 14 false), (List.getD l1_ 15 false), (List.getD l1_ 16 false), (List.getD l1_ 17 false), (List.getD l1_ 18 false), (List.getD l1_ 19 false), (List.getD l1_ 20 false), (List.getD l1_ 21 false), (List.getD l1_ 22 false), (List.getD l1_ 23 false), (List.getD l1_ 24 false)] (((Int.toNat (List.getD xs5 (Int.toNat a7) (⟨(0 : Int), (0 : Int), (0 : Int), false⟩ : S146)).f1) * 5) + ((Int.toNat (List.getD xs5 (Int.toNat a7) (⟨(0 : Int), (0 : Int), (0 : Int), false⟩ : S146)).f0) * 1)) true); rec_ a4 xs5 a6 (IntKind.i64.wrap (a7 + (1 : Int))) (List.getD l2_ 0 false) (List.getD l2_ 1 false) (List.getD l2_ 2 false) (List.getD l2_ 3 false) (List.getD l2_ 4 false) (List.getD l2_ 5 false) (List.getD l2_ 6 false) (List.getD l2_ 7 false) (List.getD l2_ 8 false) (List.getD l2_ 9 false) (List.getD l2_ 10 false) (List.getD l2_ 11 false) (List.getD l2_ 12 false) (List.getD l2_ 13 false) (List.getD l2_ 14 false) (List.getD l2_ 15 false) (List.getD l2_ 16 false) (List.getD l2_ 17 false) (List.getD l2_ 18 false) (List.getD l2_ 19 false) (List.getD l2_ 20 false) (List.getD l2_ 21 false) (List.getD l2_ 22 false) (List.getD l2_ 23 false) (List.getD l2_ 24 false))
                                                    else none
                                                  else none
                                                else none
                                              else none
                                            else none
                                          else none
                                        else none
                                      else none
                                    else none
                                  else none
                              else none
                            else none
                          else none
                        else none
                      else none
                    else
                      ret (.inl false)
                else
                  ret (.inl false)
              else
                ret (.inl false)
          else
            ret (.inl false)
      else none
    else none
  else
    ret (.inr ())
def f109.l5 (k : Nat) : Nat → Int → (List S146) → Int → Int → Bool → Bool → Bool → Bool → Bool → Bool → Bool → Bool → Bool → Bool → Bool → Bool → Bool → Bool → Bool → Bool → Bool → Bool → Bool → Bool → Bool → Bool → Bool → Bool → Bool → Option (Bool ⊕ (Unit))
  | 0, _, _, _, _, _, _, _, _, _, _, _, _, _, _, _, _, _, _, _, _, _, _, _, _, _, _, _, _, _ => none
  | j + 1, a4, xs5, a6, a7, b8, b9, b10, b11, b12, b13, b14, b15, b16, b17, b18, b19, b20, b21, b22, b23, b24, b25, b26, b27, b28, b29, b30, b31, b32 => f109.l5.step k (fun a4 xs5 a6 a7 b8 b9 b10 b11 b12 b13 b14 b15 b16 b17 b18 b19 b20 b21 b22 b23 b24 b25 b26 b27 b28 b29 b30 b31 b32 => f109.l5 k j a4 xs5 a6 a7 b8 b9 b10 b11 b12 b13 b14 b15 b16 b17 b18 b19 b20 b21 b22 b23 b24 b25 b26 b27 b28 b29 b30 b31 b32) some a4 xs5 a6 a7 b8 b9 b10 b11 b12 b13 b14 b15 b16 b17 b18 b19 b20 b21 b22 b23 b24 b25 b26 b27 b28 b29 b30 b31 b32
def f109.l5.w {R : Type} : (Bool ⊕ (Unit)) → (Exit → St env → Option R) → Option R := fun x K => Sum.elim (fun t38 => K .ret ⟨fullT [4] 0 71 [.v (.c (.s (.bool t38)))], [], 1138⟩) (fun t39 => K (.exit 0) ⟨fullT [] 0 71 [], [], 1138⟩) x
def f109.l5.st (a4 : Int) (xs5 : List S146) (a6 : Int) (a7 : Int) (b8 : Bool) (b9 : Bool) (b10 : Bool) (b11 : Bool) (b12 : Bool) (b13 : Bool) (b14 : Bool) (b15 : Bool) (b16 : Bool) (b17 : Bool) (b18 : Bool) (b19 : Bool) (b20 : Bool) (b21 : Bool) (b22 : Bool) (b23 : Bool) (b24 : Bool) (b25 : Bool) (b26 : Bool) (b27 : Bool) (b28 : Bool) (b29 : Bool) (b30 : Bool) (b31 : Bool) (b32 : Bool) : St env := ⟨fullT [0, 5, 16, 17, 18] 0 71 [.v (.c (.s (.int .i64 a4))), .v (.c (.bp 146 0)), .v (.c (.imm 146 xs5)), .v (.c (.s (.int .i64 a6))), .v (.c (.s (.int .i64 a7)))], [(146, .box [.s (.bool b8), .s (.bool b9), .s (.bool b10), .s (.bool b11), .s (.bool b12), .s (.bool b13), .s (.bool b14), .s (.bool b15), .s (.bool b16), .s (.bool b17), .s (.bool b18), .s (.bool b19), .s (.bool b20), .s (.bool b21), .s (.bool b22), .s (.bool b23), .s (.bool b24), .s (.bool b25), .s (.bool b26), .s (.bool b27), .s (.bool b28), .s (.bool b29), .s (.bool b30), .s (.bool b31), .s (.bool b32)])], 210⟩
def f109.l5.hd (k : Nat) (ts_ : List (AV env)) (mm_ : Mem env) (n_ : Nat) : LCl env :=
  gTs LCl.no [0, 5, 16, 17, 18] 71 ts_ fun l_ => gV LCl.no l_ fun a_ l_ => rV LCl.no a_ fun v_ => vI LCl.no .i64 v_ fun a4 => gV LCl.no l_ fun a_ l_ => rBp LCl.no 146 0 a_ <| gV LCl.no l_ fun a_ l_ => rImm LCl.no 146 a_ fun xs5 => gV LCl.no l_ fun a_ l_ => rV LCl.no a_ fun v_ => vI LCl.no .i64 v_ fun a6 => gV LCl.no l_ fun a_ l_ => rV LCl.no a_ fun v_ => vI LCl.no .i64 v_ fun a7 => gE LCl.no l_ <| mBox LCl.no 146 mm_ fun c_ m_ => gC LCl.no c_ fun a_ c_ => rV LCl.no a_ fun v_ => vB LCl.no v_ fun b8 => gC LCl.no c_ fun a_ c_ => rV LCl.no a_ fun v_ => vB LCl.no v_ fun b9 => gC LCl.no c_ fun a_ c_ => rV LCl.no a_ fun v_ => vB LCl.no v_ fun b10 => gC LCl.no c_ fun a_ c_ => rV LCl.no a_ fun v_ => vB LCl.no v_ fun b11 => gC LCl.no c_ fun a_ c_ => rV LCl.no a_ fun v_ => vB LCl.no v_ fun b12 => gC LCl.no c_ fun a_ c_ => rV LCl.no a_ fun v_ => vB LCl.no v_ fun b13 => gC LCl.no c_ fun a_ c_ => rV LCl.no a_ fun v_ => vB LCl.no v_ fun b14 => gC LCl.no c_ fun a_ c_ => rV LCl.no a_ fun v_ => vB LCl.no v_ fun b15 => gC LCl.no c_ fun a_ c_ => rV LCl.no a_ fun v_ => vB LCl.no v_ fun b16 => gC LCl.no c_ fun a_ c_ => rV LCl.no a_ fun v_ => vB LCl.no v_ fun b17 => gC LCl.no c_ fun a_ c_ => rV LCl.no a_ fun v_ => vB LCl.no v_ fun b18 => gC LCl.no c_ fun a_ c_ => rV LCl.no a_ fun v_ => vB LCl.no v_ fun b19 => gC LCl.no c_ fun a_ c_ => rV LCl.no a_ fun v_ => vB LCl.no v_ fun b20 => gC LCl.no c_ fun a_ c_ => rV LCl.no a_ fun v_ => vB LCl.no v_ fun b21 => gC LCl.no c_ fun a_ c_ => rV LCl.no a_ fun v_ => vB LCl.no v_ fun b22 => gC LCl.no c_ fun a_ c_ => rV LCl.no a_ fun v_ => vB LCl.no v_ fun b23 => gC LCl.no c_ fun a_ c_ => rV LCl.no a_ fun v_ => vB LCl.no v_ fun b24 => gC LCl.no c_ fun a_ c_ => rV LCl.no a_ fun v_ => vB LCl.no v_ fun b25 => gC LCl.no c_ fun a_ c_ => rV LCl.no a_ fun v_ => vB LCl.no v_ fun b26 => gC LCl.no c_ fun a_ c_ => rV LCl.no a_ fun v_ => vB LCl.no v_ fun b27 => gC LCl.no c_ fun a_ c_ => rV LCl.no a_ fun v_ => vB LCl.no v_ fun b28 => gC LCl.no c_ fun a_ c_ => rV LCl.no a_ fun v_ => vB LCl.no v_ fun b29 => gC LCl.no c_ fun a_ c_ => rV LCl.no a_ fun v_ => vB LCl.no v_ fun b30 => gC LCl.no c_ fun a_ c_ => rV LCl.no a_ fun v_ => vB LCl.no v_ fun b31 => gC LCl.no c_ fun a_ c_ => rV LCl.no a_ fun v_ => vB LCl.no v_ fun b32 => gE LCl.no c_ <| gE LCl.no m_ <| gN LCl.no 210 n_ { α := Bool ⊕ (Unit), o := f109.l5 k k a4 xs5 a6 a7 b8 b9 b10 b11 b12 b13 b14 b15 b16 b17 b18 b19 b20 b21 b22 b23 b24 b25 b26 b27 b28 b29 b30 b31 b32, w := f109.l5.w }
def f109.step {R : Type} (k : Nat) (ret : Bool → Option R) (a1 : Int) (xs2 : List S146) : Option R :=
  (f83 k a1 (1 : Int) (5 : Int)).bind fun t3 => if (!t3) = false then
      if (decide ((((List.length xs2) : Nat) : Int) > (8 : Int))) = true then
        ret false
      else
        (f109.l5 k k a1 xs2 (((List.length xs2) : Nat) : Int) (0 : Int) false false false false false false false false false false false false false false false false false false false false false false false false false).bind (Sum.elim (fun t36 => ret t36) (fun t37 => ret true))
    else
      ret false
def f109 (k : Nat) (a1 : Int) (xs2 : List S146) : Option Bool := f109.step k some a1 xs2
def f109.w {R : Type} : Bool → (Res env → Option R) → Option R := fun t40 K => K ⟨.v (.c (.s (.bool t40))), [[], []]⟩
theorem f109.wn (x : Bool) : ∃ res, ∀ {R : Type} (K : Res env → Option R), f109.w x K = K res := by
  exact ⟨_, fun _ => rfl⟩
def f109.hd (k : Nat) (ps_ : List (P2 env)) : Cl env :=
  gC Cl.no ps_ fun p_ ps_ => qC Cl.no p_ fun c_ => qS Cl.no c_ fun v_ => vI Cl.no .i64 v_ fun a1 => gC Cl.no ps_ fun p_ ps_ => qC Cl.no p_ fun c_ => qSl Cl.no 146 c_ fun xs2 => gE Cl.no ps_ <| { α := Bool, o := f109 k a1 xs2, w := f109.w, nat := fun x _ => f109.wn x }
def f109.e (k : Nat) : Entry env := ⟨fun ps => f109.hd k (coer [[.no], [.rd 146]] ps), [], []⟩
def f109.X (k : Nat) : Ctx env := { C := lookE [(83, f83.e k)], L := lookE [(5, fun S => f109.l5.hd k S.ts S.m S.n)], J := lookE [], keep := lookD [(5, [0, 5, 16, 17, 18])], keepX := lookD [(5, [4])], span := lookN [(5, 928)], eff := fun n => memN n [9], prep := lookP [], np := 0 }
theorem f109.l5.nat {R : Type} (k : Nat) (rec_ : Int → (List S146) → Int → Int → Bool → Bool → Bool → Bool → Bool → Bool → Bool → Bool → Bool → Bool → Bool → Bool → Bool → Bool → Bool → Bool → Bool → Bool → Bool → Bool → Bool → Bool → Bool → Bool → Bool → Option (Bool ⊕ (Unit))) (g : (Bool ⊕ (Unit)) → Option R) (a4 : Int) (xs5 : List S146) (a6 : Int) (a7 : Int) (b8 : Bool) (b9 : Bool) (b10 : Bool) (b11 : Bool) (b12 : Bool) (b13 : Bool) (b14 : Bool) (b15 : Bool) (b16 : Bool) (b17 : Bool) (b18 : Bool) (b19 : Bool) (b20 : Bool) (b21 : Bool) (b22 : Bool) (b23 : Bool) (b24 : Bool) (b25 : Bool) (b26 : Bool) (b27 : Bool) (b28 : Bool) (b29 : Bool) (b30 : Bool) (b31 : Bool) (b32 : Bool) : (f109.l5.step k rec_ some a4 xs5 a6 a7 b8 b9 b10 b11 b12 b13 b14 b15 b16 b17 b18 b19 b20 b21 b22 b23 b24 b25 b26 b27 b28 b29 b30 b31 b32).bind g = f109.l5.step k (fun a4 xs5 a6 a7 b8 b9 b10 b11 b12 b13 b14 b15 b16 b17 b18 b19 b20 b21 b22 b23 b24 b25 b26 b27 b28 b29 b30 b31 b32 => (rec_ a4 xs5 a6 a7 b8 b9 b10 b11 b12 b13 b14 b15 b16 b17 b18 b19 b20 b21 b22 b23 b24 b25 b26 b27 b28 b29 b30 b31 b32).bind g) g a4 xs5 a6 a7 b8 b9 b10 b11 b12 b13 b14 b15 b16 b17 b18 b19 b20 b21 b22 b23 b24 b25 b26 b27 b28 b29 b30 b31 b32 := by
  simp only [f109.l5.step, bind_ite, bind_sum, Option.bind_assoc, Option.bind_some, Option.bind_none]
theorem f109.l5.good (k : Nat) (a4 : Int) (xs5 : List S146) (a6 : Int) (a7 : Int) (b8 : Bool) (b9 : Bool) (b10 : Bool) (b11 : Bool) (b12 : Bool) (b13 : Bool) (b14 : Bool) (b15 : Bool) (b16 : Bool) (b17 : Bool) (b18 : Bool) (b19 : Bool) (b20 : Bool) (b21 : Bool) (b22 : Bool) (b23 : Bool) (b24 : Bool) (b25 : Bool) (b26 : Bool) (b27 : Bool) (b28 : Bool) (b29 : Bool) (b30 : Bool) (b31 : Bool) (b32 : Bool) : GoodL (f109.X k) (nthC 0 (loopsOf (bodyOf Try.f109))) (f109.l5.st a4 xs5 a6 a7 b8 b9 b10 b11 b12 b13 b14 b15 b16 b17 b18 b19 b20 b21 b22 b23 b24 b25 b26 b27 b28 b29 b30 b31 b32) { α := (Bool ⊕ (Unit)), o := f109.l5 k k a4 xs5 a6 a7 b8 b9 b10 b11 b12 b13 b14 b15 b16 b17 b18 b19 b20 b21 b22 b23 b24 b25 b26 b27 b28 b29 b30 b31 b32, w := f109.l5.w } :=
  loop_good (ι := Int × (List S146) × Int × Int × Bool × Bool × Bool × Bool × Bool × Bool × Bool × Bool × Bool × Bool × Bool × Bool × Bool × Bool × Bool × Bool × Bool × Bool × Bool × Bool × Bool × Bool × Bool × Bool × Bool) (α := (Bool ⊕ (Unit))) (fun i => f109.l5.st i.1 i.2.1 i.2.2.1 i.2.2.2.1 i.2.2.2.2.1 i.2.2.2.2.2.1 i.2.2.2.2.2.2.1 i.2.2.2.2.2.2.2.1 i.2.2.2.2.2.2.2.2.1 i.2.2.2.2.2.2.2.2.2.1 i.2.2.2.2.2.2.2.2.2.2.1 i.2.2.2.2.2.2.2.2.2.2.2.1 i.2.2.2.2.2.2.2.2.2.2.2.2.1 i.2.2.2.2.2.2.2.2.2.2.2.2.2.1 i.2.2.2.2.2.2.2.2.2.2.2.2.2.2.1 i.2.2.2.2.2.2.2.2.2.2.2.2.2.2.2.1 i.2.2.2.2.2.2.2.2.2.2.2.2.2.2.2.2.1 i.2.2.2.2.2.2.2.2.2.2.2.2.2.2.2.2.2.1 i.2.2.2.2.2.2.2.2.2.2.2.2.2.2.2.2.2.2.1 i.2.2.2.2.2.2.2.2.2.2.2.2.2.2.2.2.2.2.2.1 i.2.2.2.2.2.2.2.2.2.2.2.2.2.2.2.2.2.2.2.2.1 i.2.2.2.2.2.2.2.2.2.2.2.2.2.2.2.2.2.2.2.2.2.1 i.2.2.2.2.2.2.2.2.2.2.2.2.2.2.2.2.2.2.2.2.2.2.1 i.2.2.2.2.2.2.2.2.2.2.2.2.2.2.2.2.2.2.2.2.2.2.2.1 i.2.2.2.2.2.2.2.2.2.2.2.2.2.2.2.2.2.2.2.2.2.2.2.2.1 i.2.2.2.2.2.2.2.2.2.2.2.2.2.2.2.2.2.2.2.2.2.2.2.2.2.1 i.2.2.2.2.2.2.2.2.2.2.2.2.2.2.2.2.2.2.2.2.2.2.2.2.2.2.1 i.2.2.2.2.2.2.2.2.2.2.2.2.2.2.2.2.2.2.2.2.2.2.2.2.2.2.2.1 i.2.2.2.2.2.2.2.2.2.2.2.2.2.2.2.2.2.2.2.2.2.2.2.2.2.2.2.2) (fun j i => f109.l5 k j i.1 i.2.1 i.2.2.1 i.2.2.2.1 i.2.2.2.2.1 i.2.2.2.2.2.1 i.2.2.2.2.2.2.1 i.2.2.2.2.2.2.2.1 i.2.2.2.2.2.2.2.2.1 i.2.2.2.2.2.2.2.2.2.1 i.2.2.2.2.2.2.2.2.2.2.1 i.2.2.2.2.2.2.2.2.2.2.2.1 i.2.2.2.2.2.2.2.2.2.2.2.2.1 i.2.2.2.2.2.2.2.2.2.2.2.2.2.1 i.2.2.2.2.2.2.2.2.2.2.2.2.2.2.1 i.2.2.2.2.2.2.2.2.2.2.2.2.2.2.2.1 i.2.2.2.2.2.2.2.2.2.2.2.2.2.2.2.2.1 i.2.2.2.2.2.2.2.2.2.2.2.2.2.2.2.2.2.1 i.2.2.2.2.2.2.2.2.2.2.2.2.2.2.2.2.2.2.1 i.2.2.2.2.2.2.2.2.2.2.2.2.2.2.2.2.2.2.2.1 i.2.2.2.2.2.2.2.2.2.2.2.2.2.2.2.2.2.2.2.2.1 i.2.2.2.2.2.2.2.2.2.2.2.2.2.2.2.2.2.2.2.2.2.1 i.2.2.2.2.2.2.2.2.2.2.2.2.2.2.2.2.2.2.2.2.2.2.1 i.2.2.2.2.2.2.2.2.2.2.2.2.2.2.2.2.2.2.2.2.2.2.2.1 i.2.2.2.2.2.2.2.2.2.2.2.2.2.2.2.2.2.2.2.2.2.2.2.2.1 i.2.2.2.2.2.2.2.2.2.2.2.2.2.2.2.2.2.2.2.2.2.2.2.2.2.1 i.2.2.2.2.2.2.2.2.2.2.2.2.2.2.2.2.2.2.2.2.2.2.2.2.2.2.1 i.2.2.2.2.2.2.2.2.2.2.2.2.2.2.2.2.2.2.2.2.2.2.2.2.2.2.2.1 i.2.2.2.2.2.2.2.2.2.2.2.2.2.2.2.2.2.2.2.2.2.2.2.2.2.2.2.2) f109.l5.w (fun rec_ ret i => f109.l5.step k (fun a4 xs5 a6 a7 b8 b9 b10 b11 b12 b13 b14 b15 b16 b17 b18 b19 b20 b21 b22 b23 b24 b25 b26 b27 b28 b29 b30 b31 b32 => rec_ (a4, xs5, a6, a7, b8, b9, b10, b11, b12, b13, b14, b15, b16, b17, b18, b19, b20, b21, b22, b23, b24, b25, b26, b27, b28, b29, b30, b31, b32)) ret i.1 i.2.1 i.2.2.1 i.2.2.2.1 i.2.2.2.2.1 i.2.2.2.2.2.1 i.2.2.2.2.2.2.1 i.2.2.2.2.2.2.2.1 i.2.2.2.2.2.2.2.2.1 i.2.2.2.2.2.2.2.2.2.1 i.2.2.2.2.2.2.2.2.2.2.1 i.2.2.2.2.2.2.2.2.2.2.2.1 i.2.2.2.2.2.2.2.2.2.2.2.2.1 i.2.2.2.2.2.2.2.2.2.2.2.2.2.1 i.2.2.2.2.2.2.2.2.2.2.2.2.2.2.1 i.2.2.2.2.2.2.2.2.2.2.2.2.2.2.2.1 i.2.2.2.2.2.2.2.2.2.2.2.2.2.2.2.2.1 i.2.2.2.2.2.2.2.2.2.2.2.2.2.2.2.2.2.1 i.2.2.2.2.2.2.2.2.2.2.2.2.2.2.2.2.2.2.1 i.2.2.2.2.2.2.2.2.2.2.2.2.2.2.2.2.2.2.2.1 i.2.2.2.2.2.2.2.2.2.2.2.2.2.2.2.2.2.2.2.2.1 i.2.2.2.2.2.2.2.2.2.2.2.2.2.2.2.2.2.2.2.2.2.1 i.2.2.2.2.2.2.2.2.2.2.2.2.2.2.2.2.2.2.2.2.2.2.1 i.2.2.2.2.2.2.2.2.2.2.2.2.2.2.2.2.2.2.2.2.2.2.2.1 i.2.2.2.2.2.2.2.2.2.2.2.2.2.2.2.2.2.2.2.2.2.2.2.2.1 i.2.2.2.2.2.2.2.2.2.2.2.2.2.2.2.2.2.2.2.2.2.2.2.2.2.1 i.2.2.2.2.2.2.2.2.2.2.2.2.2.2.2.2.2.2.2.2.2.2.2.2.2.2.1 i.2.2.2.2.2.2.2.2.2.2.2.2.2.2.2.2.2.2.2.2.2.2.2.2.2.2.2.1 i.2.2.2.2.2.2.2.2.2.2.2.2.2.2.2.2.2.2.2.2.2.2.2.2.2.2.2.2)
    (fun _ => rfl) (fun _ _ => rfl) (fun rec_ g i => f109.l5.nat k _ g i.1 i.2.1 i.2.2.1 i.2.2.2.1 i.2.2.2.2.1 i.2.2.2.2.2.1 i.2.2.2.2.2.2.1 i.2.2.2.2.2.2.2.1 i.2.2.2.2.2.2.2.2.1 i.2.2.2.2.2.2.2.2.2.1 i.2.2.2.2.2.2.2.2.2.2.1 i.2.2.2.2.2.2.2.2.2.2.2.1 i.2.2.2.2.2.2.2.2.2.2.2.2.1 i.2.2.2.2.2.2.2.2.2.2.2.2.2.1 i.2.2.2.2.2.2.2.2.2.2.2.2.2.2.1 i.2.2.2.2.2.2.2.2.2.2.2.2.2.2.2.1 i.2.2.2.2.2.2.2.2.2.2.2.2.2.2.2.2.1 i.2.2.2.2.2.2.2.2.2.2.2.2.2.2.2.2.2.1 i.2.2.2.2.2.2.2.2.2.2.2.2.2.2.2.2.2.2.1 i.2.2.2.2.2.2.2.2.2.2.2.2.2.2.2.2.2.2.2.1 i.2.2.2.2.2.2.2.2.2.2.2.2.2.2.2.2.2.2.2.2.1 i.2.2.2.2.2.2.2.2.2.2.2.2.2.2.2.2.2.2.2.2.2.1 i.2.2.2.2.2.2.2.2.2.2.2.2.2.2.2.2.2.2.2.2.2.2.1 i.2.2.2.2.2.2.2.2.2.2.2.2.2.2.2.2.2.2.2.2.2.2.2.1 i.2.2.2.2.2.2.2.2.2.2.2.2.2.2.2.2.2.2.2.2.2.2.2.2.1 i.2.2.2.2.2.2.2.2.2.2.2.2.2.2.2.2.2.2.2.2.2.2.2.2.2.1 i.2.2.2.2.2.2.2.2.2.2.2.2.2.2.2.2.2.2.2.2.2.2.2.2.2.2.1 i.2.2.2.2.2.2.2.2.2.2.2.2.2.2.2.2.2.2.2.2.2.2.2.2.2.2.2.1 i.2.2.2.2.2.2.2.2.2.2.2.2.2.2.2.2.2.2.2.2.2.2.2.2.2.2.2.2) (fun {R} i0 i rec_ K => by kernel_rfl) k (a4, xs5, a6, a7, b8, b9, b10, b11, b12, b13, b14, b15, b16, b17, b18, b19, b20, b21, b22, b23, b24, b25, b26, b27, b28, b29, b30, b31, b32)
theorem f109.l5.all (k : Nat) (S : St env) : GoodL (f109.X k) (nthC 0 (loopsOf (bodyOf Try.f109))) S (f109.l5.hd k S.ts S.m S.n) := by
  obtain ⟨ts_, m_, n_⟩ := S
  show GoodL _ _ _ (f109.l5.hd k ts_ m_ n_)
  unfold f109.l5.hd
  refine gTs_ok (p := GoodL _ _ _) goodL_no fun _ h => ?_
  subst h
  refine gV_ok (p := GoodL _ _ _) goodL_no fun _ _ h => ?_
  subst h
  refine rV_ok (p := GoodL _ _ _) goodL_no fun _ h => ?_
  subst h
  refine vI_ok (p := GoodL _ _ _) goodL_no fun _ h => ?_
  subst h
  refine gV_ok (p := GoodL _ _ _) goodL_no fun _ _ h => ?_
  subst h
  refine rBp_ok (p := GoodL _ _ _) goodL_no fun h => ?_
  subst h
  refine gV_ok (p := GoodL _ _ _) goodL_no fun _ _ h => ?_
  subst h
  refine rImm_ok (p := GoodL _ _ _) goodL_no fun _ h => ?_
  subst h
  refine gV_ok (p := GoodL _ _ _) goodL_no fun _ _ h => ?_
  subst h
  refine rV_ok (p := GoodL _ _ _) goodL_no fun _ h => ?_
  subst h
  refine vI_ok (p := GoodL _ _ _) goodL_no fun _ h => ?_
  subst h
  refine gV_ok (p := GoodL _ _ _) goodL_no fun _ _ h => ?_
  subst h
  refine rV_ok (p := GoodL _ _ _) goodL_no fun _ h => ?_
  subst h
  refine vI_ok (p := GoodL _ _ _) goodL_no fun _ h => ?_
  subst h
  refine gE_ok (p := GoodL _ _ _) goodL_no fun h => ?_
  subst h
  refine mBox_ok (p := GoodL _ _ _) goodL_no fun _ _ h => ?_
  subst h
  refine gC_ok (p := GoodL _ _ _) goodL_no fun _ _ h => ?_
  subst h
  refine rV_ok (p := GoodL _ _ _) goodL_no fun _ h => ?_
  subst h
  refine vB_ok (p := GoodL _ _ _) goodL_no fun _ h => ?_
  subst h
  refine gC_ok (p := GoodL _ _ _) goodL_no fun _ _ h => ?_
  subst h
  refine rV_ok (p := GoodL _ _ _) goodL_no fun _ h => ?_
  subst h
  refine vB_ok (p := GoodL _ _ _) goodL_no fun _ h => ?_
  subst h
  refine gC_ok (p := GoodL _ _ _) goodL_no fun _ _ h => ?_
  subst h
  refine rV_ok (p := GoodL _ _ _) goodL_no fun _ h => ?_
  subst h
  refine vB_ok (p := GoodL _ _ _) goodL_no fun _ h => ?_
  subst h
  refine gC_ok (p := GoodL _ _ _) goodL_no fun _ _ h => ?_
  subst h
  refine rV_ok (p := GoodL _ _ _) goodL_no fun _ h => ?_
  subst h
  refine vB_ok (p := GoodL _ _ _) goodL_no fun _ h => ?_
  subst h
  refine gC_ok (p := GoodL _ _ _) goodL_no fun _ _ h => ?_
  subst h
  refine rV_ok (p := GoodL _ _ _) goodL_no fun _ h => ?_
  subst h
  refine vB_ok (p := GoodL _ _ _) goodL_no fun _ h => ?_
  subst h
  refine gC_ok (p := GoodL _ _ _) goodL_no fun _ _ h => ?_
  subst h
  refine rV_ok (p := GoodL _ _ _) goodL_no fun _ h => ?_
  subst h
  refine vB_ok (p := GoodL _ _ _) goodL_no fun _ h => ?_
  subst h
  refine gC_ok (p := GoodL _ _ _) goodL_no fun _ _ h => ?_
  subst h
  refine rV_ok (p := GoodL _ _ _) goodL_no fun _ h => ?_
  subst h
  refine vB_ok (p := GoodL _ _ _) goodL_no fun _ h => ?_
  subst h
  refine gC_ok (p := GoodL _ _ _) goodL_no fun _ _ h => ?_
  subst h
  refine rV_ok (p := GoodL _ _ _) goodL_no fun _ h => ?_
  subst h
  refine vB_ok (p := GoodL _ _ _) goodL_no fun _ h => ?_
  subst h
  refine gC_ok (p := GoodL _ _ _) goodL_no fun _ _ h => ?_
  subst h
  refine rV_ok (p := GoodL _ _ _) goodL_no fun _ h => ?_
  subst h
  refine vB_ok (p := GoodL _ _ _) goodL_no fun _ h => ?_
  subst h
  refine gC_ok (p := GoodL _ _ _) goodL_no fun _ _ h => ?_
  subst h
  refine rV_ok (p := GoodL _ _ _) goodL_no fun _ h => ?_
  subst h
  refine vB_ok (p := GoodL _ _ _) goodL_no fun _ h => ?_
  subst h
  refine gC_ok (p := GoodL _ _ _) goodL_no fun _ _ h => ?_
  subst h
  refine rV_ok (p := GoodL _ _ _) goodL_no fun _ h => ?_
  subst h
  refine vB_ok (p := GoodL _ _ _) goodL_no fun _ h => ?_
  subst h
  refine gC_ok (p := GoodL _ _ _) goodL_no fun _ _ h => ?_
  subst h
  refine rV_ok (p := GoodL _ _ _) goodL_no fun _ h => ?_
  subst h
  refine vB_ok (p := GoodL _ _ _) goodL_no fun _ h => ?_
  subst h
  refine gC_ok (p := GoodL _ _ _) goodL_no fun _ _ h => ?_
  subst h
  refine rV_ok (p := GoodL _ _ _) goodL_no fun _ h => ?_
  subst h
  refine vB_ok (p := GoodL _ _ _) goodL_no fun _ h => ?_
  subst h
  refine gC_ok (p := GoodL _ _ _) goodL_no fun _ _ h => ?_
  subst h
  refine rV_ok (p := GoodL _ _ _) goodL_no fun _ h => ?_
  subst h
  refine vB_ok (p := GoodL _ _ _) goodL_no fun _ h => ?_
  subst h
  refine gC_ok (p := GoodL _ _ _) goodL_no fun _ _ h => ?_
  subst h
  refine rV_ok (p := GoodL _ _ _) goodL_no fun _ h => ?_
  subst h
  refine vB_ok (p := GoodL _ _ _) goodL_no fun _ h => ?_
  subst h
  refine gC_ok (p := GoodL _ _ _) goodL_no fun _ _ h => ?_
  subst h
  refine rV_ok (p := GoodL _ _ _) goodL_no fun _ h => ?_
  subst h
  refine vB_ok (p := GoodL _ _ _) goodL_no fun _ h => ?_
  subst h
  refine gC_ok (p := GoodL _ _ _) goodL_no fun _ _ h => ?_
  subst h
  refine rV_ok (p := GoodL _ _ _) goodL_no fun _ h => ?_
  subst h
  refine vB_ok (p := GoodL _ _ _) goodL_no fun _ h => ?_
  subst h
  refine gC_ok (p := GoodL _ _ _) goodL_no fun _ _ h => ?_
  subst h
  refine rV_ok (p := GoodL _ _ _) goodL_no fun _ h => ?_
  subst h
  refine vB_ok (p := GoodL _ _ _) goodL_no fun _ h => ?_
  subst h
  refine gC_ok (p := GoodL _ _ _) goodL_no fun _ _ h => ?_
  subst h
  refine rV_ok (p := GoodL _ _ _) goodL_no fun _ h => ?_
  subst h
  refine vB_ok (p := GoodL _ _ _) goodL_no fun _ h => ?_
  subst h
  refine gC_ok (p := GoodL _ _ _) goodL_no fun _ _ h => ?_
  subst h
  refine rV_ok (p := GoodL _ _ _) goodL_no fun _ h => ?_
  subst h
  refine vB_ok (p := GoodL _ _ _) goodL_no fun _ h => ?_
  subst h
  refine gC_ok (p := GoodL _ _ _) goodL_no fun _ _ h => ?_
  subst h
  refine rV_ok (p := GoodL _ _ _) goodL_no fun _ h => ?_
  subst h
  refine vB_ok (p := GoodL _ _ _) goodL_no fun _ h => ?_
  subst h
  refine gC_ok (p := GoodL _ _ _) goodL_no fun _ _ h => ?_
  subst h
  refine rV_ok (p := GoodL _ _ _) goodL_no fun _ h => ?_
  subst h
  refine vB_ok (p := GoodL _ _ _) goodL_no fun _ h => ?_
  subst h
  refine gC_ok (p := GoodL _ _ _) goodL_no fun _ _ h => ?_
  subst h
  refine rV_ok (p := GoodL _ _ _) goodL_no fun _ h => ?_
  subst h
  refine vB_ok (p := GoodL _ _ _) goodL_no fun _ h => ?_
  subst h
  refine gC_ok (p := GoodL _ _ _) goodL_no fun _ _ h => ?_
  subst h
  refine rV_ok (p := GoodL _ _ _) goodL_no fun _ h => ?_
  subst h
  refine vB_ok (p := GoodL _ _ _) goodL_no fun _ h => ?_
  subst h
  refine gC_ok (p := GoodL _ _ _) goodL_no fun _ _ h => ?_
  subst h
  refine rV_ok (p := GoodL _ _ _) goodL_no fun _ h => ?_
  subst h
  refine vB_ok (p := GoodL _ _ _) goodL_no fun _ h => ?_
  subst h
  refine gE_ok (p := GoodL _ _ _) goodL_no fun h => ?_
  subst h
  refine gE_ok (p := GoodL _ _ _) goodL_no fun h => ?_
  subst h
  refine gN_ok (p := GoodL _ _ _) goodL_no fun h => ?_
  subst h
  exact f109.l5.good k _ _ _ _ _ _ _ _ _ _ _ _ _ _ _ _ _ _ _ _ _ _ _ _ _ _ _ _ _
theorem f109.nat {R : Type} (k : Nat) (g : Bool → Option R) (a1 : Int) (xs2 : List S146) : f109.step k g a1 xs2 = (f109 k a1 xs2).bind g := by
  simp only [f109, f109.step, bind_ite, bind_sum, Option.bind_assoc, Option.bind_some, Option.bind_none]
theorem f109.ev (k : Nat) (a1 : Int) (xs2 : List S146) : evF (f109.X k) (bodyOf Try.f109) Try.f109.ntmps Try.f109.results.toList [.v (.c (.s (.int .i64 a1))), .v (.c (.sl 146 xs2))] = f109.step k (fun x => f109.w x some) a1 xs2 := by kernel_rfl
theorem f109.hok (k : Nat) : HOK (f109.X k) (bodyOf Try.f109) where
  l := allP_mem (by exact ⟨ls_of (h0 := fun S => f109.l5.hd k S.ts S.m S.n) (by kernel_rfl) (f109.l5.all k), trivial⟩)
  j := allP_mem (by exact trivial)
theorem f109.sound0 (k : Nat) : SoundC env Try.prog 109 (f109.hd k) := by
  intro ps_
  show GoodC _ _ _ ps_ (f109.hd k ps_)
  unfold f109.hd
  refine gC_ok (p := GoodC env Try.prog 109 _) goodC_no fun _ _ h => ?_
  subst h
  refine qC_ok (p := GoodC env Try.prog 109 _) goodC_no fun _ h => ?_
  subst h
  refine qS_ok (p := GoodC env Try.prog 109 _) goodC_no fun _ h => ?_
  subst h
  refine vI_ok (p := GoodC env Try.prog 109 _) goodC_no fun _ h => ?_
  subst h
  refine gC_ok (p := GoodC env Try.prog 109 _) goodC_no fun _ _ h => ?_
  subst h
  refine qC_ok (p := GoodC env Try.prog 109 _) goodC_no fun _ h => ?_
  subst h
  refine qSl_ok (p := GoodC env Try.prog 109 _) goodC_no fun _ h => ?_
  subst h
  refine gE_ok (p := GoodC env Try.prog 109 _) goodC_no fun h => ?_
  subst h
  exact fun_good (fun_sound envOK (cs_sound _ (by exact ⟨⟨f83.sound k, f83.fnok⟩, trivial⟩)) (f109.hok k) Try.func109 rfl) ((f109.ev k _ _).trans (f109.nat k _ _ _))
theorem f109.sound (k : Nat) : SoundC env Try.prog 109 (f109.e k).F := soundC_coer (f109.sound0 k) [[.no], [.rd 146]]
theorem f109.says (k : Nat) (a1 : Int) (xs2 : List S146) (t41 : Bool) (h_ : f109 k a1 xs2 = some t41) : SoundAt env Try.prog 109 [.v (.c (.s (.int .i64 a1))), .v (.c (.sl 146 xs2))] ⟨.v (.c (.s (.bool t41))), [[], []]⟩ :=
  fun_sound envOK (cs_sound _ (by exact ⟨⟨f83.sound k, f83.fnok⟩, trivial⟩)) (f109.hok k) Try.func109 rfl _ _ (((f109.ev k a1 xs2).trans (f109.nat k _ a1 xs2)).trans (by rw [h_]; rfl))
theorem f109.fnok : FnOK Try.prog 109 := fn_ok Try.func109 (by kernel_rfl) rfl
def f171.step {R : Type} (k : Nat) (ret : Bool → Option R) (a1 : Int) (a2 : Int) (a3 : Int) (b4 : Bool) (a5 : Int) (a6 : Int) : Option R :=
  if (decide (a1 = a5)) = true then
    if (decide (a2 = a6)) = false then
      if (decide (a1 = a6)) = true then
        ret (decide (a2 = a5))
      else
        ret false
    else
      ret true
  else
    if (decide (a1 = a6)) = true then
      ret (decide (a2 = a5))
    else
      ret false
def f171 (k : Nat) (a1 : Int) (a2 : Int) (a3 : Int) (b4 : Bool) (a5 : Int) (a6 : Int) : Option Bool := f171.step k some a1 a2 a3 b4 a5 a6
def f171.w {R : Type} : Bool → (Res env → Option R) → Option R := fun t7 K => K ⟨.v (.c (.s (.bool t7))), [[], [], []]⟩
theorem f171.wn (x : Bool) : ∃ res, ∀ {R : Type} (K : Res env → Option R), f171.w x K = K res := by
  exact ⟨_, fun _ => rfl⟩
def f171.hd (k : Nat) (ps_ : List (P2 env)) : Cl env :=
  gC Cl.no ps_ fun p_ ps_ => qG Cl.no p_ fun cs_ => gC Cl.no cs_ fun c_ cs_ => qS Cl.no c_ fun v_ => vI Cl.no .i64 v_ fun a1 => gC Cl.no cs_ fun c_ cs_ => qS Cl.no c_ fun v_ => vI Cl.no .i64 v_ fun a2 => gC Cl.no cs_ fun c_ cs_ => qS Cl.no c_ fun v_ => vI Cl.no .i64 v_ fun a3 => gC Cl.no cs_ fun c_ cs_ => qS Cl.no c_ fun v_ => vB Cl.no v_ fun b4 => gE Cl.no cs_ <| gC Cl.no ps_ fun p_ ps_ => qRo Cl.no 3 p_ fun a5 => gC Cl.no ps_ fun p_ ps_ => qRo Cl.no 3 p_ fun a6 => gE Cl.no ps_ <| { α := Bool, o := f171 k a1 a2 a3 b4 a5 a6, w := f171.w, nat := fun x _ => f171.wn x }
def f171.e (k : Nat) : Entry env := ⟨f171.hd k, [], [3, 3]⟩
def f171.X (k : Nat) : Ctx env := { C := lookE [], L := lookE [], J := lookE [], keep := lookD [], keepX := lookD [], span := lookN [], eff := fun n => memN n [], prep := lookP [], np := 0 }
theorem f171.nat {R : Type} (k : Nat) (g : Bool → Option R) (a1 : Int) (a2 : Int) (a3 : Int) (b4 : Bool) (a5 : Int) (a6 : Int) : f171.step k g a1 a2 a3 b4 a5 a6 = (f171 k a1 a2 a3 b4 a5 a6).bind g := by
  simp only [f171, f171.step, bind_ite, bind_sum, Option.bind_assoc, Option.bind_some, Option.bind_none]
theorem f171.ev (k : Nat) (a1 : Int) (a2 : Int) (a3 : Int) (b4 : Bool) (a5 : Int) (a6 : Int) : evF (f171.X k) (bodyOf Try.f171) Try.f171.ntmps Try.f171.results.toList [.g [.s (.int .i64 a1), .s (.int .i64 a2), .s (.int .i64 a3), .s (.bool b4)], .v (.ro 3 a5), .v (.ro 3 a6)] = f171.step k (fun x => f171.w x some) a1 a2 a3 b4 a5 a6 := by kernel_rfl
theorem f171.hok (k : Nat) : HOK (f171.X k) (bodyOf Try.f171) where
  l := allP_mem (by exact trivial)
  j := allP_mem (by exact trivial)
theorem f171.sound (k : Nat) : SoundC env Try.prog 171 ((f171.e k).F) := by
  intro ps_
  show GoodC _ _ _ ps_ (f171.hd k ps_)
  unfold f171.hd
  refine gC_ok (p := GoodC env Try.prog 171 _) goodC_no fun _ _ h => ?_
  subst h
  refine qG_ok (p := GoodC env Try.prog 171 _) goodC_no fun _ h => ?_
  subst h
  refine gC_ok (p := GoodC env Try.prog 171 _) goodC_no fun _ _ h => ?_
  subst h
  refine qS_ok (p := GoodC env Try.prog 171 _) goodC_no fun _ h => ?_
  subst h
  refine vI_ok (p := GoodC env Try.prog 171 _) goodC_no fun _ h => ?_
  subst h
  refine gC_ok (p := GoodC env Try.prog 171 _) goodC_no fun _ _ h => ?_
  subst h
  refine qS_ok (p := GoodC env Try.prog 171 _) goodC_no fun _ h => ?_
  subst h
  refine vI_ok (p := GoodC env Try.prog 171 _) goodC_no fun _ h => ?_
  subst h
  refine gC_ok (p := GoodC env Try.prog 171 _) goodC_no fun _ _ h => ?_
  subst h
  refine qS_ok (p := GoodC env Try.prog 171 _) goodC_no fun _ h => ?_
  subst h
  refine vI_ok (p := GoodC env Try.prog 171 _) goodC_no fun _ h => ?_
  subst h
  refine gC_ok (p := GoodC env Try.prog 171 _) goodC_no fun _ _ h => ?_
  subst h
  refine qS_ok (p := GoodC env Try.prog 171 _) goodC_no fun _ h => ?_
  subst h
  refine vB_ok (p := GoodC env Try.prog 171 _) goodC_no fun _ h => ?_
  subst h
  refine gE_ok (p := GoodC env Try.prog 171 _) goodC_no fun h => ?_
  subst h
  refine gC_ok (p := GoodC env Try.prog 171 _) goodC_no fun _ _ h => ?_
  subst h
  refine qRo_ok (p := GoodC env Try.prog 171 _) goodC_no fun _ h => ?_
  subst h
  refine gC_ok (p := GoodC env Try.prog 171 _) goodC_no fun _ _ h => ?_
  subst h
  refine qRo_ok (p := GoodC env Try.prog 171 _) goodC_no fun _ h => ?_
  subst h
  refine gE_ok (p := GoodC env Try.prog 171 _) goodC_no fun h => ?_
  subst h
  exact fun_good (fun_sound envOK (cs_sound _ (by exact trivial)) (f171.hok k) Try.func171 rfl) ((f171.ev k _ _ _ _ _ _).trans (f171.nat k _ _ _ _ _ _ _))
theorem f171.says (k : Nat) (a1 : Int) (a2 : Int) (a3 : Int) (b4 : Bool) (a5 : Int) (a6 : Int) (t8 : Bool) (h_ : f171 k a1 a2 a3 b4 a5 a6 = some t8) : SoundAt env Try.prog 171 [.g [.s (.int .i64 a1), .s (.int .i64 a2), .s (.int .i64 a3), .s (.bool b4)], .v (.ro 3 a5), .v (.ro 3 a6)] ⟨.v (.c (.s (.bool t8))), [[], [], []]⟩ :=
  fun_sound envOK (cs_sound _ (by exact trivial)) (f171.hok k) Try.func171 rfl _ _ (((f171.ev k a1 a2 a3 b4 a5 a6).trans (f171.nat k _ a1 a2 a3 b4 a5 a6)).trans (by rw [h_]; rfl))
theorem f171.fnok : FnOK Try.prog 171 := fn_ok Try.func171 (by kernel_rfl) rfl
def f170.l2.step {R : Type} (k : Nat) (rec_ : (List S146) → Int → Int → Int → Int → Option R) (ret : (Int ⊕ (Unit)) → Option R) (xs4 : List S146) (a5 : Int) (a6 : Int) (a7 : Int) (a8 : Int) : Option R :=
  if (decide (a8 < a7)) = true then
    if (0 : Int) ≤ a8 then
      if a8 < ((List.length xs4 : Nat) : Int) then
        (f171 k (List.getD xs4 (Int.toNat a8) (⟨(0 : Int), (0 : Int), (0 : Int), false⟩ : S146)).f0 (List.getD xs4 (Int.toNat a8) (⟨(0 : Int), (0 : Int), (0 : Int), false⟩ : S146)).f1 (List.getD xs4 (Int.toNat a8) (⟨(0 : Int), (0 : Int), (0 : Int), false⟩ : S146)).f2 (List.getD xs4 (Int.toNat a8) (⟨(0 : Int), (0 : Int), (0 : Int), false⟩ : S146)).f3 a5 a6).bind fun t9 => if t9 = true then
            ret (.inl a8)
          else
            rec_ xs4 a5 a6 a7 (IntKind.i64.wrap (a8 + (1 : Int)))
      else none
    else none
  else
    ret (.inr ())
def f170.l2 (k : Nat) : Nat → (List S146) → Int → Int → Int → Int → Option (Int ⊕ (Unit))
  | 0, _, _, _, _, _ => none
  | j + 1, xs4, a5, a6, a7, a8 => f170.l2.step k (fun xs4 a5 a6 a7 a8 => f170.l2 k j xs4 a5 a6 a7 a8) some xs4 a5 a6 a7 a8
def f170.l2.w {R : Type} : (Int ⊕ (Unit)) → (Exit → St env → Option R) → Option R := fun x K => Sum.elim (fun t12 => K .ret ⟨fullT [4] 0 19 [.v (.c (.s (.int .i64 t12)))], [], 274⟩) (fun t13 => K (.exit 0) ⟨fullT [] 0 19 [], [], 274⟩) x
def f170.l2.st (xs4 : List S146) (a5 : Int) (a6 : Int) (a7 : Int) (a8 : Int) : St env := ⟨fullT [0, 1, 7, 8] 0 19 [.v (.c (.imm 146 xs4)), .v (.c (.fnp 171 [⟨3, a5⟩, ⟨3, a6⟩])), .v (.c (.s (.int .i64 a7))), .v (.c (.s (.int .i64 a8)))], [], 66⟩
def f170.l2.hd (k : Nat) (ts_ : List (AV env)) (mm_ : Mem env) (n_ : Nat) : LCl env :=
  gTs LCl.no [0, 1, 7, 8] 19 ts_ fun l_ => gV LCl.no l_ fun a_ l_ => rImm LCl.no 146 a_ fun xs4 => gV LCl.no l_ fun a_ l_ => rFnp LCl.no 171 a_ fun sg_ => sigL LCl.no 3 sg_ fun a5 sg_ => sigL LCl.no 3 sg_ fun a6 sg_ => gE LCl.no sg_ <| gV LCl.no l_ fun a_ l_ => rV LCl.no a_ fun v_ => vI LCl.no .i64 v_ fun a7 => gV LCl.no l_ fun a_ l_ => rV LCl.no a_ fun v_ => vI LCl.no .i64 v_ fun a8 => gE LCl.no l_ <| gE LCl.no mm_ <| gN LCl.no 66 n_ { α := Int ⊕ (Unit), o := f170.l2 k k xs4 a5 a6 a7 a8, w := f170.l2.w }
def f170.step {R : Type} (k : Nat) (ret : Int → Option R) (xs1 : List S146) (a2 : Int) (a3 : Int) : Option R :=
  (f170.l2 k k xs1 a2 a3 (((List.length xs1) : Nat) : Int) (0 : Int)).bind (Sum.elim (fun t10 => ret t10) (fun t11 => ret (-1 : Int)))
def f170 (k : Nat) (xs1 : List S146) (a2 : Int) (a3 : Int) : Option Int := f170.step k some xs1 a2 a3
def f170.w {R : Type} : Int → (Res env → Option R) → Option R := fun t14 K => K ⟨.v (.c (.s (.int .i64 t14))), [[], []]⟩
theorem f170.wn (x : Int) : ∃ res, ∀ {R : Type} (K : Res env → Option R), f170.w x K = K res := by
  exact ⟨_, fun _ => rfl⟩
def f170.hd (k : Nat) (ps_ : List (P2 env)) : Cl env :=
  gC Cl.no ps_ fun p_ ps_ => qC Cl.no p_ fun c_ => qSl Cl.no 146 c_ fun xs1 => gC Cl.no ps_ fun p_ ps_ => qFn Cl.no 171 p_ fun sg_ => sigL Cl.no 3 sg_ fun a2 sg_ => sigL Cl.no 3 sg_ fun a3 sg_ => gE Cl.no sg_ <| gE Cl.no ps_ <| { α := Int, o := f170 k xs1 a2 a3, w := f170.w, nat := fun x _ => f170.wn x }
def f170.e (k : Nat) : Entry env := ⟨fun ps => f170.hd k (coer [[.rd 146], []] ps), [], []⟩
def f170.X (k : Nat) : Ctx env := { C := lookE [(171, f171.e k)], L := lookE [(2, fun S => f170.l2.hd k S.ts S.m S.n)], J := lookE [], keep := lookD [(2, [0, 1, 7, 8])], keepX := lookD [(2, [4])], span := lookN [(2, 208)], eff := fun n => memN n [], prep := lookP [], np := 0 }
theorem f170.l2.nat {R : Type} (k : Nat) (rec_ : (List S146) → Int → Int → Int → Int → Option (Int ⊕ (Unit))) (g : (Int ⊕ (Unit)) → Option R) (xs4 : List S146) (a5 : Int) (a6 : Int) (a7 : Int) (a8 : Int) : (f170.l2.step k rec_ some xs4 a5 a6 a7 a8).bind g = f170.l2.step k (fun xs4 a5 a6 a7 a8 => (rec_ xs4 a5 a6 a7 a8).bind g) g xs4 a5 a6 a7 a8 := by
  simp only [f170.l2.step, bind_ite, bind_sum, Option.bind_assoc, Option.bind_some, Option.bind_none]
theorem f170.l2.good (k : Nat) (xs4 : List S146) (a5 : Int) (a6 : Int) (a7 : Int) (a8 : Int) : GoodL (f170.X k) (nthC 0 (loopsOf (bodyOf Try.f170))) (f170.l2.st xs4 a5 a6 a7 a8) { α := (Int ⊕ (Unit)), o := f170.l2 k k xs4 a5 a6 a7 a8, w := f170.l2.w } :=
  loop_good (ι := (List S146) × Int × Int × Int × Int) (α := (Int ⊕ (Unit))) (fun i => f170.l2.st i.1 i.2.1 i.2.2.1 i.2.2.2.1 i.2.2.2.2) (fun j i => f170.l2 k j i.1 i.2.1 i.2.2.1 i.2.2.2.1 i.2.2.2.2) f170.l2.w (fun rec_ ret i => f170.l2.step k (fun xs4 a5 a6 a7 a8 => rec_ (xs4, a5, a6, a7, a8)) ret i.1 i.2.1 i.2.2.1 i.2.2.2.1 i.2.2.2.2)
    (fun _ => rfl) (fun _ _ => rfl) (fun rec_ g i => f170.l2.nat k _ g i.1 i.2.1 i.2.2.1 i.2.2.2.1 i.2.2.2.2) (fun {R} i0 i rec_ K => by kernel_rfl) k (xs4, a5, a6, a7, a8)
theorem f170.l2.all (k : Nat) (S : St env) : GoodL (f170.X k) (nthC 0 (loopsOf (bodyOf Try.f170))) S (f170.l2.hd k S.ts S.m S.n) := by
  obtain ⟨ts_, m_, n_⟩ := S
  show GoodL _ _ _ (f170.l2.hd k ts_ m_ n_)
  unfold f170.l2.hd
  refine gTs_ok (p := GoodL _ _ _) goodL_no fun _ h => ?_
  subst h
  refine gV_ok (p := GoodL _ _ _) goodL_no fun _ _ h => ?_
  subst h
  refine rImm_ok (p := GoodL _ _ _) goodL_no fun _ h => ?_
  subst h
  refine gV_ok (p := GoodL _ _ _) goodL_no fun _ _ h => ?_
  subst h
  refine rFnp_ok (p := GoodL _ _ _) goodL_no fun _ h => ?_
  subst h
  refine sigL_ok (p := GoodL _ _ _) goodL_no fun _ _ h => ?_
  subst h
  refine sigL_ok (p := GoodL _ _ _) goodL_no fun _ _ h => ?_
  subst h
  refine gE_ok (p := GoodL _ _ _) goodL_no fun h => ?_
  subst h
  refine gV_ok (p := GoodL _ _ _) goodL_no fun _ _ h => ?_
  subst h
  refine rV_ok (p := GoodL _ _ _) goodL_no fun _ h => ?_
  subst h
  refine vI_ok (p := GoodL _ _ _) goodL_no fun _ h => ?_
  subst h
  refine gV_ok (p := GoodL _ _ _) goodL_no fun _ _ h => ?_
  subst h
  refine rV_ok (p := GoodL _ _ _) goodL_no fun _ h => ?_
  subst h
  refine vI_ok (p := GoodL _ _ _) goodL_no fun _ h => ?_
  subst h
  refine gE_ok (p := GoodL _ _ _) goodL_no fun h => ?_
  subst h
  refine gE_ok (p := GoodL _ _ _) goodL_no fun h => ?_
  subst h
  refine gN_ok (p := GoodL _ _ _) goodL_no fun h => ?_
  subst h
  exact f170.l2.good k _ _ _ _ _
theorem f170.nat {R : Type} (k : Nat) (g : Int → Option R) (xs1 : List S146) (a2 : Int) (a3 : Int) : f170.step k g xs1 a2 a3 = (f170 k xs1 a2 a3).bind g := by
  simp only [f170, f170.step, bind_ite, bind_sum, Option.bind_assoc, Option.bind_some, Option.bind_none]
theorem f170.ev (k : Nat) (xs1 : List S146) (a2 : Int) (a3 : Int) : evF (f170.X k) (bodyOf Try.f170) Try.f170.ntmps Try.f170.results.toList [.v (.c (.sl 146 xs1)), .v (.fn 171 [⟨3, a2⟩, ⟨3, a3⟩])] = f170.step k (fun x => f170.w x some) xs1 a2 a3 := by kernel_rfl
theorem f170.hok (k : Nat) : HOK (f170.X k) (bodyOf Try.f170) where
  l := allP_mem (by exact ⟨ls_of (h0 := fun S => f170.l2.hd k S.ts S.m S.n) (by kernel_rfl) (f170.l2.all k), trivial⟩)
  j := allP_mem (by exact trivial)
theorem f170.sound0 (k : Nat) : SoundC env Try.prog 170 (f170.hd k) := by
  intro ps_
  show GoodC _ _ _ ps_ (f170.hd k ps_)
  unfold f170.hd
  refine gC_ok (p := GoodC env Try.prog 170 _) goodC_no fun _ _ h => ?_
  subst h
  refine qC_ok (p := GoodC env Try.prog 170 _) goodC_no fun _ h => ?_
  subst h
  refine qSl_ok (p := GoodC env Try.prog 170 _) goodC_no fun _ h => ?_
  subst h
  refine gC_ok (p := GoodC env Try.prog 170 _) goodC_no fun _ _ h => ?_
  subst h
  refine qFn_ok (p := GoodC env Try.prog 170 _) goodC_no fun _ h => ?_
  subst h
  refine sigL_ok (p := GoodC env Try.prog 170 _) goodC_no fun _ _ h => ?_
  subst h
  refine sigL_ok (p := GoodC env Try.prog 170 _) goodC_no fun _ _ h => ?_
  subst h
  refine gE_ok (p := GoodC env Try.prog 170 _) goodC_no fun h => ?_
  subst h
  refine gE_ok (p := GoodC env Try.prog 170 _) goodC_no fun h => ?_
  subst h
  exact fun_good (fun_sound envOK (cs_sound _ (by exact ⟨⟨f171.sound k, f171.fnok⟩, trivial⟩)) (f170.hok k) Try.func170 rfl) ((f170.ev k _ _ _).trans (f170.nat k _ _ _ _))
theorem f170.sound (k : Nat) : SoundC env Try.prog 170 (f170.e k).F := soundC_coer (f170.sound0 k) [[.rd 146], []]
theorem f170.says (k : Nat) (xs1 : List S146) (a2 : Int) (a3 : Int) (t15 : Int) (h_ : f170 k xs1 a2 a3 = some t15) : SoundAt env Try.prog 170 [.v (.c (.sl 146 xs1)), .v (.fn 171 [⟨3, a2⟩, ⟨3, a3⟩])] ⟨.v (.c (.s (.int .i64 t15))), [[], []]⟩ :=
  fun_sound envOK (cs_sound _ (by exact ⟨⟨f171.sound k, f171.fnok⟩, trivial⟩)) (f170.hok k) Try.func170 rfl _ _ (((f170.ev k xs1 a2 a3).trans (f170.nat k _ xs1 a2 a3)).trans (by rw [h_]; rfl))
theorem f170.fnok : FnOK Try.prog 170 := fn_ok Try.func170 (by kernel_rfl) rfl
def f129.step {R : Type} (k : Nat) (ret : (Int × (List S146) × (List (List S142)) × Int) → Option R) (xs1 : List S146) (xs2 : List (List S142)) (a3 : Int) (a4 : Int) (a5 : Int) : Option R :=
  (f170 k xs1 a4 a5).bind fun t6 => ret (t6, xs1, xs2, a3)
def f129 (k : Nat) (xs1 : List S146) (xs2 : List (List S142)) (a3 : Int) (a4 : Int) (a5 : Int) : Option (Int × (List S146) × (List (List S142)) × Int) := f129.step k some xs1 xs2 a3 a4 a5
def f129.w {R : Type} : (Int × (List S146) × (List (List S142)) × Int) → (Res env → Option R) → Option R := fun t7 K => K ⟨.v (.c (.s (.int .i64 t7.1))), [[.sl 146 t7.2.1, .sl 140 t7.2.2.1, .s (.int .i64 t7.2.2.2)], [], []]⟩
theorem f129.wn (x : (Int × (List S146) × (List (List S142)) × Int)) : ∃ res, ∀ {R : Type} (K : Res env → Option R), f129.w x K = K res := by
  exact ⟨_, fun _ => rfl⟩
def f129.hd (k : Nat) (ps_ : List (P2 env)) : Cl env :=
  gC Cl.no ps_ fun p_ ps_ => qP Cl.no p_ fun cs_ => gC Cl.no cs_ fun c_ cs_ => qSl Cl.no 146 c_ fun xs1 => gC Cl.no cs_ fun c_ cs_ => qSl Cl.no 140 c_ fun xs2 => gC Cl.no cs_ fun c_ cs_ => qS Cl.no c_ fun v_ => vI Cl.no .i64 v_ fun a3 => gE Cl.no cs_ <| gC Cl.no ps_ fun p_ ps_ => qC Cl.no p_ fun c_ => qS Cl.no c_ fun v_ => vI Cl.no .i64 v_ fun a4 => gC Cl.no ps_ fun p_ ps_ => qC Cl.no p_ fun c_ => qS Cl.no c_ fun v_ => vI Cl.no .i64 v_ fun a5 => gE Cl.no ps_ <| { α := Int × (List S146) × (List (List S142)) × Int, o := f129 k xs1 xs2 a3 a4 a5, w := f129.w, nat := fun x _ => f129.wn x }
def f129.e (k : Nat) : Entry env := ⟨fun ps => f129.hd k (coer [[.rd 146, .rd 140, .no], [.no], [.no]] ps), [], []⟩
def f129.X (k : Nat) : Ctx env := { C := lookE [(170, f170.e k), (171, f171.e k)], L := lookE [], J := lookE [], keep := lookD [], keepX := lookD [], span := lookN [], eff := fun n => memN n [], prep := lookP [], np := 0 }
theorem f129.nat {R : Type} (k : Nat) (g : (Int × (List S146) × (List (List S142)) × Int) → Option R) (xs1 : List S146) (xs2 : List (List S142)) (a3 : Int) (a4 : Int) (a5 : Int) : f129.step k g xs1 xs2 a3 a4 a5 = (f129 k xs1 xs2 a3 a4 a5).bind g := by
  simp only [f129, f129.step, bind_ite, bind_sum, Option.bind_assoc, Option.bind_some, Option.bind_none]
theorem f129.ev (k : Nat) (xs1 : List S146) (xs2 : List (List S142)) (a3 : Int) (a4 : Int) (a5 : Int) : evF (f129.X k) (bodyOf Try.f129) Try.f129.ntmps Try.f129.results.toList [.v (.ptr [.sl 146 xs1, .sl 140 xs2, .s (.int .i64 a3)]), .v (.c (.s (.int .i64 a4))), .v (.c (.s (.int .i64 a5)))] = f129.step k (fun x => f129.w x some) xs1 xs2 a3 a4 a5 := by kernel_rfl
theorem f129.hok (k : Nat) : HOK (f129.X k) (bodyOf Try.f129) where
  l := allP_mem (by exact trivial)
  j := allP_mem (by exact trivial)
theorem f129.sound0 (k : Nat) : SoundC env Try.prog 129 (f129.hd k) := by
  intro ps_
  show GoodC _ _ _ ps_ (f129.hd k ps_)
  unfold f129.hd
  refine gC_ok (p := GoodC env Try.prog 129 _) goodC_no fun _ _ h => ?_
  subst h
  refine qP_ok (p := GoodC env Try.prog 129 _) goodC_no fun _ h => ?_
  subst h
  refine gC_ok (p := GoodC env Try.prog 129 _) goodC_no fun _ _ h => ?_
  subst h
  refine qSl_ok (p := GoodC env Try.prog 129 _) goodC_no fun _ h => ?_
  subst h
  refine gC_ok (p := GoodC env Try.prog 129 _) goodC_no fun _ _ h => ?_
  subst h
  refine qSl_ok (p := GoodC env Try.prog 129 _) goodC_no fun _ h => ?_
  subst h
  refine gC_ok (p := GoodC env Try.prog 129 _) goodC_no fun _ _ h => ?_
  subst h
  refine qS_ok (p := GoodC env Try.prog 129 _) goodC_no fun _ h => ?_
  subst h
  refine vI_ok (p := GoodC env Try.prog 129 _) goodC_no fun _ h => ?_
  subst h
  refine gE_ok (p := GoodC env Try.prog 129 _) goodC_no fun h => ?_
  subst h
  refine gC_ok (p := GoodC env Try.prog 129 _) goodC_no fun _ _ h => ?_
  subst h
  refine qC_ok (p := GoodC env Try.prog 129 _) goodC_no fun _ h => ?_
  subst h
  refine qS_ok (p := GoodC env Try.prog 129 _) goodC_no fun _ h => ?_
  subst h
  refine vI_ok (p := GoodC env Try.prog 129 _) goodC_no fun _ h => ?_
  subst h
  refine gC_ok (p := GoodC env Try.prog 129 _) goodC_no fun _ _ h => ?_
  subst h
  refine qC_ok (p := GoodC env Try.prog 129 _) goodC_no fun _ h => ?_
  subst h
  refine qS_ok (p := GoodC env Try.prog 129 _) goodC_no fun _ h => ?_
  subst h
  refine vI_ok (p := GoodC env Try.prog 129 _) goodC_no fun _ h => ?_
  subst h
  refine gE_ok (p := GoodC env Try.prog 129 _) goodC_no fun h => ?_
  subst h
  exact fun_good (fun_sound envOK (cs_sound _ (by exact ⟨⟨f170.sound k, f170.fnok⟩, ⟨f171.sound k, f171.fnok⟩, trivial⟩)) (f129.hok k) Try.func129 rfl) ((f129.ev k _ _ _ _ _).trans (f129.nat k _ _ _ _ _ _))
theorem f129.sound (k : Nat) : SoundC env Try.prog 129 (f129.e k).F := soundC_coer (f129.sound0 k) [[.rd 146, .rd 140, .no], [.no], [.no]]
theorem f129.says (k : Nat) (xs1 : List S146) (xs2 : List (List S142)) (a3 : Int) (a4 : Int) (a5 : Int) (t8 : Int × (List S146) × (List (List S142)) × Int) (h_ : f129 k xs1 xs2 a3 a4 a5 = some t8) : SoundAt env Try.prog 129 [.v (.ptr [.sl 146 xs1, .sl 140 xs2, .s (.int .i64 a3)]), .v (.c (.s (.int .i64 a4))), .v (.c (.s (.int .i64 a5)))] ⟨.v (.c (.s (.int .i64 t8.1))), [[.sl 146 t8.2.1, .sl 140 t8.2.2.1, .s (.int .i64 t8.2.2.2)], [], []]⟩ :=
  fun_sound envOK (cs_sound _ (by exact ⟨⟨f170.sound k, f170.fnok⟩, ⟨f171.sound k, f171.fnok⟩, trivial⟩)) (f129.hok k) Try.func129 rfl _ _ (((f129.ev k xs1 xs2 a3 a4 a5).trans (f129.nat k _ xs1 xs2 a3 a4 a5)).trans (by rw [h_]; rfl))
theorem f129.fnok : FnOK Try.prog 129 := fn_ok Try.func129 (by kernel_rfl) rfl
def f110.step {R : Type} (k : Nat) (ret : (Bool × (List S146) × (List (List S142)) × Int) → Option R) (xs1 : List S146) (xs2 : List (List S142)) (a3 : Int) (a4 : Int) (a5 : Int) : Option R :=
  if (0 : Int) ≤ a4 then
    if a4 < ((List.length xs2 : Nat) : Int) then
      if (0 : Int) ≤ a5 then
        if a5 < ((List.length (List.getD xs2 (Int.toNat a4) []) : Nat) : Int) then
          if (decide (a5 = a4)) = true then
            ret ((decide ((List.getD (List.getD xs2 (Int.toNat a4) []) (Int.toNat a5) (⟨(0 : Int), (0 : Int), (0 : Int)⟩ : S142)).f0 = (0 : Int)) && (decide ((List.getD (List.getD xs2 (Int.toNat a4) []) (Int.toNat a5) (⟨(0 : Int), (0 : Int), (0 : Int)⟩ : S142)).f1 = a4) && (decide ((List.getD (List.getD xs2 (Int.toNat a4) []) (Int.toNat a5) (⟨(0 : Int), (0 : Int), (0 : Int)⟩ : S142)).f2 = (0 : Int)) && true))), xs1, xs2, a3)
          else
            (f83 k (List.getD (List.getD xs2 (Int.toNat a4) []) (Int.toNat a5) (⟨(0 : Int), (0 : Int), (0 : Int)⟩ : S142)).f0 (1 : Int) (16 : Int)).bind fun t6 => if (!t6) = false then
                (f83 k (List.getD (List.getD xs2 (Int.toNat a4) []) (Int.toNat a5) (⟨(0 : Int), (0 : Int), (0 : Int)⟩ : S142)).f2 (0 : Int) (6 : Int)).bind fun t7 => if (!t7) = true then
                    ret (false, xs1, xs2, a3)
                  else
                    if (decide ((List.getD (List.getD xs2 (Int.toNat a4) []) (Int.toNat a5) (⟨(0 : Int), (0 : Int), (0 : Int)⟩ : S142)).f1 = (-1 : Int))) = true then
                      if (decide ((List.getD (List.getD xs2 (Int.toNat a4) []) (Int.toNat a5) (⟨(0 : Int), (0 : Int), (0 : Int)⟩ : S142)).f0 = (16 : Int))) = true then
                        ret ((decide ((List.getD (List.getD xs2 (Int.toNat a4) []) (Int.toNat a5) (⟨(0 : Int), (0 : Int), (0 : Int)⟩ : S142)).f2 = (0 : Int))), xs1, xs2, a3)
                      else
                        ret (false, xs1, xs2, a3)
                    else
                      (f129 k xs1 xs2 a3 a4 (List.getD (List.getD xs2 (Int.toNat a4) []) (Int.toNat a5) (⟨(0 : Int), (0 : Int), (0 : Int)⟩ : S142)).f1).bind fun t8 => if (decide (t8.1 ≥ (0 : Int))) = true then
                          if (decide ((List.getD (List.getD xs2 (Int.toNat a4) []) (Int.toNat a5) (⟨(0 : Int), (0 : Int), (0 : Int)⟩ : S142)).f0 = (16 : Int))) = false then
                            if (0 : Int) ≤ t8.1 then
                              if t8.1 < ((List.length t8.2.1 : Nat) : Int) then
                                ret ((List.getD t8.2.1 (Int.toNat t8.1) (⟨(0 : Int), (0 : Int), (0 : Int), false⟩ : S146)).f3, t8.2.1, t8.2.2.1, t8.2.2.2)
                              else none
                            else none
                          else
                            ret (true, t8.2.1, t8.2.2.1, t8.2.2.2)
                        else
                          ret (false, t8.2.1, t8.2.2.1, t8.2.2.2)
              else
                ret (false, xs1, xs2, a3)
        else none
      else none
    else none
  else none
def f110 (k : Nat) (xs1 : List S146) (xs2 : List (List S142)) (a3 : Int) (a4 : Int) (a5 : Int) : Option (Bool × (List S146) × (List (List S142)) × Int) := f110.step k some xs1 xs2 a3 a4 a5
def f110.w {R : Type} : (Bool × (List S146) × (List (List S142)) × Int) → (Res env → Option R) → Option R := fun t9 K => K ⟨.v (.c (.s (.bool t9.1))), [[.sl 146 t9.2.1, .sl 140 t9.2.2.1, .s (.int .i64 t9.2.2.2)], [], []]⟩
theorem f110.wn (x : (Bool × (List S146) × (List (List S142)) × Int)) : ∃ res, ∀ {R : Type} (K : Res env → Option R), f110.w x K = K res := by
  exact ⟨_, fun _ => rfl⟩
def f110.hd (k : Nat) (ps_ : List (P2 env)) : Cl env :=
  gC Cl.no ps_ fun p_ ps_ => qP Cl.no p_ fun cs_ => gC Cl.no cs_ fun c_ cs_ => qSl Cl.no 146 c_ fun xs1 => gC Cl.no cs_ fun c_ cs_ => qSl Cl.no 140 c_ fun xs2 => gC Cl.no cs_ fun c_ cs_ => qS Cl.no c_ fun v_ => vI Cl.no .i64 v_ fun a3 => gE Cl.no cs_ <| gC Cl.no ps_ fun p_ ps_ => qC Cl.no p_ fun c_ => qS Cl.no c_ fun v_ => vI Cl.no .i64 v_ fun a4 => gC Cl.no ps_ fun p_ ps_ => qC Cl.no p_ fun c_ => qS Cl.no c_ fun v_ => vI Cl.no .i64 v_ fun a5 => gE Cl.no ps_ <| { α := Bool × (List S146) × (List (List S142)) × Int, o := f110 k xs1 xs2 a3 a4 a5, w := f110.w, nat := fun x _ => f110.wn x }
def f110.e (k : Nat) : Entry env := ⟨fun ps => f110.hd k (coer [[.rd 146, .rd 140, .no], [.no], [.no]] ps), [], []⟩
def f110.X (k : Nat) : Ctx env := { C := lookE [(83, f83.e k), (129, f129.e k)], L := lookE [], J := lookE [], keep := lookD [], keepX := lookD [], span := lookN [], eff := fun n => memN n [], prep := lookP [], np := 0 }
theorem f110.nat {R : Type} (k : Nat) (g : (Bool × (List S146) × (List (List S142)) × Int) → Option R) (xs1 : List S146) (xs2 : List (List S142)) (a3 : Int) (a4 : Int) (a5 : Int) : f110.step k g xs1 xs2 a3 a4 a5 = (f110 k xs1 xs2 a3 a4 a5).bind g := by
  simp only [f110, f110.step, bind_ite, bind_sum, Option.bind_assoc, Option.bind_some, Option.bind_none]
theorem f110.ev (k : Nat) (xs1 : List S146) (xs2 : List (List S142)) (a3 : Int) (a4 : Int) (a5 : Int) : evF (f110.X k) (bodyOf Try.f110) Try.f110.ntmps Try.f110.results.toList [.v (.ptr [.sl 146 xs1, .sl 140 xs2, .s (.int .i64 a3)]), .v (.c (.s (.int .i64 a4))), .v (.c (.s (.int .i64 a5)))] = f110.step k (fun x => f110.w x some) xs1 xs2 a3 a4 a5 := by kernel_rfl
theorem f110.hok (k : Nat) : HOK (f110.X k) (bodyOf Try.f110) where
  l := allP_mem (by exact trivial)
  j := allP_mem (by exact trivial)
theorem f110.sound0 (k : Nat) : SoundC env Try.prog 110 (f110.hd k) := by
  intro ps_
  show GoodC _ _ _ ps_ (f110.hd k ps_)
  unfold f110.hd
  refine gC_ok (p := GoodC env Try.prog 110 _) goodC_no fun _ _ h => ?_
  subst h
  refine qP_ok (p := GoodC env Try.prog 110 _) goodC_no fun _ h => ?_
  subst h
  refine gC_ok (p := GoodC env Try.prog 110 _) goodC_no fun _ _ h => ?_
  subst h
  refine qSl_ok (p := GoodC env Try.prog 110 _) goodC_no fun _ h => ?_
  subst h
  refine gC_ok (p := GoodC env Try.prog 110 _) goodC_no fun _ _ h => ?_
  subst h
  refine qSl_ok (p := GoodC env Try.prog 110 _) goodC_no fun _ h => ?_
  subst h
  refine gC_ok (p := GoodC env Try.prog 110 _) goodC_no fun _ _ h => ?_
  subst h
  refine qS_ok (p := GoodC env Try.prog 110 _) goodC_no fun _ h => ?_
  subst h
  refine vI_ok (p := GoodC env Try.prog 110 _) goodC_no fun _ h => ?_
  subst h
  refine gE_ok (p := GoodC env Try.prog 110 _) goodC_no fun h => ?_
  subst h
  refine gC_ok (p := GoodC env Try.prog 110 _) goodC_no fun _ _ h => ?_
  subst h
  refine qC_ok (p := GoodC env Try.prog 110 _) goodC_no fun _ h => ?_
  subst h
  refine qS_ok (p := GoodC env Try.prog 110 _) goodC_no fun _ h => ?_
  subst h
  refine vI_ok (p := GoodC env Try.prog 110 _) goodC_no fun _ h => ?_
  subst h
  refine gC_ok (p := GoodC env Try.prog 110 _) goodC_no fun _ _ h => ?_
  subst h
  refine qC_ok (p := GoodC env Try.prog 110 _) goodC_no fun _ h => ?_
  subst h
  refine qS_ok (p := GoodC env Try.prog 110 _) goodC_no fun _ h => ?_
  subst h
  refine vI_ok (p := GoodC env Try.prog 110 _) goodC_no fun _ h => ?_
  subst h
  refine gE_ok (p := GoodC env Try.prog 110 _) goodC_no fun h => ?_
  subst h
  exact fun_good (fun_sound envOK (cs_sound _ (by exact ⟨⟨f83.sound k, f83.fnok⟩, ⟨f129.sound k, f129.fnok⟩, trivial⟩)) (f110.hok k) Try.func110 rfl) ((f110.ev k _ _ _ _ _).trans (f110.nat k _ _ _ _ _ _))
theorem f110.sound (k : Nat) : SoundC env Try.prog 110 (f110.e k).F := soundC_coer (f110.sound0 k) [[.rd 146, .rd 140, .no], [.no], [.no]]
theorem f110.says (k : Nat) (xs1 : List S146) (xs2 : List (List S142)) (a3 : Int) (a4 : Int) (a5 : Int) (t10 : Bool × (List S146) × (List (List S142)) × Int) (h_ : f110 k xs1 xs2 a3 a4 a5 = some t10) : SoundAt env Try.prog 110 [.v (.ptr [.sl 146 xs1, .sl 140 xs2, .s (.int .i64 a3)]), .v (.c (.s (.int .i64 a4))), .v (.c (.s (.int .i64 a5)))] ⟨.v (.c (.s (.bool t10.1))), [[.sl 146 t10.2.1, .sl 140 t10.2.2.1, .s (.int .i64 t10.2.2.2)], [], []]⟩ :=
  fun_sound envOK (cs_sound _ (by exact ⟨⟨f83.sound k, f83.fnok⟩, ⟨f129.sound k, f129.fnok⟩, trivial⟩)) (f110.hok k) Try.func110 rfl _ _ (((f110.ev k xs1 xs2 a3 a4 a5).trans (f110.nat k _ xs1 xs2 a3 a4 a5)).trans (by rw [h_]; rfl))
theorem f110.fnok : FnOK Try.prog 110 := fn_ok Try.func110 (by kernel_rfl) rfl
def f44.l4.step {R : Type} (k : Nat) (rec_ : (List (List S142)) → Int → Int → (List S146) → (List (List S142)) → Int → Option R) (ret : ((Bool × (List S146) × (List (List S142)) × Int) ⊕ ((List S146) × (List (List S142)) × Int)) → Option R) (xs5 : List (List S142)) (a6 : Int) (a7 : Int) (xs8 : List S146) (xs9 : List (List S142)) (a10 : Int) : Option R :=
  if (decide (a7 < a6)) = true then
    if (0 : Int) ≤ a7 then
      if a7 < ((List.length xs5 : Nat) : Int) then
        if (decide ((((List.length (List.getD xs5 (Int.toNat a7) [])) : Nat) : Int) ≠ a10)) = true then
          ret (.inl (false, xs8, xs9, a10))
        else
          rec_ xs5 a6 (IntKind.i64.wrap (a7 + (1 : Int))) xs8 xs9 a10
      else none
    else none
  else
    ret (.inr (xs8, xs9, a10))
def f44.l4 (k : Nat) : Nat → (List (List S142)) → Int → Int → (List S146) → (List (List S142)) → Int → Option ((Bool × (List S146) × (List (List S142)) × Int) ⊕ ((List S146) × (List (List S142)) × Int))
  | 0, _, _, _, _, _, _ => none
  | j + 1, xs5, a6, a7, xs8, xs9, a10 => f44.l4.step k (fun xs5 a6 a7 xs8 xs9 a10 => f44.l4 k j xs5 a6 a7 xs8 xs9 a10) some xs5 a6 a7 xs8 xs9 a10
def f44.l4.w {R : Type} : ((Bool × (List S146) × (List (List S142)) × Int) ⊕ ((List S146) × (List (List S142)) × Int)) → (Exit → St env → Option R) → Option R := fun x K => Sum.elim (fun t31 => K .ret ⟨fullT [1, 2] 0 55 [.v (.c (.bp 1 0)), .v (.c (.s (.bool t31.1)))], [(1, .box [.imm 146 t31.2.1, .imm 140 t31.2.2.1, .s (.int .i64 t31.2.2.2)])], 513⟩) (fun t32 => K (.exit 0) ⟨fullT [1] 0 55 [.v (.c (.bp 1 0))], [(1, .box [.imm 146 t32.1, .imm 140 t32.2.1, .s (.int .i64 t32.2.2)])], 513⟩) x
def f44.l4.st (xs5 : List (List S142)) (a6 : Int) (a7 : Int) (xs8 : List S146) (xs9 : List (List S142)) (a10 : Int) : St env := ⟨fullT [1, 22, 23, 24] 0 55 [.v (.c (.bp 1 0)), .v (.c (.imm 140 xs5)), .v (.c (.s (.int .i64 a6))), .v (.c (.s (.int .i64 a7)))], [(1, .box [.imm 146 xs8, .imm 140 xs9, .s (.int .i64 a10)])], 321⟩
def f44.l13.step {R : Type} (k : Nat) (rec_ : Int → Int → Int → Int → Int → (List S146) → (List (List S142)) → Int → Option R) (ret : ((Bool × Int × Int × (List S146) × (List (List S142)) × Int) ⊕ (Int × Int × (List S146) × (List (List S142)) × Int)) → Option R) (a18 : Int) (a19 : Int) (a20 : Int) (a21 : Int) (a22 : Int) (xs23 : List S146) (xs24 : List (List S142)) (a25 : Int) : Option R :=
  if (decide (a22 < a21)) = true then
    (f110 k xs23 xs24 a25 a18 a22).bind fun t26 => if (!t26.1) = true then
        ret (.inl (false, a19, a20, t26.2.1, t26.2.2.1, t26.2.2.2))
      else
        rec_ a18 a19 a20 a21 (IntKind.i64.wrap (a22 + (1 : Int))) t26.2.1 t26.2.2.1 t26.2.2.2
  else
    ret (.inr (a19, a20, xs23, xs24, a25))
def f44.l13 (k : Nat) : Nat → Int → Int → Int → Int → Int → (List S146) → (List (List S142)) → Int → Option ((Bool × Int × Int × (List S146) × (List (List S142)) × Int) ⊕ (Int × Int × (List S146) × (List (List S142)) × Int))
  | 0, _, _, _, _, _, _, _, _ => none
  | j + 1, a18, a19, a20, a21, a22, xs23, xs24, a25 => f44.l13.step k (fun a18 a19 a20 a21 a22 xs23 xs24 a25 => f44.l13 k j a18 a19 a20 a21 a22 xs23 xs24 a25) some a18 a19 a20 a21 a22 xs23 xs24 a25
def f44.l13.w {R : Type} : ((Bool × Int × Int × (List S146) × (List (List S142)) × Int) ⊕ (Int × Int × (List S146) × (List (List S142)) × Int)) → (Exit → St env → Option R) → Option R := fun x K => Sum.elim (fun t33 => K .ret ⟨fullT [1, 2, 36, 37] 0 55 [.v (.c (.bp 1 0)), .v (.c (.s (.bool t33.1))), .v (.c (.s (.int .i64 t33.2.1))), .v (.c (.s (.int .i64 t33.2.2.1)))], [(1, .box [.imm 146 t33.2.2.2.1, .imm 140 t33.2.2.2.2.1, .s (.int .i64 t33.2.2.2.2.2)])], 897⟩) (fun t34 => K (.exit 4) ⟨fullT [1, 36, 37] 0 55 [.v (.c (.bp 1 0)), .v (.c (.s (.int .i64 t34.1))), .v (.c (.s (.int .i64 t34.2.1)))], [(1, .box [.imm 146 t34.2.2.1, .imm 140 t34.2.2.2.1, .s (.int .i64 t34.2.2.2.2)])], 897⟩) x
def f44.l13.st (a18 : Int) (a19 : Int) (a20 : Int) (a21 : Int) (a22 : Int) (xs23 : List S146) (xs24 : List (List S142)) (a25 : Int) : St env := ⟨fullT [1, 5, 36, 37, 45, 46] 0 55 [.v (.c (.bp 1 0)), .v (.c (.s (.int .i64 a18))), .v (.c (.s (.int .i64 a19))), .v (.c (.s (.int .i64 a20))), .v (.c (.s (.int .i64 a21))), .v (.c (.s (.int .i64 a22)))], [(1, .box [.imm 146 xs23, .imm 140 xs24, .s (.int .i64 a25)])], 737⟩
def f44.l10.step {R : Type} (k : Nat) (rec_ : Int → Int → (List S146) → (List (List S142)) → Int → Option R) (ret : (Bool ⊕ (Unit)) → Option R) (a13 : Int) (a14 : Int) (xs15 : List S146) (xs16 : List (List S142)) (a17 : Int) : Option R :=
  if (decide (a14 < a13)) = true then
    if (0 : Int) ≤ a14 then
      if a14 < ((List.length xs16 : Nat) : Int) then
        (f44.l13 k k a14 a13 a14 (((List.length (List.getD xs16 (Int.toNat a14) [])) : Nat) : Int) (0 : Int) xs15 xs16 a17).bind (Sum.elim (fun t27 => ret (.inl t27.1)) (fun t28 => rec_ t28.1 (IntKind.i64.wrap (t28.2.1 + (1 : Int))) t28.2.2.1 t28.2.2.2.1 t28.2.2.2.2))
      else none
    else none
  else
    ret (.inr ())
def f44.l10 (k : Nat) : Nat → Int → Int → (List S146) → (List (List S142)) → Int → Option (Bool ⊕ (Unit))
  | 0, _, _, _, _, _ => none
  | j + 1, a13, a14, xs15, xs16, a17 => f44.l10.step k (fun a13 a14 xs15 xs16 a17 => f44.l10 k j a13 a14 xs15 xs16 a17) some a13 a14 xs15 xs16 a17
def f44.l10.w {R : Type} : (Bool ⊕ (Unit)) → (Exit → St env → Option R) → Option R := fun x K => Sum.elim (fun t35 => K .ret ⟨fullT [2] 0 55 [.v (.c (.s (.bool t35)))], [], 929⟩) (fun t36 => K (.exit 2) ⟨fullT [] 0 55 [], [], 929⟩) x
def f44.l10.st (a13 : Int) (a14 : Int) (xs15 : List S146) (xs16 : List (List S142)) (a17 : Int) : St env := ⟨fullT [1, 36, 37] 0 55 [.v (.c (.bp 1 0)), .v (.c (.s (.int .i64 a13))), .v (.c (.s (.int .i64 a14)))], [(1, .box [.imm 146 xs15, .imm 140 xs16, .s (.int .i64 a17)])], 577⟩
def f44.l4.hd (k : Nat) (ts_ : List (AV env)) (mm_ : Mem env) (n_ : Nat) : LCl env :=
  gTs LCl.no [1, 22, 23, 24] 55 ts_ fun l_ => gV LCl.no l_ fun a_ l_ => rBp LCl.no 1 0 a_ <| gV LCl.no l_ fun a_ l_ => rImm LCl.no 140 a_ fun xs5 => gV LCl.no l_ fun a_ l_ => rV LCl.no a_ fun v_ => vI LCl.no .i64 v_ fun a6 => gV LCl.no l_ fun a_ l_ => rV LCl.no a_ fun v_ => vI LCl.no .i64 v_ fun a7 => gE LCl.no l_ <| mBox LCl.no 1 mm_ fun c_ m_ => gC LCl.no c_ fun a_ c_ => rImm LCl.no 146 a_ fun xs8 => gC LCl.no c_ fun a_ c_ => rImm LCl.no 140 a_ fun xs9 => gC LCl.no c_ fun a_ c_ => rV LCl.no a_ fun v_ => vI LCl.no .i64 v_ fun a10 => gE LCl.no c_ <| gE LCl.no m_ <| gN LCl.no 321 n_ { α := (Bool × (List S146) × (List (List S142)) × Int) ⊕ ((List S146) × (List (List S142)) × Int), o := f44.l4 k k xs5 a6 a7 xs8 xs9 a10, w := f44.l4.w }
def f44.l13.hd (k : Nat) (ts_ : List (AV env)) (mm_ : Mem env) (n_ : Nat) : LCl env :=
  gTs LCl.no [1, 5, 36, 37, 45, 46] 55 ts_ fun l_ => gV LCl.no l_ fun a_ l_ => rBp LCl.no 1 0 a_ <| gV LCl.no l_ fun a_ l_ => rV LCl.no a_ fun v_ => vI LCl.no .i64 v_ fun a18 => gV LCl.no l_ fun a_ l_ => rV LCl.no a_ fun v_ => vI LCl.no .i64 v_ fun a19 => gV LCl.no l_ fun a_ l_ => rV LCl.no a_ fun v_ => vI LCl.no .i64 v_ fun a20 => gV LCl.no l_ fun a_ l_ => rV LCl.no a_ fun v_ => vI LCl.no .i64 v_ fun a21 => gV LCl.no l_ fun a_ l_ => rV LCl.no a_ fun v_ => vI LCl.no .i64 v_ fun a22 => gE LCl.no l_ <| mBox LCl.no 1 mm_ fun c_ m_ => gC LCl.no c_ fun a_ c_ => rImm LCl.no 146 a_ fun xs23 => gC LCl.no c_ fun a_ c_ => rImm LCl.no 140 a_ fun xs24 => gC LCl.no c_ fun a_ c_ => rV LCl.no a_ fun v_ => vI LCl.no .i64 v_ fun a25 => gE LCl.no c_ <| gE LCl.no m_ <| gN LCl.no 737 n_ { α := (Bool × Int × Int × (List S146) × (List (List S142)) × Int) ⊕ (Int × Int × (List S146) × (List (List S142)) × Int), o := f44.l13 k k a18 a19 a20 a21 a22 xs23 xs24 a25, w := f44.l13.w }
def f44.l10.hd (k : Nat) (ts_ : List (AV env)) (mm_ : Mem env) (n_ : Nat) : LCl env :=
  gTs LCl.no [1, 36, 37] 55 ts_ fun l_ => gV LCl.no l_ fun a_ l_ => rBp LCl.no 1 0 a_ <| gV LCl.no l_ fun a_ l_ => rV LCl.no a_ fun v_ => vI LCl.no .i64 v_ fun a13 => gV LCl.no l_ fun a_ l_ => rV LCl.no a_ fun v_ => vI LCl.no .i64 v_ fun a14 => gE LCl.no l_ <| mBox LCl.no 1 mm_ fun c_ m_ => gC LCl.no c_ fun a_ c_ => rImm LCl.no 146 a_ fun xs15 => gC LCl.no c_ fun a_ c_ => rImm LCl.no 140 a_ fun xs16 => gC LCl.no c_ fun a_ c_ => rV LCl.no a_ fun v_ => vI LCl.no .i64 v_ fun a17 => gE LCl.no c_ <| gE LCl.no m_ <| gN LCl.no 577 n_ { α := Bool ⊕ (Unit), o := f44.l10 k k a13 a14 xs15 xs16 a17, w := f44.l10.w }
def f44.step {R : Type} (k : Nat) (ret : Bool → Option R) (xs1 : List S146) (xs2 : List (List S142)) (a3 : Int) : Option R :=
  (f109 k a3 xs1).bind fun t4 => if (!t4) = false then
      if (decide ((((List.length xs2) : Nat) : Int) ≠ a3)) = true then
        ret false
      else
        (f44.l4 k k xs2 (((List.length xs2) : Nat) : Int) (0 : Int) xs1 xs2 a3).bind (Sum.elim (fun t11 => ret t11.1) (fun t12 => (f44.l10 k k (((List.length t12.2.1) : Nat) : Int) (0 : Int) t12.1 t12.2.1 t12.2.2).bind (Sum.elim (fun t29 => ret t29) (fun t30 => ret true))))
    else
      ret false
def f44 (k : Nat) (xs1 : List S146) (xs2 : List (List S142)) (a3 : Int) : Option Bool := f44.step k some xs1 xs2 a3
def f44.w {R : Type} : Bool → (Res env → Option R) → Option R := fun t37 K => K ⟨.v (.c (.s (.bool t37))), [[]]⟩
theorem f44.wn (x : Bool) : ∃ res, ∀ {R : Type} (K : Res env → Option R), f44.w x K = K res := by
  exact ⟨_, fun _ => rfl⟩
def f44.hd (k : Nat) (ps_ : List (P2 env)) : Cl env :=
  gC Cl.no ps_ fun p_ ps_ => qG Cl.no p_ fun cs_ => gC Cl.no cs_ fun c_ cs_ => qSl Cl.no 146 c_ fun xs1 => gC Cl.no cs_ fun c_ cs_ => qSl Cl.no 140 c_ fun xs2 => gC Cl.no cs_ fun c_ cs_ => qS Cl.no c_ fun v_ => vI Cl.no .i64 v_ fun a3 => gE Cl.no cs_ <| gE Cl.no ps_ <| { α := Bool, o := f44 k xs1 xs2 a3, w := f44.w, nat := fun x _ => f44.wn x }
def f44.e (k : Nat) : Entry env := ⟨fun ps => f44.hd k (coer [[.rd 146, .rd 140, .no]] ps), [], []⟩
def f44.X (k : Nat) : Ctx env := { C := lookE [(109, f109.e k), (110, f110.e k)], L := lookE [(4, fun S => f44.l4.hd k S.ts S.m S.n), (13, fun S => f44.l13.hd k S.ts S.m S.n), (10, fun S => f44.l10.hd k S.ts S.m S.n)], J := lookE [], keep := lookD [(4, [1, 22, 23, 24]), (13, [1, 5, 36, 37, 45, 46]), (10, [1, 36, 37])], keepX := lookD [(4, [1, 2]), (13, [1, 2, 36, 37]), (10, [2])], span := lookN [(4, 192), (13, 160), (10, 352)], eff := fun n => memN n [], prep := lookP [], np := 0 }
theorem f44.l4.nat {R : Type} (k : Nat) (rec_ : (List (List S142)) → Int → Int → (List S146) → (List (List S142)) → Int → Option ((Bool × (List S146) × (List (List S142)) × Int) ⊕ ((List S146) × (List (List S142)) × Int))) (g : ((Bool × (List S146) × (List (List S142)) × Int) ⊕ ((List S146) × (List (List S142)) × Int)) → Option R) (xs5 : List (List S142)) (a6 : Int) (a7 : Int) (xs8 : List S146) (xs9 : List (List S142)) (a10 : Int) : (f44.l4.step k rec_ some xs5 a6 a7 xs8 xs9 a10).bind g = f44.l4.step k (fun xs5 a6 a7 xs8 xs9 a10 => (rec_ xs5 a6 a7 xs8 xs9 a10).bind g) g xs5 a6 a7 xs8 xs9 a10 := by
  simp only [f44.l4.step, bind_ite, bind_sum, Option.bind_assoc, Option.bind_some, Option.bind_none]
theorem f44.l4.good (k : Nat) (xs5 : List (List S142)) (a6 : Int) (a7 : Int) (xs8 : List S146) (xs9 : List (List S142)) (a10 : Int) : GoodL (f44.X k) (nthC 0 (loopsOf (bodyOf Try.f44))) (f44.l4.st xs5 a6 a7 xs8 xs9 a10) { α := ((Bool × (List S146) × (List (List S142)) × Int) ⊕ ((List S146) × (List (List S142)) × Int)), o := f44.l4 k k xs5 a6 a7 xs8 xs9 a10, w := f44.l4.w } :=
  loop_good (ι := (List (List S142)) × Int × Int × (List S146) × (List (List S142)) × Int) (α := ((Bool × (List S146) × (List (List S142)) × Int) ⊕ ((List S146) × (List (List S142)) × Int))) (fun i => f44.l4.st i.1 i.2.1 i.2.2.1 i.2.2.2.1 i.2.2.2.2.1 i.2.2.2.2.2) (fun j i => f44.l4 k j i.1 i.2.1 i.2.2.1 i.2.2.2.1 i.2.2.2.2.1 i.2.2.2.2.2) f44.l4.w (fun rec_ ret i => f44.l4.step k (fun xs5 a6 a7 xs8 xs9 a10 => rec_ (xs5, a6, a7, xs8, xs9, a10)) ret i.1 i.2.1 i.2.2.1 i.2.2.2.1 i.2.2.2.2.1 i.2.2.2.2.2)
    (fun _ => rfl) (fun _ _ => rfl) (fun rec_ g i => f44.l4.nat k _ g i.1 i.2.1 i.2.2.1 i.2.2.2.1 i.2.2.2.2.1 i.2.2.2.2.2) (fun {R} i0 i rec_ K => by kernel_rfl) k (xs5, a6, a7, xs8, xs9, a10)
theorem f44.l4.all (k : Nat) (S : St env) : GoodL (f44.X k) (nthC 0 (loopsOf (bodyOf Try.f44))) S (f44.l4.hd k S.ts S.m S.n) := by
  obtain ⟨ts_, m_, n_⟩ := S
  show GoodL _ _ _ (f44.l4.hd k ts_ m_ n_)
  unfold f44.l4.hd
  refine gTs_ok (p := GoodL _ _ _) goodL_no fun _ h => ?_
  subst h
  refine gV_ok (p := GoodL _ _ _) goodL_no fun _ _ h => ?_
  subst h
  refine rBp_ok (p := GoodL _ _ _) goodL_no fun h => ?_
  subst h
  refine gV_ok (p := GoodL _ _ _) goodL_no fun _ _ h => ?_
  subst h
  refine rImm_ok (p := GoodL _ _ _) goodL_no fun _ h => ?_
  subst h
  refine gV_ok (p := GoodL _ _ _) goodL_no fun _ _ h => ?_
  subst h
  refine rV_ok (p := GoodL _ _ _) goodL_no fun _ h => ?_
  subst h
  refine vI_ok (p := GoodL _ _ _) goodL_no fun _ h => ?_
  subst h
  refine gV_ok (p := GoodL _ _ _) goodL_no fun _ _ h => ?_
  subst h
  refine rV_ok (p := GoodL _ _ _) goodL_no fun _ h => ?_
  subst h
  refine vI_ok (p := GoodL _ _ _) goodL_no fun _ h => ?_
  subst h
  refine gE_ok (p := GoodL _ _ _) goodL_no fun h => ?_
  subst h
  refine mBox_ok (p := GoodL _ _ _) goodL_no fun _ _ h => ?_
  subst h
  refine gC_ok (p := GoodL _ _ _) goodL_no fun _ _ h => ?_
  subst h
  refine rImm_ok (p := GoodL _ _ _) goodL_no fun _ h => ?_
  subst h
  refine gC_ok (p := GoodL _ _ _) goodL_no fun _ _ h => ?_
  subst h
  refine rImm_ok (p := GoodL _ _ _) goodL_no fun _ h => ?_
  subst h
  refine gC_ok (p := GoodL _ _ _) goodL_no fun _ _ h => ?_
  subst h
  refine rV_ok (p := GoodL _ _ _) goodL_no fun _ h => ?_
  subst h
  refine vI_ok (p := GoodL _ _ _) goodL_no fun _ h => ?_
  subst h
  refine gE_ok (p := GoodL _ _ _) goodL_no fun h => ?_
  subst h
  refine gE_ok (p := GoodL _ _ _) goodL_no fun h => ?_
  subst h
  refine gN_ok (p := GoodL _ _ _) goodL_no fun h => ?_
  subst h
  exact f44.l4.good k _ _ _ _ _ _
theorem f44.l13.nat {R : Type} (k : Nat) (rec_ : Int → Int → Int → Int → Int → (List S146) → (List (List S142)) → Int → Option ((Bool × Int × Int × (List S146) × (List (List S142)) × Int) ⊕ (Int × Int × (List S146) × (List (List S142)) × Int))) (g : ((Bool × Int × Int × (List S146) × (List (List S142)) × Int) ⊕ (Int × Int × (List S146) × (List (List S142)) × Int)) → Option R) (a18 : Int) (a19 : Int) (a20 : Int) (a21 : Int) (a22 : Int) (xs23 : List S146) (xs24 : List (List S142)) (a25 : Int) : (f44.l13.step k rec_ some a18 a19 a20 a21 a22 xs23 xs24 a25).bind g = f44.l13.step k (fun a18 a19 a20 a21 a22 xs23 xs24 a25 => (rec_ a18 a19 a20 a21 a22 xs23 xs24 a25).bind g) g a18 a19 a20 a21 a22 xs23 xs24 a25 := by
  simp only [f44.l13.step, bind_ite, bind_sum, Option.bind_assoc, Option.bind_some, Option.bind_none]
theorem f44.l13.good (k : Nat) (a18 : Int) (a19 : Int) (a20 : Int) (a21 : Int) (a22 : Int) (xs23 : List S146) (xs24 : List (List S142)) (a25 : Int) : GoodL (f44.X k) (nthC 2 (loopsOf (bodyOf Try.f44))) (f44.l13.st a18 a19 a20 a21 a22 xs23 xs24 a25) { α := ((Bool × Int × Int × (List S146) × (List (List S142)) × Int) ⊕ (Int × Int × (List S146) × (List (List S142)) × Int)), o := f44.l13 k k a18 a19 a20 a21 a22 xs23 xs24 a25, w := f44.l13.w } :=
  loop_good (ι := Int × Int × Int × Int × Int × (List S146) × (List (List S142)) × Int) (α := ((Bool × Int × Int × (List S146) × (List (List S142)) × Int) ⊕ (Int × Int × (List S146) × (List (List S142)) × Int))) (fun i => f44.l13.st i.1 i.2.1 i.2.2.1 i.2.2.2.1 i.2.2.2.2.1 i.2.2.2.2.2.1 i.2.2.2.2.2.2.1 i.2.2.2.2.2.2.2) (fun j i => f44.l13 k j i.1 i.2.1 i.2.2.1 i.2.2.2.1 i.2.2.2.2.1 i.2.2.2.2.2.1 i.2.2.2.2.2.2.1 i.2.2.2.2.2.2.2) f44.l13.w (fun rec_ ret i => f44.l13.step k (fun a18 a19 a20 a21 a22 xs23 xs24 a25 => rec_ (a18, a19, a20, a21, a22, xs23, xs24, a25)) ret i.1 i.2.1 i.2.2.1 i.2.2.2.1 i.2.2.2.2.1 i.2.2.2.2.2.1 i.2.2.2.2.2.2.1 i.2.2.2.2.2.2.2)
    (fun _ => rfl) (fun _ _ => rfl) (fun rec_ g i => f44.l13.nat k _ g i.1 i.2.1 i.2.2.1 i.2.2.2.1 i.2.2.2.2.1 i.2.2.2.2.2.1 i.2.2.2.2.2.2.1 i.2.2.2.2.2.2.2) (fun {R} i0 i rec_ K => by kernel_rfl) k (a18, a19, a20, a21, a22, xs23, xs24, a25)
theorem f44.l13.all (k : Nat) (S : St env) : GoodL (f44.X k) (nthC 2 (loopsOf (bodyOf Try.f44))) S (f44.l13.hd k S.ts S.m S.n) := by
  obtain ⟨ts_, m_, n_⟩ := S
  show GoodL _ _ _ (f44.l13.hd k ts_ m_ n_)
  unfold f44.l13.hd
  refine gTs_ok (p := GoodL _ _ _) goodL_no fun _ h => ?_
  subst h
  refine gV_ok (p := GoodL _ _ _) goodL_no fun _ _ h => ?_
  subst h
  refine rBp_ok (p := GoodL _ _ _) goodL_no fun h => ?_
  subst h
  refine gV_ok (p := GoodL _ _ _) goodL_no fun _ _ h => ?_
  subst h
  refine rV_ok (p := GoodL _ _ _) goodL_no fun _ h => ?_
  subst h
  refine vI_ok (p := GoodL _ _ _) goodL_no fun _ h => ?_
  subst h
  refine gV_ok (p := GoodL _ _ _) goodL_no fun _ _ h => ?_
  subst h
  refine rV_ok (p := GoodL _ _ _) goodL_no fun _ h => ?_
  subst h
  refine vI_ok (p := GoodL _ _ _) goodL_no fun _ h => ?_
  subst h
  refine gV_ok (p := GoodL _ _ _) goodL_no fun _ _ h => ?_
  subst h
  refine rV_ok (p := GoodL _ _ _) goodL_no fun _ h => ?_
  subst h
  refine vI_ok (p := GoodL _ _ _) goodL_no fun _ h => ?_
  subst h
  refine gV_ok (p := GoodL _ _ _) goodL_no fun _ _ h => ?_
  subst h
  refine rV_ok (p := GoodL _ _ _) goodL_no fun _ h => ?_
  subst h
  refine vI_ok (p := GoodL _ _ _) goodL_no fun _ h => ?_
  subst h
  refine gV_ok (p := GoodL _ _ _) goodL_no fun _ _ h => ?_
  subst h
  refine rV_ok (p := GoodL _ _ _) goodL_no fun _ h => ?_
  subst h
  refine vI_ok (p := GoodL _ _ _) goodL_no fun _ h => ?_
  subst h
  refine gE_ok (p := GoodL _ _ _) goodL_no fun h => ?_
  subst h
  refine mBox_ok (p := GoodL _ _ _) goodL_no fun _ _ h => ?_
  subst h
  refine gC_ok (p := GoodL _ _ _) goodL_no fun _ _ h => ?_
  subst h
  refine rImm_ok (p := GoodL _ _ _) goodL_no fun _ h => ?_
  subst h
  refine gC_ok (p := GoodL _ _ _) goodL_no fun _ _ h => ?_
  subst h
  refine rImm_ok (p := GoodL _ _ _) goodL_no fun _ h => ?_
  subst h
  refine gC_ok (p := GoodL _ _ _) goodL_no fun _ _ h => ?_
  subst h
  refine rV_ok (p := GoodL _ _ _) goodL_no fun _ h => ?_
  subst h
  refine vI_ok (p := GoodL _ _ _) goodL_no fun _ h => ?_
  subst h
  refine gE_ok (p := GoodL _ _ _) goodL_no fun h => ?_
  subst h
  refine gE_ok (p := GoodL _ _ _) goodL_no fun h => ?_
  subst h
  refine gN_ok (p := GoodL _ _ _) goodL_no fun h => ?_
  subst h
  exact f44.l13.good k _ _ _ _ _ _ _ _
theorem f44.l10.nat {R : Type} (k : Nat) (rec_ : Int → Int → (List S146) → (List (List S142)) → Int → Option (Bool ⊕ (Unit))) (g : (Bool ⊕ (Unit)) → Option R) (a13 : Int) (a14 : Int) (xs15 : List S146) (xs16 : List (List S142)) (a17 : Int) : (f44.l10.step k rec_ some a13 a14 xs15 xs16 a17).bind g = f44.l10.step k (fun a13 a14 xs15 xs16 a17 => (rec_ a13 a14 xs15 xs16 a17).bind g) g a13 a14 xs15 xs16 a17 := by
  simp only [f44.l10.step, bind_ite, bind_sum, Option.bind_assoc, Option.bind_some, Option.bind_none]
theorem f44.l10.good (k : Nat) (a13 : Int) (a14 : Int) (xs15 : List S146) (xs16 : List (List S142)) (a17 : Int) : GoodL (f44.X k) (nthC 1 (loopsOf (bodyOf Try.f44))) (f44.l10.st a13 a14 xs15 xs16 a17) { α := (Bool ⊕ (Unit)), o := f44.l10 k k a13 a14 xs15 xs16 a17, w := f44.l10.w } :=
  loop_good (ι := Int × Int × (List S146) × (List (List S142)) × Int) (α := (Bool ⊕ (Unit))) (fun i => f44.l10.st i.1 i.2.1 i.2.2.1 i.2.2.2.1 i.2.2.2.2) (fun j i => f44.l10 k j i.1 i.2.1 i.2.2.1 i.2.2.2.1 i.2.2.2.2) f44.l10.w (fun rec_ ret i => f44.l10.step k (fun a13 a14 xs15 xs16 a17 => rec_ (a13, a14, xs15, xs16, a17)) ret i.1 i.2.1 i.2.2.1 i.2.2.2.1 i.2.2.2.2)
    (fun _ => rfl) (fun _ _ => rfl) (fun rec_ g i => f44.l10.nat k _ g i.1 i.2.1 i.2.2.1 i.2.2.2.1 i.2.2.2.2) (fun {R} i0 i rec_ K => by kernel_rfl) k (a13, a14, xs15, xs16, a17)
theorem f44.l10.all (k : Nat) (S : St env) : GoodL (f44.X k) (nthC 1 (loopsOf (bodyOf Try.f44))) S (f44.l10.hd k S.ts S.m S.n) := by
  obtain ⟨ts_, m_, n_⟩ := S
  show GoodL _ _ _ (f44.l10.hd k ts_ m_ n_)
  unfold f44.l10.hd
  refine gTs_ok (p := GoodL _ _ _) goodL_no fun _ h => ?_
  subst h
  refine gV_ok (p := GoodL _ _ _) goodL_no fun _ _ h => ?_
  subst h
  refine rBp_ok (p := GoodL _ _ _) goodL_no fun h => ?_
  subst h
  refine gV_ok (p := GoodL _ _ _) goodL_no fun _ _ h => ?_
  subst h
  refine rV_ok (p := GoodL _ _ _) goodL_no fun _ h => ?_
  subst h
  refine vI_ok (p := GoodL _ _ _) goodL_no fun _ h => ?_
  subst h
  refine gV_ok (p := GoodL _ _ _) goodL_no fun _ _ h => ?_
  subst h
  refine rV_ok (p := GoodL _ _ _) goodL_no fun _ h => ?_
  subst h
  refine vI_ok (p := GoodL _ _ _) goodL_no fun _ h => ?_
  subst h
  refine gE_ok (p := GoodL _ _ _) goodL_no fun h => ?_
  subst h
  refine mBox_ok (p := GoodL _ _ _) goodL_no fun _ _ h => ?_
  subst h
  refine gC_ok (p := GoodL _ _ _) goodL_no fun _ _ h => ?_
  subst h
  refine rImm_ok (p := GoodL _ _ _) goodL_no fun _ h => ?_
  subst h
  refine gC_ok (p := GoodL _ _ _) goodL_no fun _ _ h => ?_
  subst h
  refine rImm_ok (p := GoodL _ _ _) goodL_no fun _ h => ?_
  subst h
  refine gC_ok (p := GoodL _ _ _) goodL_no fun _ _ h => ?_
  subst h
  refine rV_ok (p := GoodL _ _ _) goodL_no fun _ h => ?_
  subst h
  refine vI_ok (p := GoodL _ _ _) goodL_no fun _ h => ?_
  subst h
  refine gE_ok (p := GoodL _ _ _) goodL_no fun h => ?_
  subst h
  refine gE_ok (p := GoodL _ _ _) goodL_no fun h => ?_
  subst h
  refine gN_ok (p := GoodL _ _ _) goodL_no fun h => ?_
  subst h
  exact f44.l10.good k _ _ _ _ _
theorem f44.nat {R : Type} (k : Nat) (g : Bool → Option R) (xs1 : List S146) (xs2 : List (List S142)) (a3 : Int) : f44.step k g xs1 xs2 a3 = (f44 k xs1 xs2 a3).bind g := by
  simp only [f44, f44.step, bind_ite, bind_sum, Option.bind_assoc, Option.bind_some, Option.bind_none]
theorem f44.ev (k : Nat) (xs1 : List S146) (xs2 : List (List S142)) (a3 : Int) : evF (f44.X k) (bodyOf Try.f44) Try.f44.ntmps Try.f44.results.toList [.g [.sl 146 xs1, .sl 140 xs2, .s (.int .i64 a3)]] = f44.step k (fun x => f44.w x some) xs1 xs2 a3 := by kernel_rfl
theorem f44.hok (k : Nat) : HOK (f44.X k) (bodyOf Try.f44) where
  l := allP_mem (by exact ⟨ls_of (h0 := fun S => f44.l4.hd k S.ts S.m S.n) (by kernel_rfl) (f44.l4.all k), ls_of (h0 := fun S => f44.l10.hd k S.ts S.m S.n) (by kernel_rfl) (f44.l10.all k), ls_of (h0 := fun S => f44.l13.hd k S.ts S.m S.n) (by kernel_rfl) (f44.l13.all k), trivial⟩)
  j := allP_mem (by exact trivial)
theorem f44.sound0 (k : Nat) : SoundC env Try.prog 44 (f44.hd k) := by
  intro ps_
  show GoodC _ _ _ ps_ (f44.hd k ps_)
  unfold f44.hd
  refine gC_ok (p := GoodC env Try.prog 44 _) goodC_no fun _ _ h => ?_
  subst h
  refine qG_ok (p := GoodC env Try.prog 44 _) goodC_no fun _ h => ?_
  subst h
  refine gC_ok (p := GoodC env Try.prog 44 _) goodC_no fun _ _ h => ?_
  subst h
  refine qSl_ok (p := GoodC env Try.prog 44 _) goodC_no fun _ h => ?_
  subst h
  refine gC_ok (p := GoodC env Try.prog 44 _) goodC_no fun _ _ h => ?_
  subst h
  refine qSl_ok (p := GoodC env Try.prog 44 _) goodC_no fun _ h => ?_
  subst h
  refine gC_ok (p := GoodC env Try.prog 44 _) goodC_no fun _ _ h => ?_
  subst h
  refine qS_ok (p := GoodC env Try.prog 44 _) goodC_no fun _ h => ?_
  subst h
  refine vI_ok (p := GoodC env Try.prog 44 _) goodC_no fun _ h => ?_
  subst h
  refine gE_ok (p := GoodC env Try.prog 44 _) goodC_no fun h => ?_
  subst h
  refine gE_ok (p := GoodC env Try.prog 44 _) goodC_no fun h => ?_
  subst h
  exact fun_good (fun_sound envOK (cs_sound _ (by exact ⟨⟨f109.sound k, f109.fnok⟩, ⟨f110.sound k, f110.fnok⟩, trivial⟩)) (f44.hok k) Try.func44 rfl) ((f44.ev k _ _ _).trans (f44.nat k _ _ _ _))
theorem f44.sound (k : Nat) : SoundC env Try.prog 44 (f44.e k).F := soundC_coer (f44.sound0 k) [[.rd 146, .rd 140, .no]]
theorem f44.says (k : Nat) (xs1 : List S146) (xs2 : List (List S142)) (a3 : Int) (t38 : Bool) (h_ : f44 k xs1 xs2 a3 = some t38) : SoundAt env Try.prog 44 [.g [.sl 146 xs1, .sl 140 xs2, .s (.int .i64 a3)]] ⟨.v (.c (.s (.bool t38))), [[]]⟩ :=
  fun_sound envOK (cs_sound _ (by exact ⟨⟨f109.sound k, f109.fnok⟩, ⟨f110.sound k, f110.fnok⟩, trivial⟩)) (f44.hok k) Try.func44 rfl _ _ (((f44.ev k xs1 xs2 a3).trans (f44.nat k _ xs1 xs2 a3)).trans (by rw [h_]; rfl))
theorem f44.fnok : FnOK Try.prog 44 := fn_ok Try.func44 (by kernel_rfl) rfl
end Go.Proofs.Ytildepkogbcdpaa.B

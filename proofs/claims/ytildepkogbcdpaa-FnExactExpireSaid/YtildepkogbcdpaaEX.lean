/- Written by a program of this session. -/
import Derived.Test.YtildepkogbcdpaaEXa
namespace Go.Proofs.Ytildepkogbcdpaa.B
open Go Go.B
set_option linter.unusedVariables false
set_option linter.unusedSimpArgs false
def f78.l4.step {R : Type} (k : Nat) (rec_ : (List S104) → (List S104) → Int → Option R) (ret : (Bool ⊕ (Unit)) → Option R) (xs3 : List S104) (xs4 : List S104) (a5 : Int) : Option R :=
  if (decide (a5 < (((List.length xs3) : Nat) : Int))) = true then
    if (0 : Int) ≤ a5 then
      if a5 < ((List.length xs3 : Nat) : Int) then
        if (0 : Int) ≤ a5 then
          if a5 < ((List.length xs4 : Nat) : Int) then
            (f141 k (List.getD xs3 (Int.toNat a5) (⟨ByteArray.empty, ByteArray.empty, (0 : Int), (0 : Int), (0 : Int), []⟩ : S104)).f0 (List.getD xs3 (Int.toNat a5) (⟨ByteArray.empty, ByteArray.empty, (0 : Int), (0 : Int), (0 : Int), []⟩ : S104)).f1 (List.getD xs3 (Int.toNat a5) (⟨ByteArray.empty, ByteArray.empty, (0 : Int), (0 : Int), (0 : Int), []⟩ : S104)).f2 (List.getD xs3 (Int.toNat a5) (⟨ByteArray.empty, ByteArray.empty, (0 : Int), (0 : Int), (0 : Int), []⟩ : S104)).f3 (List.getD xs3 (Int.toNat a5) (⟨ByteArray.empty, ByteArray.empty, (0 : Int), (0 : Int), (0 : Int), []⟩ : S104)).f4 (List.getD xs3 (Int.toNat a5) (⟨ByteArray.empty, ByteArray.empty, (0 : Int), (0 : Int), (0 : Int), []⟩ : S104)).f5 (List.getD xs4 (Int.toNat a5) (⟨ByteArray.empty, ByteArray.empty, (0 : Int), (0 : Int), (0 : Int), []⟩ : S104)).f0 (List.getD xs4 (Int.toNat a5) (⟨ByteArray.empty, ByteArray.empty, (0 : Int), (0 : Int), (0 : Int), []⟩ : S104)).f1 (List.getD xs4 (Int.toNat a5) (⟨ByteArray.empty, ByteArray.empty, (0 : Int), (0 : Int), (0 : Int), []⟩ : S104)).f2 (List.getD xs4 (Int.toNat a5) (⟨ByteArray.empty, ByteArray.empty, (0 : Int), (0 : Int), (0 : Int), []⟩ : S104)).f3 (List.getD xs4 (Int.toNat a5) (⟨ByteArray.empty, ByteArray.empty, (0 : Int), (0 : Int), (0 : Int), []⟩ : S104)).f4 (List.getD xs4 (Int.toNat a5) (⟨ByteArray.empty, ByteArray.empty, (0 : Int), (0 : Int), (0 : Int), []⟩ : S104)).f5).bind fun t6 => if (!t6) = true then
                ret (.inl false)
              else
                rec_ xs3 xs4 (IntKind.i64.wrap (a5 + (1 : Int)))
          else none
        else none
      else none
    else none
  else
    ret (.inr ())
def f78.l4 (k : Nat) : Nat → (List S104) → (List S104) → Int → Option (Bool ⊕ (Unit))
  | 0, _, _, _ => none
  | j + 1, xs3, xs4, a5 => f78.l4.step k (fun xs3 xs4 a5 => f78.l4 k j xs3 xs4 a5) some xs3 xs4 a5
def f78.l4.w {R : Type} : (Bool ⊕ (Unit)) → (Exit → St env → Option R) → Option R := fun x K => Sum.elim (fun t9 => K .ret ⟨fullT [4] 0 27 [.v (.c (.s (.bool t9)))], [], 402⟩) (fun t10 => K (.exit 0) ⟨fullT [] 0 27 [], [], 402⟩) x
def f78.l4.st (xs3 : List S104) (xs4 : List S104) (a5 : Int) : St env := ⟨fullT [0, 1, 5] 0 27 [.v (.c (.imm 104 xs3)), .v (.c (.imm 104 xs4)), .v (.c (.s (.int .i64 a5)))], [], 114⟩
def f78.l4.hd (k : Nat) (ts_ : List (AV env)) (mm_ : Mem env) (n_ : Nat) : LCl env :=
  gTs LCl.no [0, 1, 5] 27 ts_ fun l_ => gV LCl.no l_ fun a_ l_ => rImm LCl.no 104 a_ fun xs3 => gV LCl.no l_ fun a_ l_ => rImm LCl.no 104 a_ fun xs4 => gV LCl.no l_ fun a_ l_ => rV LCl.no a_ fun v_ => vI LCl.no .i64 v_ fun a5 => gE LCl.no l_ <| gE LCl.no mm_ <| gN LCl.no 114 n_ { α := Bool ⊕ (Unit), o := f78.l4 k k xs3 xs4 a5, w := f78.l4.w }
def f78.step {R : Type} (k : Nat) (ret : Bool → Option R) (xs1 : List S104) (xs2 : List S104) : Option R :=
  if (decide ((((List.length xs1) : Nat) : Int) ≠ (((List.length xs2) : Nat) : Int))) = true then
    ret false
  else
    (f78.l4 k k xs1 xs2 (0 : Int)).bind (Sum.elim (fun t7 => ret t7) (fun t8 => ret true))
def f78 (k : Nat) (xs1 : List S104) (xs2 : List S104) : Option Bool := f78.step k some xs1 xs2
def f78.w {R : Type} : Bool → (Res env → Option R) → Option R := fun t11 K => K ⟨.v (.c (.s (.bool t11))), [[], []]⟩
theorem f78.wn (x : Bool) : ∃ res, ∀ {R : Type} (K : Res env → Option R), f78.w x K = K res := by
  exact ⟨_, fun _ => rfl⟩
def f78.hd (k : Nat) (ps_ : List (P2 env)) : Cl env :=
  gC Cl.no ps_ fun p_ ps_ => qC Cl.no p_ fun c_ => qSl Cl.no 104 c_ fun xs1 => gC Cl.no ps_ fun p_ ps_ => qC Cl.no p_ fun c_ => qSl Cl.no 104 c_ fun xs2 => gE Cl.no ps_ <| { α := Bool, o := f78 k xs1 xs2, w := f78.w, nat := fun x _ => f78.wn x }
def f78.e (k : Nat) : Entry env := ⟨fun ps => f78.hd k (coer [[.rd 104], [.rd 104]] ps), []⟩
def f78.X (k : Nat) : Ctx env := { C := lookE [(141, f141.e k)], L := lookE [(4, fun S => f78.l4.hd k S.ts S.m S.n)], J := lookE [], keep := lookD [(4, [0, 1, 5])], keepX := lookD [(4, [4])], span := lookN [(4, 288)], eff := fun n => memN n [], prep := lookP [], np := 0 }
theorem f78.l4.nat {R : Type} (k : Nat) (rec_ : (List S104) → (List S104) → Int → Option (Bool ⊕ (Unit))) (g : (Bool ⊕ (Unit)) → Option R) (xs3 : List S104) (xs4 : List S104) (a5 : Int) : (f78.l4.step k rec_ some xs3 xs4 a5).bind g = f78.l4.step k (fun xs3 xs4 a5 => (rec_ xs3 xs4 a5).bind g) g xs3 xs4 a5 := by
  simp only [f78.l4.step, bind_ite, bind_sum, Option.bind_assoc, Option.bind_some, Option.bind_none]
theorem f78.l4.good (k : Nat) (xs3 : List S104) (xs4 : List S104) (a5 : Int) : GoodL (f78.X k) (nthC 0 (loopsOf (bodyOf Try.f78))) (f78.l4.st xs3 xs4 a5) { α := (Bool ⊕ (Unit)), o := f78.l4 k k xs3 xs4 a5, w := f78.l4.w } :=
  loop_good (ι := (List S104) × (List S104) × Int) (α := (Bool ⊕ (Unit))) (fun i => f78.l4.st i.1 i.2.1 i.2.2) (fun j i => f78.l4 k j i.1 i.2.1 i.2.2) f78.l4.w (fun rec_ ret i => f78.l4.step k (fun xs3 xs4 a5 => rec_ (xs3, xs4, a5)) ret i.1 i.2.1 i.2.2)
    (fun _ => rfl) (fun _ _ => rfl) (fun rec_ g i => f78.l4.nat k _ g i.1 i.2.1 i.2.2) (fun {R} i0 i rec_ K => by kernel_rfl) k (xs3, xs4, a5)
theorem f78.l4.all (k : Nat) (S : St env) : GoodL (f78.X k) (nthC 0 (loopsOf (bodyOf Try.f78))) S (f78.l4.hd k S.ts S.m S.n) := by
  obtain ⟨ts_, m_, n_⟩ := S
  show GoodL _ _ _ (f78.l4.hd k ts_ m_ n_)
  unfold f78.l4.hd
  refine gTs_ok (p := GoodL _ _ _) goodL_no fun _ h => ?_
  subst h
  refine gV_ok (p := GoodL _ _ _) goodL_no fun _ _ h => ?_
  subst h
  refine rImm_ok (p := GoodL _ _ _) goodL_no fun _ h => ?_
  subst h
  refine gV_ok (p := GoodL _ _ _) goodL_no fun _ _ h => ?_
  subst h
  refine rImm_ok (p := GoodL _ _ _) goodL_no fun _ h => ?_
  subst h
  refine gV_ok (p := GoodL _ _ _) goodL_no fun _ _ h => ?_
  subst h
  refine rV_ok (p := GoodL _ _ _) goodL_no fun _ h => ?_
  subst h
  refine vI_ok (p := GoodL _ _ _) goodL_no fun _ h => ?_
  subst h
  refine gE_ok (p := GoodL _ _ _) goodL_no fun h => ?_
  subst h
  refine gE_ok (p := GoodL _ _ _) goodL_no fun h => ?_
  subst h
  refine gN_ok (p := GoodL _ _ _) goodL_no fun h => ?_
  subst h
  exact f78.l4.good k _ _ _
theorem f78.nat {R : Type} (k : Nat) (g : Bool → Option R) (xs1 : List S104) (xs2 : List S104) : f78.step k g xs1 xs2 = (f78 k xs1 xs2).bind g := by
  simp only [f78, f78.step, bind_ite, bind_sum, Option.bind_assoc, Option.bind_some, Option.bind_none]
theorem f78.ev (k : Nat) (xs1 : List S104) (xs2 : List S104) : evF (f78.X k) (bodyOf Try.f78) Try.f78.ntmps Try.f78.results.toList [.v (.c (.sl 104 xs1)), .v (.c (.sl 104 xs2))] = f78.step k (fun x => f78.w x some) xs1 xs2 := by kernel_rfl
theorem f78.hok (k : Nat) : HOK (f78.X k) (bodyOf Try.f78) where
  l := allP_mem (by exact ⟨ls_of (h0 := fun S => f78.l4.hd k S.ts S.m S.n) (by kernel_rfl) (f78.l4.all k), trivial⟩)
  j := allP_mem (by exact trivial)
theorem f78.sound0 (k : Nat) : SoundC env Try.prog 78 (f78.hd k) := by
  intro ps_
  show GoodC _ _ _ ps_ (f78.hd k ps_)
  unfold f78.hd
  refine gC_ok (p := GoodC env Try.prog 78 _) goodC_no fun _ _ h => ?_
  subst h
  refine qC_ok (p := GoodC env Try.prog 78 _) goodC_no fun _ h => ?_
  subst h
  refine qSl_ok (p := GoodC env Try.prog 78 _) goodC_no fun _ h => ?_
  subst h
  refine gC_ok (p := GoodC env Try.prog 78 _) goodC_no fun _ _ h => ?_
  subst h
  refine qC_ok (p := GoodC env Try.prog 78 _) goodC_no fun _ h => ?_
  subst h
  refine qSl_ok (p := GoodC env Try.prog 78 _) goodC_no fun _ h => ?_
  subst h
  refine gE_ok (p := GoodC env Try.prog 78 _) goodC_no fun h => ?_
  subst h
  exact fun_good (fun_sound envOK (cs_sound _ (by exact ⟨⟨f141.sound k, f141.fnok⟩, trivial⟩)) (f78.hok k) Try.func78 rfl) ((f78.ev k _ _).trans (f78.nat k _ _ _))
theorem f78.sound (k : Nat) : SoundC env Try.prog 78 (f78.e k).F := soundC_coer (f78.sound0 k) [[.rd 104], [.rd 104]]
theorem f78.says (k : Nat) (xs1 : List S104) (xs2 : List S104) (t12 : Bool) (h_ : f78 k xs1 xs2 = some t12) : SoundAt env Try.prog 78 [.v (.c (.sl 104 xs1)), .v (.c (.sl 104 xs2))] ⟨.v (.c (.s (.bool t12))), [[], []]⟩ :=
  fun_sound envOK (cs_sound _ (by exact ⟨⟨f141.sound k, f141.fnok⟩, trivial⟩)) (f78.hok k) Try.func78 rfl _ _ (((f78.ev k xs1 xs2).trans (f78.nat k _ xs1 xs2)).trans (by rw [h_]; rfl))
theorem f78.fnok : FnOK Try.prog 78 := fn_ok Try.func78 (by kernel_rfl) rfl
def f122.l4.step {R : Type} (k : Nat) (rec_ : Int → ByteArray → Option R) (ret : ByteArray → Option R) (a2 : Int) (s3 : ByteArray) : Option R :=
  if (decide (a2 > (0 : Int))) = true then
    if ByteArray.size (strOf ([(IntKind.u8.wrap (IntKind.i64.wrap ((48 : Int) + (Int.tmod a2 (10 : Int)))))] : List Int)) + ByteArray.size s3 ≤ maxN then
      rec_ (IntKind.i64.wrap (Int.tdiv a2 (10 : Int))) ((strOf ([(IntKind.u8.wrap (IntKind.i64.wrap ((48 : Int) + (Int.tmod a2 (10 : Int)))))] : List Int)) ++ s3)
    else none
  else
    ret s3
def f122.l4 (k : Nat) : Nat → Int → ByteArray → Option ByteArray
  | 0, _, _ => none
  | j + 1, a2, s3 => f122.l4.step k (fun a2 s3 => f122.l4 k j a2 s3) some a2 s3
def f122.l4.w {R : Type} : ByteArray → (Exit → St env → Option R) → Option R := fun t5 K => K (.exit 0) ⟨fullT [3] 0 20 [.v (.c (.s (.string t5)))], [], 289⟩
def f122.l4.st (a2 : Int) (s3 : ByteArray) : St env := ⟨fullT [0, 3] 0 20 [.v (.c (.s (.int .i64 a2))), .v (.c (.s (.string s3)))], [], 65⟩
def f122.l4.hd (k : Nat) (ts_ : List (AV env)) (mm_ : Mem env) (n_ : Nat) : LCl env :=
  gTs LCl.no [0, 3] 20 ts_ fun l_ => gV LCl.no l_ fun a_ l_ => rV LCl.no a_ fun v_ => vI LCl.no .i64 v_ fun a2 => gV LCl.no l_ fun a_ l_ => rV LCl.no a_ fun v_ => vS LCl.no v_ fun s3 => gE LCl.no l_ <| gE LCl.no mm_ <| gN LCl.no 65 n_ { α := ByteArray, o := f122.l4 k k a2 s3, w := f122.l4.w }
def f122.step {R : Type} (k : Nat) (ret : ByteArray → Option R) (a1 : Int) : Option R :=
  if (decide (a1 ≤ (0 : Int))) = true then
    ret (⟨#[109, 48]⟩ : ByteArray)
  else
    (f122.l4 k k a1 (⟨#[]⟩ : ByteArray)).bind fun t4 => if ByteArray.size (⟨#[109]⟩ : ByteArray) + ByteArray.size t4 ≤ maxN then
        ret ((⟨#[109]⟩ : ByteArray) ++ t4)
      else none
def f122 (k : Nat) (a1 : Int) : Option ByteArray := f122.step k some a1
def f122.w {R : Type} : ByteArray → (Res env → Option R) → Option R := fun t6 K => K ⟨.v (.c (.s (.string t6))), [[]]⟩
theorem f122.wn (x : ByteArray) : ∃ res, ∀ {R : Type} (K : Res env → Option R), f122.w x K = K res := by
  exact ⟨_, fun _ => rfl⟩
def f122.hd (k : Nat) (ps_ : List (P2 env)) : Cl env :=
  gC Cl.no ps_ fun p_ ps_ => qC Cl.no p_ fun c_ => qS Cl.no c_ fun v_ => vI Cl.no .i64 v_ fun a1 => gE Cl.no ps_ <| { α := ByteArray, o := f122 k a1, w := f122.w, nat := fun x _ => f122.wn x }
def f122.e (k : Nat) : Entry env := ⟨f122.hd k, []⟩
def f122.X (k : Nat) : Ctx env := { C := lookE [], L := lookE [(4, fun S => f122.l4.hd k S.ts S.m S.n)], J := lookE [], keep := lookD [(4, [0, 3])], keepX := lookD [(4, [3])], span := lookN [(4, 224)], eff := fun n => memN n [], prep := lookP [], np := 0 }
theorem f122.l4.nat {R : Type} (k : Nat) (rec_ : Int → ByteArray → Option ByteArray) (g : ByteArray → Option R) (a2 : Int) (s3 : ByteArray) : (f122.l4.step k rec_ some a2 s3).bind g = f122.l4.step k (fun a2 s3 => (rec_ a2 s3).bind g) g a2 s3 := by
  simp only [f122.l4.step, bind_ite, bind_sum, Option.bind_assoc, Option.bind_some, Option.bind_none]
theorem f122.l4.good (k : Nat) (a2 : Int) (s3 : ByteArray) : GoodL (f122.X k) (nthC 0 (loopsOf (bodyOf Try.f122))) (f122.l4.st a2 s3) { α := ByteArray, o := f122.l4 k k a2 s3, w := f122.l4.w } :=
  loop_good (ι := Int × ByteArray) (α := ByteArray) (fun i => f122.l4.st i.1 i.2) (fun j i => f122.l4 k j i.1 i.2) f122.l4.w (fun rec_ ret i => f122.l4.step k (fun a2 s3 => rec_ (a2, s3)) ret i.1 i.2)
    (fun _ => rfl) (fun _ _ => rfl) (fun rec_ g i => f122.l4.nat k _ g i.1 i.2) (fun {R} i0 i rec_ K => by kernel_rfl) k (a2, s3)
theorem f122.l4.all (k : Nat) (S : St env) : GoodL (f122.X k) (nthC 0 (loopsOf (bodyOf Try.f122))) S (f122.l4.hd k S.ts S.m S.n) := by
  obtain ⟨ts_, m_, n_⟩ := S
  show GoodL _ _ _ (f122.l4.hd k ts_ m_ n_)
  unfold f122.l4.hd
  refine gTs_ok (p := GoodL _ _ _) goodL_no fun _ h => ?_
  subst h
  refine gV_ok (p := GoodL _ _ _) goodL_no fun _ _ h => ?_
  subst h
  refine rV_ok (p := GoodL _ _ _) goodL_no fun _ h => ?_
  subst h
  refine vI_ok (p := GoodL _ _ _) goodL_no fun _ h => ?_
  subst h
  refine gV_ok (p := GoodL _ _ _) goodL_no fun _ _ h => ?_
  subst h
  refine rV_ok (p := GoodL _ _ _) goodL_no fun _ h => ?_
  subst h
  refine vS_ok (p := GoodL _ _ _) goodL_no fun _ h => ?_
  subst h
  refine gE_ok (p := GoodL _ _ _) goodL_no fun h => ?_
  subst h
  refine gE_ok (p := GoodL _ _ _) goodL_no fun h => ?_
  subst h
  refine gN_ok (p := GoodL _ _ _) goodL_no fun h => ?_
  subst h
  exact f122.l4.good k _ _
theorem f122.nat {R : Type} (k : Nat) (g : ByteArray → Option R) (a1 : Int) : f122.step k g a1 = (f122 k a1).bind g := by
  simp only [f122, f122.step, bind_ite, bind_sum, Option.bind_assoc, Option.bind_some, Option.bind_none]
theorem f122.ev (k : Nat) (a1 : Int) : evF (f122.X k) (bodyOf Try.f122) Try.f122.ntmps Try.f122.results.toList [.v (.c (.s (.int .i64 a1)))] = f122.step k (fun x => f122.w x some) a1 := by kernel_rfl
theorem f122.hok (k : Nat) : HOK (f122.X k) (bodyOf Try.f122) where
  l := allP_mem (by exact ⟨ls_of (h0 := fun S => f122.l4.hd k S.ts S.m S.n) (by kernel_rfl) (f122.l4.all k), trivial⟩)
  j := allP_mem (by exact trivial)
theorem f122.sound (k : Nat) : SoundC env Try.prog 122 ((f122.e k).F) := by
  intro ps_
  show GoodC _ _ _ ps_ (f122.hd k ps_)
  unfold f122.hd
  refine gC_ok (p := GoodC env Try.prog 122 _) goodC_no fun _ _ h => ?_
  subst h
  refine qC_ok (p := GoodC env Try.prog 122 _) goodC_no fun _ h => ?_
  subst h
  refine qS_ok (p := GoodC env Try.prog 122 _) goodC_no fun _ h => ?_
  subst h
  refine vI_ok (p := GoodC env Try.prog 122 _) goodC_no fun _ h => ?_
  subst h
  refine gE_ok (p := GoodC env Try.prog 122 _) goodC_no fun h => ?_
  subst h
  exact fun_good (fun_sound envOK (cs_sound _ (by exact trivial)) (f122.hok k) Try.func122 rfl) ((f122.ev k _).trans (f122.nat k _ _))
theorem f122.says (k : Nat) (a1 : Int) (t7 : ByteArray) (h_ : f122 k a1 = some t7) : SoundAt env Try.prog 122 [.v (.c (.s (.int .i64 a1)))] ⟨.v (.c (.s (.string t7))), [[]]⟩ :=
  fun_sound envOK (cs_sound _ (by exact trivial)) (f122.hok k) Try.func122 rfl _ _ (((f122.ev k a1).trans (f122.nat k _ a1)).trans (by rw [h_]; rfl))
theorem f122.fnok : FnOK Try.prog 122 := fn_ok Try.func122 (by kernel_rfl) rfl
def f34.l2.step {R : Type} (k : Nat) (rec_ : Int → Int → (List Int) → Option R) (ret : (Int × (List Int)) → Option R) (a3 : Int) (a4 : Int) (xs5 : List Int) : Option R :=
  if (decide (a4 < (((List.length xs5) : Nat) : Int))) = true then
    if (0 : Int) ≤ a4 then
      if a4 < ((List.length xs5 : Nat) : Int) then
        rec_ (IntKind.i64.wrap (a3 + (1 : Int))) (IntKind.i64.wrap (a4 + (1 : Int))) (List.set xs5 (Int.toNat a4) (IntKind.u8.wrap a3))
      else none
    else none
  else
    ret (a3, xs5)
def f34.l2 (k : Nat) : Nat → Int → Int → (List Int) → Option (Int × (List Int))
  | 0, _, _, _ => none
  | j + 1, a3, a4, xs5 => f34.l2.step k (fun a3 a4 xs5 => f34.l2 k j a3 a4 xs5) some a3 a4 xs5
def f34.l2.w {R : Type} : (Int × (List Int)) → (Exit → St env → Option R) → Option R := fun t7 K => K (.exit 0) ⟨fullT [0, 1] 0 20 [.v (.c (.row 2)), .v (.c (.s (.int .i64 t7.1)))], [(2, .row true 5 t7.2)], 418⟩
def f34.l2.st (a3 : Int) (a4 : Int) (xs5 : List Int) : St env := ⟨fullT [0, 1, 5] 0 20 [.v (.c (.row 2)), .v (.c (.s (.int .i64 a3))), .v (.c (.s (.int .i64 a4)))], [(2, .row true 5 xs5)], 162⟩
def f34.l2.hd (k : Nat) (ts_ : List (AV env)) (mm_ : Mem env) (n_ : Nat) : LCl env :=
  gTs LCl.no [0, 1, 5] 20 ts_ fun l_ => gV LCl.no l_ fun a_ l_ => rRow LCl.no 2 a_ <| gV LCl.no l_ fun a_ l_ => rV LCl.no a_ fun v_ => vI LCl.no .i64 v_ fun a3 => gV LCl.no l_ fun a_ l_ => rV LCl.no a_ fun v_ => vI LCl.no .i64 v_ fun a4 => gE LCl.no l_ <| mRow LCl.no 2 true 5 mm_ fun xs5 m_ => gE LCl.no m_ <| gN LCl.no 162 n_ { α := Int × (List Int), o := f34.l2 k k a3 a4 xs5, w := f34.l2.w }
def f34.step {R : Type} (k : Nat) (ret : (Int × (List Int)) → Option R) (xs1 : List Int) (a2 : Int) : Option R :=
  (f34.l2 k k a2 (0 : Int) xs1).bind fun t6 => ret (t6.1, t6.2)
def f34 (k : Nat) (xs1 : List Int) (a2 : Int) : Option (Int × (List Int)) := f34.step k some xs1 a2
def f34.w {R : Type} : (Int × (List Int)) → (Res env → Option R) → Option R := fun t8 K => K ⟨.v (.c (.s (.int .i64 t8.1))), [[.sl 5 t8.2], []]⟩
theorem f34.wn (x : (Int × (List Int))) : ∃ res, ∀ {R : Type} (K : Res env → Option R), f34.w x K = K res := by
  exact ⟨_, fun _ => rfl⟩
def f34.hd (k : Nat) (ps_ : List (P2 env)) : Cl env :=
  gC Cl.no ps_ fun p_ ps_ => qC Cl.no p_ fun c_ => qWr Cl.no 5 c_ fun xs1 => gC Cl.no ps_ fun p_ ps_ => qC Cl.no p_ fun c_ => qS Cl.no c_ fun v_ => vI Cl.no .i64 v_ fun a2 => gE Cl.no ps_ <| { α := Int × (List Int), o := f34 k xs1 a2, w := f34.w, nat := fun x _ => f34.wn x }
def f34.e (k : Nat) : Entry env := ⟨fun ps => f34.hd k (coer [[.wr 5], [.no]] ps), [(0, 0)]⟩
def f34.X (k : Nat) : Ctx env := { C := lookE [], L := lookE [(2, fun S => f34.l2.hd k S.ts S.m S.n)], J := lookE [], keep := lookD [(2, [0, 1, 5])], keepX := lookD [(2, [0, 1])], span := lookN [(2, 256)], eff := fun n => memN n [], prep := lookP [], np := 130 }
theorem f34.l2.nat {R : Type} (k : Nat) (rec_ : Int → Int → (List Int) → Option (Int × (List Int))) (g : (Int × (List Int)) → Option R) (a3 : Int) (a4 : Int) (xs5 : List Int) : (f34.l2.step k rec_ some a3 a4 xs5).bind g = f34.l2.step k (fun a3 a4 xs5 => (rec_ a3 a4 xs5).bind g) g a3 a4 xs5 := by
  simp only [f34.l2.step, bind_ite, bind_sum, Option.bind_assoc, Option.bind_some, Option.bind_none]
theorem f34.l2.good (k : Nat) (a3 : Int) (a4 : Int) (xs5 : List Int) : GoodL (f34.X k) (nthC 0 (loopsOf (bodyOf Try.f34))) (f34.l2.st a3 a4 xs5) { α := (Int × (List Int)), o := f34.l2 k k a3 a4 xs5, w := f34.l2.w } :=
  loop_good (ι := Int × Int × (List Int)) (α := (Int × (List Int))) (fun i => f34.l2.st i.1 i.2.1 i.2.2) (fun j i => f34.l2 k j i.1 i.2.1 i.2.2) f34.l2.w (fun rec_ ret i => f34.l2.step k (fun a3 a4 xs5 => rec_ (a3, a4, xs5)) ret i.1 i.2.1 i.2.2)
    (fun _ => rfl) (fun _ _ => rfl) (fun rec_ g i => f34.l2.nat k _ g i.1 i.2.1 i.2.2) (fun {R} i0 i rec_ K => by kernel_rfl) k (a3, a4, xs5)
theorem f34.l2.all (k : Nat) (S : St env) : GoodL (f34.X k) (nthC 0 (loopsOf (bodyOf Try.f34))) S (f34.l2.hd k S.ts S.m S.n) := by
  obtain ⟨ts_, m_, n_⟩ := S
  show GoodL _ _ _ (f34.l2.hd k ts_ m_ n_)
  unfold f34.l2.hd
  refine gTs_ok (p := GoodL _ _ _) goodL_no fun _ h => ?_
  subst h
  refine gV_ok (p := GoodL _ _ _) goodL_no fun _ _ h => ?_
  subst h
  refine rRow_ok (p := GoodL _ _ _) goodL_no fun h => ?_
  subst h
  refine gV_ok (p := GoodL _ _ _) goodL_no fun _ _ h => ?_
  subst h
  refine rV_ok (p := GoodL _ _ _) goodL_no fun _ h => ?_
  subst h
  refine vI_ok (p := GoodL _ _ _) goodL_no fun _ h => ?_
  subst h
  refine gV_ok (p := GoodL _ _ _) goodL_no fun _ _ h => ?_
  subst h
  refine rV_ok (p := GoodL _ _ _) goodL_no fun _ h => ?_
  subst h
  refine vI_ok (p := GoodL _ _ _) goodL_no fun _ h => ?_
  subst h
  refine gE_ok (p := GoodL _ _ _) goodL_no fun h => ?_
  subst h
  refine mRow_ok (p := GoodL _ _ _) goodL_no fun _ _ h => ?_
  subst h
  refine gE_ok (p := GoodL _ _ _) goodL_no fun h => ?_
  subst h
  refine gN_ok (p := GoodL _ _ _) goodL_no fun h => ?_
  subst h
  exact f34.l2.good k _ _ _
theorem f34.nat {R : Type} (k : Nat) (g : (Int × (List Int)) → Option R) (xs1 : List Int) (a2 : Int) : f34.step k g xs1 a2 = (f34 k xs1 a2).bind g := by
  simp only [f34, f34.step, bind_ite, bind_sum, Option.bind_assoc, Option.bind_some, Option.bind_none]
theorem f34.ev (k : Nat) (xs1 : List Int) (a2 : Int) : evF (f34.X k) (bodyOf Try.f34) Try.f34.ntmps Try.f34.results.toList [.v (.c (.wr 5 xs1)), .v (.c (.s (.int .i64 a2)))] = f34.step k (fun x => f34.w x some) xs1 a2 := by kernel_rfl
theorem f34.hok (k : Nat) : HOK (f34.X k) (bodyOf Try.f34) where
  l := allP_mem (by exact ⟨ls_of (h0 := fun S => f34.l2.hd k S.ts S.m S.n) (by kernel_rfl) (f34.l2.all k), trivial⟩)
  j := allP_mem (by exact trivial)
theorem f34.sound0 (k : Nat) : SoundC env Try.prog 34 (f34.hd k) := by
  intro ps_
  show GoodC _ _ _ ps_ (f34.hd k ps_)
  unfold f34.hd
  refine gC_ok (p := GoodC env Try.prog 34 _) goodC_no fun _ _ h => ?_
  subst h
  refine qC_ok (p := GoodC env Try.prog 34 _) goodC_no fun _ h => ?_
  subst h
  refine qWr_ok (p := GoodC env Try.prog 34 _) goodC_no fun _ h => ?_
  subst h
  refine gC_ok (p := GoodC env Try.prog 34 _) goodC_no fun _ _ h => ?_
  subst h
  refine qC_ok (p := GoodC env Try.prog 34 _) goodC_no fun _ h => ?_
  subst h
  refine qS_ok (p := GoodC env Try.prog 34 _) goodC_no fun _ h => ?_
  subst h
  refine vI_ok (p := GoodC env Try.prog 34 _) goodC_no fun _ h => ?_
  subst h
  refine gE_ok (p := GoodC env Try.prog 34 _) goodC_no fun h => ?_
  subst h
  exact fun_good (fun_sound envOK (cs_sound _ (by exact trivial)) (f34.hok k) Try.func34 rfl) ((f34.ev k _ _).trans (f34.nat k _ _ _))
theorem f34.sound (k : Nat) : SoundC env Try.prog 34 (f34.e k).F := soundC_coer (f34.sound0 k) [[.wr 5], [.no]]
theorem f34.says (k : Nat) (xs1 : List Int) (a2 : Int) (t9 : Int × (List Int)) (h_ : f34 k xs1 a2 = some t9) : SoundAt env Try.prog 34 [.v (.c (.wr 5 xs1)), .v (.c (.s (.int .i64 a2)))] ⟨.v (.c (.s (.int .i64 t9.1))), [[.sl 5 t9.2], []]⟩ :=
  fun_sound envOK (cs_sound _ (by exact trivial)) (f34.hok k) Try.func34 rfl _ _ (((f34.ev k xs1 a2).trans (f34.nat k _ xs1 a2)).trans (by rw [h_]; rfl))
theorem f34.fnok : FnOK Try.prog 34 := fn_ok Try.func34 (by kernel_rfl) rfl
def f142.l2.step {R : Type} (k : Nat) (rec_ : Int → Int → (List S211) → Option R) (ret : (Int × (List S211)) → Option R) (a3 : Int) (a4 : Int) (xs5 : List S211) : Option R :=
  if (decide (a4 < (((List.length xs5) : Nat) : Int))) = true then
    if (0 : Int) ≤ a4 then
      if a4 < ((List.length xs5 : Nat) : Int) then
        if (0 : Int) ≤ a4 then
          if a4 < ((List.length (set211 xs5 (Int.toNat a4) 0 [.s (.int .i64 a3)]) : Nat) : Int) then
            if (0 : Int) ≤ a4 then
              if a4 < ((List.length (set211 (set211 xs5 (Int.toNat a4) 0 [.s (.int .i64 a3)]) (Int.toNat a4) 1 [.s (.bool (decide ((Int.tmod (IntKind.i64.wrap (a3 + (1 : Int))) (3 : Int)) = (0 : Int))))]) : Nat) : Int) then
                (f34 k (List.getD (set211 (set211 xs5 (Int.toNat a4) 0 [.s (.int .i64 a3)]) (Int.toNat a4) 1 [.s (.bool (decide ((Int.tmod (IntKind.i64.wrap (a3 + (1 : Int))) (3 : Int)) = (0 : Int))))]) (Int.toNat a4) (⟨(0 : Int), false, []⟩ : S211)).f2 (IntKind.i64.wrap ((IntKind.i64.wrap (a3 + (1 : Int))) + (1 : Int)))).bind fun t6 => rec_ t6.1 (IntKind.i64.wrap (a4 + (1 : Int))) (set211 (set211 (set211 xs5 (Int.toNat a4) 0 [.s (.int .i64 a3)]) (Int.toNat a4) 1 [.s (.bool (decide ((Int.tmod (IntKind.i64.wrap (a3 + (1 : Int))) (3 : Int)) = (0 : Int))))]) (Int.toNat a4) 2 [.sl 5 t6.2])
              else none
            else none
          else none
        else none
      else none
    else none
  else
    ret (a3, xs5)
def f142.l2 (k : Nat) : Nat → Int → Int → (List S211) → Option (Int × (List S211))
  | 0, _, _, _ => none
  | j + 1, a3, a4, xs5 => f142.l2.step k (fun a3 a4 xs5 => f142.l2 k j a3 a4 xs5) some a3 a4 xs5
def f142.l2.w {R : Type} : (Int × (List S211)) → (Exit → St env → Option R) → Option R := fun t8 K => K (.exit 0) ⟨fullT [0, 1] 0 36 [.v (.c (.row 2)), .v (.c (.s (.int .i64 t8.1)))], [(2, .row true 211 t8.2)], 722⟩
def f142.l2.st (a3 : Int) (a4 : Int) (xs5 : List S211) : St env := ⟨fullT [0, 1, 5] 0 36 [.v (.c (.row 2)), .v (.c (.s (.int .i64 a3))), .v (.c (.s (.int .i64 a4)))], [(2, .row true 211 xs5)], 162⟩
def f142.l2.hd (k : Nat) (ts_ : List (AV env)) (mm_ : Mem env) (n_ : Nat) : LCl env :=
  gTs LCl.no [0, 1, 5] 36 ts_ fun l_ => gV LCl.no l_ fun a_ l_ => rRow LCl.no 2 a_ <| gV LCl.no l_ fun a_ l_ => rV LCl.no a_ fun v_ => vI LCl.no .i64 v_ fun a3 => gV LCl.no l_ fun a_ l_ => rV LCl.no a_ fun v_ => vI LCl.no .i64 v_ fun a4 => gE LCl.no l_ <| mRow LCl.no 2 true 211 mm_ fun xs5 m_ => gE LCl.no m_ <| gN LCl.no 162 n_ { α := Int × (List S211), o := f142.l2 k k a3 a4 xs5, w := f142.l2.w }
def f142.step {R : Type} (k : Nat) (ret : (Int × (List S211)) → Option R) (xs1 : List S211) (a2 : Int) : Option R :=
  (f142.l2 k k a2 (0 : Int) xs1).bind fun t7 => ret (t7.1, t7.2)
def f142 (k : Nat) (xs1 : List S211) (a2 : Int) : Option (Int × (List S211)) := f142.step k some xs1 a2
def f142.w {R : Type} : (Int × (List S211)) → (Res env → Option R) → Option R := fun t9 K => K ⟨.v (.c (.s (.int .i64 t9.1))), [[.sl 211 t9.2], []]⟩
theorem f142.wn (x : (Int × (List S211))) : ∃ res, ∀ {R : Type} (K : Res env → Option R), f142.w x K = K res := by
  exact ⟨_, fun _ => rfl⟩
def f142.hd (k : Nat) (ps_ : List (P2 env)) : Cl env :=
  gC Cl.no ps_ fun p_ ps_ => qC Cl.no p_ fun c_ => qWr Cl.no 211 c_ fun xs1 => gC Cl.no ps_ fun p_ ps_ => qC Cl.no p_ fun c_ => qS Cl.no c_ fun v_ => vI Cl.no .i64 v_ fun a2 => gE Cl.no ps_ <| { α := Int × (List S211), o := f142 k xs1 a2, w := f142.w, nat := fun x _ => f142.wn x }
def f142.e (k : Nat) : Entry env := ⟨fun ps => f142.hd k (coer [[.wr 211], [.no]] ps), [(0, 0)]⟩
def f142.X (k : Nat) : Ctx env := { C := lookE [(34, f34.e k)], L := lookE [(2, fun S => f142.l2.hd k S.ts S.m S.n)], J := lookE [], keep := lookD [(2, [0, 1, 5])], keepX := lookD [(2, [0, 1])], span := lookN [(2, 560)], eff := fun n => memN n [], prep := lookP [], np := 130 }
theorem f142.l2.nat {R : Type} (k : Nat) (rec_ : Int → Int → (List S211) → Option (Int × (List S211))) (g : (Int × (List S211)) → Option R) (a3 : Int) (a4 : Int) (xs5 : List S211) : (f142.l2.step k rec_ some a3 a4 xs5).bind g = f142.l2.step k (fun a3 a4 xs5 => (rec_ a3 a4 xs5).bind g) g a3 a4 xs5 := by
  simp only [f142.l2.step, bind_ite, bind_sum, Option.bind_assoc, Option.bind_some, Option.bind_none]
theorem f142.l2.good (k : Nat) (a3 : Int) (a4 : Int) (xs5 : List S211) : GoodL (f142.X k) (nthC 0 (loopsOf (bodyOf Try.f142))) (f142.l2.st a3 a4 xs5) { α := (Int × (List S211)), o := f142.l2 k k a3 a4 xs5, w := f142.l2.w } :=
  loop_good (ι := Int × Int × (List S211)) (α := (Int × (List S211))) (fun i => f142.l2.st i.1 i.2.1 i.2.2) (fun j i => f142.l2 k j i.1 i.2.1 i.2.2) f142.l2.w (fun rec_ ret i => f142.l2.step k (fun a3 a4 xs5 => rec_ (a3, a4, xs5)) ret i.1 i.2.1 i.2.2)
    (fun _ => rfl) (fun _ _ => rfl) (fun rec_ g i => f142.l2.nat k _ g i.1 i.2.1 i.2.2) (fun {R} i0 i rec_ K => by kernel_rfl) k (a3, a4, xs5)
theorem f142.l2.all (k : Nat) (S : St env) : GoodL (f142.X k) (nthC 0 (loopsOf (bodyOf Try.f142))) S (f142.l2.hd k S.ts S.m S.n) := by
  obtain ⟨ts_, m_, n_⟩ := S
  show GoodL _ _ _ (f142.l2.hd k ts_ m_ n_)
  unfold f142.l2.hd
  refine gTs_ok (p := GoodL _ _ _) goodL_no fun _ h => ?_
  subst h
  refine gV_ok (p := GoodL _ _ _) goodL_no fun _ _ h => ?_
  subst h
  refine rRow_ok (p := GoodL _ _ _) goodL_no fun h => ?_
  subst h
  refine gV_ok (p := GoodL _ _ _) goodL_no fun _ _ h => ?_
  subst h
  refine rV_ok (p := GoodL _ _ _) goodL_no fun _ h => ?_
  subst h
  refine vI_ok (p := GoodL _ _ _) goodL_no fun _ h => ?_
  subst h
  refine gV_ok (p := GoodL _ _ _) goodL_no fun _ _ h => ?_
  subst h
  refine rV_ok (p := GoodL _ _ _) goodL_no fun _ h => ?_
  subst h
  refine vI_ok (p := GoodL _ _ _) goodL_no fun _ h => ?_
  subst h
  refine gE_ok (p := GoodL _ _ _) goodL_no fun h => ?_
  subst h
  refine mRow_ok (p := GoodL _ _ _) goodL_no fun _ _ h => ?_
  subst h
  refine gE_ok (p := GoodL _ _ _) goodL_no fun h => ?_
  subst h
  refine gN_ok (p := GoodL _ _ _) goodL_no fun h => ?_
  subst h
  exact f142.l2.good k _ _ _
theorem f142.nat {R : Type} (k : Nat) (g : (Int × (List S211)) → Option R) (xs1 : List S211) (a2 : Int) : f142.step k g xs1 a2 = (f142 k xs1 a2).bind g := by
  simp only [f142, f142.step, bind_ite, bind_sum, Option.bind_assoc, Option.bind_some, Option.bind_none]
theorem f142.ev (k : Nat) (xs1 : List S211) (a2 : Int) : evF (f142.X k) (bodyOf Try.f142) Try.f142.ntmps Try.f142.results.toList [.v (.c (.wr 211 xs1)), .v (.c (.s (.int .i64 a2)))] = f142.step k (fun x => f142.w x some) xs1 a2 := by kernel_rfl
theorem f142.hok (k : Nat) : HOK (f142.X k) (bodyOf Try.f142) where
  l := allP_mem (by exact ⟨ls_of (h0 := fun S => f142.l2.hd k S.ts S.m S.n) (by kernel_rfl) (f142.l2.all k), trivial⟩)
  j := allP_mem (by exact trivial)
theorem f142.sound0 (k : Nat) : SoundC env Try.prog 142 (f142.hd k) := by
  intro ps_
  show GoodC _ _ _ ps_ (f142.hd k ps_)
  unfold f142.hd
  refine gC_ok (p := GoodC env Try.prog 142 _) goodC_no fun _ _ h => ?_
  subst h
  refine qC_ok (p := GoodC env Try.prog 142 _) goodC_no fun _ h => ?_
  subst h
  refine qWr_ok (p := GoodC env Try.prog 142 _) goodC_no fun _ h => ?_
  subst h
  refine gC_ok (p := GoodC env Try.prog 142 _) goodC_no fun _ _ h => ?_
  subst h
  refine qC_ok (p := GoodC env Try.prog 142 _) goodC_no fun _ h => ?_
  subst h
  refine qS_ok (p := GoodC env Try.prog 142 _) goodC_no fun _ h => ?_
  subst h
  refine vI_ok (p := GoodC env Try.prog 142 _) goodC_no fun _ h => ?_
  subst h
  refine gE_ok (p := GoodC env Try.prog 142 _) goodC_no fun h => ?_
  subst h
  exact fun_good (fun_sound envOK (cs_sound _ (by exact ⟨⟨f34.sound k, f34.fnok⟩, trivial⟩)) (f142.hok k) Try.func142 rfl) ((f142.ev k _ _).trans (f142.nat k _ _ _))
theorem f142.sound (k : Nat) : SoundC env Try.prog 142 (f142.e k).F := soundC_coer (f142.sound0 k) [[.wr 211], [.no]]
theorem f142.says (k : Nat) (xs1 : List S211) (a2 : Int) (t10 : Int × (List S211)) (h_ : f142 k xs1 a2 = some t10) : SoundAt env Try.prog 142 [.v (.c (.wr 211 xs1)), .v (.c (.s (.int .i64 a2)))] ⟨.v (.c (.s (.int .i64 t10.1))), [[.sl 211 t10.2], []]⟩ :=
  fun_sound envOK (cs_sound _ (by exact ⟨⟨f34.sound k, f34.fnok⟩, trivial⟩)) (f142.hok k) Try.func142 rfl _ _ (((f142.ev k xs1 a2).trans (f142.nat k _ xs1 a2)).trans (by rw [h_]; rfl))
theorem f142.fnok : FnOK Try.prog 142 := fn_ok Try.func142 (by kernel_rfl) rfl
def f79.l2.step {R : Type} (k : Nat) (rec_ : Int → Int → (List S104) → Option R) (ret : (Int × (List S104)) → Option R) (a3 : Int) (a4 : Int) (xs5 : List S104) : Option R :=
  if (decide (a4 < (((List.length xs5) : Nat) : Int))) = true then
    (f122 k a3).bind fun t6 => if (0 : Int) ≤ a4 then
        if a4 < ((List.length xs5 : Nat) : Int) then
          (f122 k (IntKind.i64.wrap (a3 + (1 : Int)))).bind fun t7 => if (0 : Int) ≤ a4 then
              if a4 < ((List.length (set104 xs5 (Int.toNat a4) 0 [.s (.string t6)]) : Nat) : Int) then
                if (0 : Int) ≤ a4 then
                  if a4 < ((List.length (set104 (set104 xs5 (Int.toNat a4) 0 [.s (.string t6)]) (Int.toNat a4) 1 [.s (.string t7)]) : Nat) : Int) then
                    if (0 : Int) ≤ a4 then
                      if a4 < ((List.length (set104 (set104 (set104 xs5 (Int.toNat a4) 0 [.s (.string t6)]) (Int.toNat a4) 1 [.s (.string t7)]) (Int.toNat a4) 2 [.s (.int .i64 (IntKind.i64.wrap ((IntKind.i64.wrap (a3 + (1 : Int))) + (1 : Int))))]) : Nat) : Int) then
                        if (0 : Int) ≤ a4 then
                          if a4 < ((List.length (set104 (set104 (set104 (set104 xs5 (Int.toNat a4) 0 [.s (.string t6)]) (Int.toNat a4) 1 [.s (.string t7)]) (Int.toNat a4) 2 [.s (.int .i64 (IntKind.i64.wrap ((IntKind.i64.wrap (a3 + (1 : Int))) + (1 : Int))))]) (Int.toNat a4) 3 [.s (.int .i64 (IntKind.i64.wrap ((IntKind.i64.wrap ((IntKind.i64.wrap (a3 + (1 : Int))) + (1 : Int))) + (1 : Int))))]) : Nat) : Int) then
                            if (0 : Int) ≤ a4 then
                              if a4 < ((List.length (set104 (set104 (set104 (set104 (set104 xs5 (Int.toNat a4) 0 [.s (.string t6)]) (Int.toNat a4) 1 [.s (.string t7)]) (Int.toNat a4) 2 [.s (.int .i64 (IntKind.i64.wrap ((IntKind.i64.wrap (a3 + (1 : Int))) + (1 : Int))))]) (Int.toNat a4) 3 [.s (.int .i64 (IntKind.i64.wrap ((IntKind.i64.wrap ((IntKind.i64.wrap (a3 + (1 : Int))) + (1 : Int))) + (1 : Int))))]) (Int.toNat a4) 4 [.s (.int .i64 (IntKind.i64.wrap ((IntKind.i64.wrap ((IntKind.i64.wrap ((IntKind.i64.wrap (a3 + (1 : Int))) + (1 : Int))) + (1 : Int))) + (1 : Int))))]) : Nat) : Int) then
                                (f142 k (List.getD (set104 (set104 (set104 (set104 (set104 xs5 (Int.toNat a4) 0 [.s (.string t6)]) (Int.toNat a4) 1 [.s (.string t7)]) (Int.toNat a4) 2 [.s (.int .i64 (IntKind.i64.wrap ((IntKind.i64.wrap (a3 + (1 : Int))) + (1 : Int))))]) (Int.toNat a4) 3 [.s (.int .i64 (IntKind.i64.wrap ((IntKind.i64.wrap ((IntKind.i64.wrap (a3 + (1 : Int))) + (1 : Int))) + (1 : Int))))]) (Int.toNat a4) 4 [.s (.int .i64 (IntKind.i64.wrap ((IntKind.i64.wrap ((IntKind.i64.wrap ((IntKind.i64.wrap (a3 + (1 : Int))) + (1 : Int))) + (1 : Int))) + (1 : Int))))]) (Int.toNat a4) (⟨ByteArray.empty, ByteArray.empty, (0 : Int), (0 : Int), (0 : Int), []⟩ : S104)).f5 (IntKind.i64.wrap ((IntKind.i64.wrap ((IntKind.i64.wrap ((IntKind.i64.wrap ((IntKind.i64.wrap (a3 + (1 : Int))) + (1 : Int))) + (1 : Int))) + (1 : Int))) + (1 : Int)))).bind fun t8 => rec_ t8.1 (IntKind.i64.wrap (a4 + (1 : Int))) (set104 (set104 (set104 (set104 (set104 (set104 xs5 (Int.toNat a4) 0 [.s (.string t6)]) (Int.toNat a4) 1 [.s (.string t7)]) (Int.toNat a4) 2 [.s (.int .i64 (IntKind.i64.wrap ((IntKind.i64.wrap (a3 + (1 : Int))) + (1 : Int))))]) (Int.toNat a4) 3 [.s (.int .i64 (IntKind.i64.wrap ((IntKind.i64.wrap ((IntKind.i64.wrap (a3 + (1 : Int))) + (1 : Int))) + (1 : Int))))]) (Int.toNat a4) 4 [.s (.int .i64 (IntKind.i64.wrap ((IntKind.i64.wrap ((IntKind.i64.wrap ((IntKind.i64.wrap (a3 + (1 : Int))) + (1 : Int))) + (1 : Int))) + (1 : Int))))]) (Int.toNat a4) 5 [.sl 211 t8.2])
                              else none
                            else none
                          else none
                        else none
                      else none
                    else none
                  else none
                else none
              else none
            else none
        else none
      else none
  else
    ret (a3, xs5)
def f79.l2 (k : Nat) : Nat → Int → Int → (List S104) → Option (Int × (List S104))
  | 0, _, _, _ => none
  | j + 1, a3, a4, xs5 => f79.l2.step k (fun a3 a4 xs5 => f79.l2 k j a3 a4 xs5) some a3 a4 xs5
def f79.l2.w {R : Type} : (Int × (List S104)) → (Exit → St env → Option R) → Option R := fun t10 K => K (.exit 0) ⟨fullT [0, 1] 0 57 [.v (.c (.row 2)), .v (.c (.s (.int .i64 t10.1)))], [(2, .row true 104 t10.2)], 1154⟩
def f79.l2.st (a3 : Int) (a4 : Int) (xs5 : List S104) : St env := ⟨fullT [0, 1, 5] 0 57 [.v (.c (.row 2)), .v (.c (.s (.int .i64 a3))), .v (.c (.s (.int .i64 a4)))], [(2, .row true 104 xs5)], 162⟩
def f79.l2.hd (k : Nat) (ts_ : List (AV env)) (mm_ : Mem env) (n_ : Nat) : LCl env :=
  gTs LCl.no [0, 1, 5] 57 ts_ fun l_ => gV LCl.no l_ fun a_ l_ => rRow LCl.no 2 a_ <| gV LCl.no l_ fun a_ l_ => rV LCl.no a_ fun v_ => vI LCl.no .i64 v_ fun a3 => gV LCl.no l_ fun a_ l_ => rV LCl.no a_ fun v_ => vI LCl.no .i64 v_ fun a4 => gE LCl.no l_ <| mRow LCl.no 2 true 104 mm_ fun xs5 m_ => gE LCl.no m_ <| gN LCl.no 162 n_ { α := Int × (List S104), o := f79.l2 k k a3 a4 xs5, w := f79.l2.w }
def f79.step {R : Type} (k : Nat) (ret : (Int × (List S104)) → Option R) (xs1 : List S104) (a2 : Int) : Option R :=
  (f79.l2 k k a2 (0 : Int) xs1).bind fun t9 => ret (t9.1, t9.2)
def f79 (k : Nat) (xs1 : List S104) (a2 : Int) : Option (Int × (List S104)) := f79.step k some xs1 a2
def f79.w {R : Type} : (Int × (List S104)) → (Res env → Option R) → Option R := fun t11 K => K ⟨.v (.c (.s (.int .i64 t11.1))), [[.sl 104 t11.2], []]⟩
theorem f79.wn (x : (Int × (List S104))) : ∃ res, ∀ {R : Type} (K : Res env → Option R), f79.w x K = K res := by
  exact ⟨_, fun _ => rfl⟩
def f79.hd (k : Nat) (ps_ : List (P2 env)) : Cl env :=
  gC Cl.no ps_ fun p_ ps_ => qC Cl.no p_ fun c_ => qWr Cl.no 104 c_ fun xs1 => gC Cl.no ps_ fun p_ ps_ => qC Cl.no p_ fun c_ => qS Cl.no c_ fun v_ => vI Cl.no .i64 v_ fun a2 => gE Cl.no ps_ <| { α := Int × (List S104), o := f79 k xs1 a2, w := f79.w, nat := fun x _ => f79.wn x }
def f79.e (k : Nat) : Entry env := ⟨fun ps => f79.hd k (coer [[.wr 104], [.no]] ps), [(0, 0)]⟩
def f79.X (k : Nat) : Ctx env := { C := lookE [(122, f122.e k), (142, f142.e k)], L := lookE [(2, fun S => f79.l2.hd k S.ts S.m S.n)], J := lookE [], keep := lookD [(2, [0, 1, 5])], keepX := lookD [(2, [0, 1])], span := lookN [(2, 992)], eff := fun n => memN n [], prep := lookP [], np := 130 }
theorem f79.l2.nat {R : Type} (k : Nat) (rec_ : Int → Int → (List S104) → Option (Int × (List S104))) (g : (Int × (List S104)) → Option R) (a3 : Int) (a4 : Int) (xs5 : List S104) : (f79.l2.step k rec_ some a3 a4 xs5).bind g = f79.l2.step k (fun a3 a4 xs5 => (rec_ a3 a4 xs5).bind g) g a3 a4 xs5 := by
  simp only [f79.l2.step, bind_ite, bind_sum, Option.bind_assoc, Option.bind_some, Option.bind_none]
theorem f79.l2.good (k : Nat) (a3 : Int) (a4 : Int) (xs5 : List S104) : GoodL (f79.X k) (nthC 0 (loopsOf (bodyOf Try.f79))) (f79.l2.st a3 a4 xs5) { α := (Int × (List S104)), o := f79.l2 k k a3 a4 xs5, w := f79.l2.w } :=
  loop_good (ι := Int × Int × (List S104)) (α := (Int × (List S104))) (fun i => f79.l2.st i.1 i.2.1 i.2.2) (fun j i => f79.l2 k j i.1 i.2.1 i.2.2) f79.l2.w (fun rec_ ret i => f79.l2.step k (fun a3 a4 xs5 => rec_ (a3, a4, xs5)) ret i.1 i.2.1 i.2.2)
    (fun _ => rfl) (fun _ _ => rfl) (fun rec_ g i => f79.l2.nat k _ g i.1 i.2.1 i.2.2) (fun {R} i0 i rec_ K => by kernel_rfl) k (a3, a4, xs5)
theorem f79.l2.all (k : Nat) (S : St env) : GoodL (f79.X k) (nthC 0 (loopsOf (bodyOf Try.f79))) S (f79.l2.hd k S.ts S.m S.n) := by
  obtain ⟨ts_, m_, n_⟩ := S
  show GoodL _ _ _ (f79.l2.hd k ts_ m_ n_)
  unfold f79.l2.hd
  refine gTs_ok (p := GoodL _ _ _) goodL_no fun _ h => ?_
  subst h
  refine gV_ok (p := GoodL _ _ _) goodL_no fun _ _ h => ?_
  subst h
  refine rRow_ok (p := GoodL _ _ _) goodL_no fun h => ?_
  subst h
  refine gV_ok (p := GoodL _ _ _) goodL_no fun _ _ h => ?_
  subst h
  refine rV_ok (p := GoodL _ _ _) goodL_no fun _ h => ?_
  subst h
  refine vI_ok (p := GoodL _ _ _) goodL_no fun _ h => ?_
  subst h
  refine gV_ok (p := GoodL _ _ _) goodL_no fun _ _ h => ?_
  subst h
  refine rV_ok (p := GoodL _ _ _) goodL_no fun _ h => ?_
  subst h
  refine vI_ok (p := GoodL _ _ _) goodL_no fun _ h => ?_
  subst h
  refine gE_ok (p := GoodL _ _ _) goodL_no fun h => ?_
  subst h
  refine mRow_ok (p := GoodL _ _ _) goodL_no fun _ _ h => ?_
  subst h
  refine gE_ok (p := GoodL _ _ _) goodL_no fun h => ?_
  subst h
  refine gN_ok (p := GoodL _ _ _) goodL_no fun h => ?_
  subst h
  exact f79.l2.good k _ _ _
theorem f79.nat {R : Type} (k : Nat) (g : (Int × (List S104)) → Option R) (xs1 : List S104) (a2 : Int) : f79.step k g xs1 a2 = (f79 k xs1 a2).bind g := by
  simp only [f79, f79.step, bind_ite, bind_sum, Option.bind_assoc, Option.bind_some, Option.bind_none]
theorem f79.ev (k : Nat) (xs1 : List S104) (a2 : Int) : evF (f79.X k) (bodyOf Try.f79) Try.f79.ntmps Try.f79.results.toList [.v (.c (.wr 104 xs1)), .v (.c (.s (.int .i64 a2)))] = f79.step k (fun x => f79.w x some) xs1 a2 := by kernel_rfl
theorem f79.hok (k : Nat) : HOK (f79.X k) (bodyOf Try.f79) where
  l := allP_mem (by exact ⟨ls_of (h0 := fun S => f79.l2.hd k S.ts S.m S.n) (by kernel_rfl) (f79.l2.all k), trivial⟩)
  j := allP_mem (by exact trivial)
theorem f79.sound0 (k : Nat) : SoundC env Try.prog 79 (f79.hd k) := by
  intro ps_
  show GoodC _ _ _ ps_ (f79.hd k ps_)
  unfold f79.hd
  refine gC_ok (p := GoodC env Try.prog 79 _) goodC_no fun _ _ h => ?_
  subst h
  refine qC_ok (p := GoodC env Try.prog 79 _) goodC_no fun _ h => ?_
  subst h
  refine qWr_ok (p := GoodC env Try.prog 79 _) goodC_no fun _ h => ?_
  subst h
  refine gC_ok (p := GoodC env Try.prog 79 _) goodC_no fun _ _ h => ?_
  subst h
  refine qC_ok (p := GoodC env Try.prog 79 _) goodC_no fun _ h => ?_
  subst h
  refine qS_ok (p := GoodC env Try.prog 79 _) goodC_no fun _ h => ?_
  subst h
  refine vI_ok (p := GoodC env Try.prog 79 _) goodC_no fun _ h => ?_
  subst h
  refine gE_ok (p := GoodC env Try.prog 79 _) goodC_no fun h => ?_
  subst h
  exact fun_good (fun_sound envOK (cs_sound _ (by exact ⟨⟨f122.sound k, f122.fnok⟩, ⟨f142.sound k, f142.fnok⟩, trivial⟩)) (f79.hok k) Try.func79 rfl) ((f79.ev k _ _).trans (f79.nat k _ _ _))
theorem f79.sound (k : Nat) : SoundC env Try.prog 79 (f79.e k).F := soundC_coer (f79.sound0 k) [[.wr 104], [.no]]
theorem f79.says (k : Nat) (xs1 : List S104) (a2 : Int) (t12 : Int × (List S104)) (h_ : f79 k xs1 a2 = some t12) : SoundAt env Try.prog 79 [.v (.c (.wr 104 xs1)), .v (.c (.s (.int .i64 a2)))] ⟨.v (.c (.s (.int .i64 t12.1))), [[.sl 104 t12.2], []]⟩ :=
  fun_sound envOK (cs_sound _ (by exact ⟨⟨f122.sound k, f122.fnok⟩, ⟨f142.sound k, f142.fnok⟩, trivial⟩)) (f79.hok k) Try.func79 rfl _ _ (((f79.ev k xs1 a2).trans (f79.nat k _ xs1 a2)).trans (by rw [h_]; rfl))
theorem f79.fnok : FnOK Try.prog 79 := fn_ok Try.func79 (by kernel_rfl) rfl
def f95.l2.step {R : Type} (k : Nat) (rec_ : (List Int) → Int → Int → Option R) (ret : ((Int × Int) ⊕ (Int)) → Option R) (xs3 : List Int) (a4 : Int) (a5 : Int) : Option R :=
  if (decide (a5 < (((List.length xs3) : Nat) : Int))) = true then
    if (0 : Int) ≤ a5 then
      if a5 < ((List.length xs3 : Nat) : Int) then
        if (decide ((List.getD xs3 (Int.toNat a5) (0 : Int)) ≠ (IntKind.u8.wrap a4))) = true then
          ret (.inl (a4, (-1 : Int)))
        else
          rec_ xs3 (IntKind.i64.wrap (a4 + (1 : Int))) (IntKind.i64.wrap (a5 + (1 : Int)))
      else none
    else none
  else
    ret (.inr a4)
def f95.l2 (k : Nat) : Nat → (List Int) → Int → Int → Option ((Int × Int) ⊕ (Int))
  | 0, _, _, _ => none
  | j + 1, xs3, a4, a5 => f95.l2.step k (fun xs3 a4 a5 => f95.l2 k j xs3 a4 a5) some xs3 a4 a5
def f95.l2.w {R : Type} : ((Int × Int) ⊕ (Int)) → (Exit → St env → Option R) → Option R := fun x K => Sum.elim (fun t8 => K .ret ⟨fullT [1, 4] 0 22 [.v (.c (.s (.int .i64 t8.1))), .v (.c (.s (.int .i64 t8.2)))], [], 322⟩) (fun t9 => K (.exit 0) ⟨fullT [1] 0 22 [.v (.c (.s (.int .i64 t9)))], [], 322⟩) x
def f95.l2.st (xs3 : List Int) (a4 : Int) (a5 : Int) : St env := ⟨fullT [0, 1, 5] 0 22 [.v (.c (.imm 5 xs3)), .v (.c (.s (.int .i64 a4))), .v (.c (.s (.int .i64 a5)))], [], 34⟩
def f95.l2.hd (k : Nat) (ts_ : List (AV env)) (mm_ : Mem env) (n_ : Nat) : LCl env :=
  gTs LCl.no [0, 1, 5] 22 ts_ fun l_ => gV LCl.no l_ fun a_ l_ => rImm LCl.no 5 a_ fun xs3 => gV LCl.no l_ fun a_ l_ => rV LCl.no a_ fun v_ => vI LCl.no .i64 v_ fun a4 => gV LCl.no l_ fun a_ l_ => rV LCl.no a_ fun v_ => vI LCl.no .i64 v_ fun a5 => gE LCl.no l_ <| gE LCl.no mm_ <| gN LCl.no 34 n_ { α := (Int × Int) ⊕ (Int), o := f95.l2 k k xs3 a4 a5, w := f95.l2.w }
def f95.step {R : Type} (k : Nat) (ret : Int → Option R) (xs1 : List Int) (a2 : Int) : Option R :=
  (f95.l2 k k xs1 a2 (0 : Int)).bind (Sum.elim (fun t6 => ret t6.2) (fun t7 => ret t7))
def f95 (k : Nat) (xs1 : List Int) (a2 : Int) : Option Int := f95.step k some xs1 a2
def f95.w {R : Type} : Int → (Res env → Option R) → Option R := fun t10 K => K ⟨.v (.c (.s (.int .i64 t10))), [[], []]⟩
theorem f95.wn (x : Int) : ∃ res, ∀ {R : Type} (K : Res env → Option R), f95.w x K = K res := by
  exact ⟨_, fun _ => rfl⟩
def f95.hd (k : Nat) (ps_ : List (P2 env)) : Cl env :=
  gC Cl.no ps_ fun p_ ps_ => qC Cl.no p_ fun c_ => qSl Cl.no 5 c_ fun xs1 => gC Cl.no ps_ fun p_ ps_ => qC Cl.no p_ fun c_ => qS Cl.no c_ fun v_ => vI Cl.no .i64 v_ fun a2 => gE Cl.no ps_ <| { α := Int, o := f95 k xs1 a2, w := f95.w, nat := fun x _ => f95.wn x }
def f95.e (k : Nat) : Entry env := ⟨fun ps => f95.hd k (coer [[.rd 5], [.no]] ps), []⟩
def f95.X (k : Nat) : Ctx env := { C := lookE [], L := lookE [(2, fun S => f95.l2.hd k S.ts S.m S.n)], J := lookE [], keep := lookD [(2, [0, 1, 5])], keepX := lookD [(2, [1, 4])], span := lookN [(2, 288)], eff := fun n => memN n [], prep := lookP [], np := 0 }
theorem f95.l2.nat {R : Type} (k : Nat) (rec_ : (List Int) → Int → Int → Option ((Int × Int) ⊕ (Int))) (g : ((Int × Int) ⊕ (Int)) → Option R) (xs3 : List Int) (a4 : Int) (a5 : Int) : (f95.l2.step k rec_ some xs3 a4 a5).bind g = f95.l2.step k (fun xs3 a4 a5 => (rec_ xs3 a4 a5).bind g) g xs3 a4 a5 := by
  simp only [f95.l2.step, bind_ite, bind_sum, Option.bind_assoc, Option.bind_some, Option.bind_none]
theorem f95.l2.good (k : Nat) (xs3 : List Int) (a4 : Int) (a5 : Int) : GoodL (f95.X k) (nthC 0 (loopsOf (bodyOf Try.f95))) (f95.l2.st xs3 a4 a5) { α := ((Int × Int) ⊕ (Int)), o := f95.l2 k k xs3 a4 a5, w := f95.l2.w } :=
  loop_good (ι := (List Int) × Int × Int) (α := ((Int × Int) ⊕ (Int))) (fun i => f95.l2.st i.1 i.2.1 i.2.2) (fun j i => f95.l2 k j i.1 i.2.1 i.2.2) f95.l2.w (fun rec_ ret i => f95.l2.step k (fun xs3 a4 a5 => rec_ (xs3, a4, a5)) ret i.1 i.2.1 i.2.2)
    (fun _ => rfl) (fun _ _ => rfl) (fun rec_ g i => f95.l2.nat k _ g i.1 i.2.1 i.2.2) (fun {R} i0 i rec_ K => by kernel_rfl) k (xs3, a4, a5)
theorem f95.l2.all (k : Nat) (S : St env) : GoodL (f95.X k) (nthC 0 (loopsOf (bodyOf Try.f95))) S (f95.l2.hd k S.ts S.m S.n) := by
  obtain ⟨ts_, m_, n_⟩ := S
  show GoodL _ _ _ (f95.l2.hd k ts_ m_ n_)
  unfold f95.l2.hd
  refine gTs_ok (p := GoodL _ _ _) goodL_no fun _ h => ?_
  subst h
  refine gV_ok (p := GoodL _ _ _) goodL_no fun _ _ h => ?_
  subst h
  refine rImm_ok (p := GoodL _ _ _) goodL_no fun _ h => ?_
  subst h
  refine gV_ok (p := GoodL _ _ _) goodL_no fun _ _ h => ?_
  subst h
  refine rV_ok (p := GoodL _ _ _) goodL_no fun _ h => ?_
  subst h
  refine vI_ok (p := GoodL _ _ _) goodL_no fun _ h => ?_
  subst h
  refine gV_ok (p := GoodL _ _ _) goodL_no fun _ _ h => ?_
  subst h
  refine rV_ok (p := GoodL _ _ _) goodL_no fun _ h => ?_
  subst h
  refine vI_ok (p := GoodL _ _ _) goodL_no fun _ h => ?_
  subst h
  refine gE_ok (p := GoodL _ _ _) goodL_no fun h => ?_
  subst h
  refine gE_ok (p := GoodL _ _ _) goodL_no fun h => ?_
  subst h
  refine gN_ok (p := GoodL _ _ _) goodL_no fun h => ?_
  subst h
  exact f95.l2.good k _ _ _
theorem f95.nat {R : Type} (k : Nat) (g : Int → Option R) (xs1 : List Int) (a2 : Int) : f95.step k g xs1 a2 = (f95 k xs1 a2).bind g := by
  simp only [f95, f95.step, bind_ite, bind_sum, Option.bind_assoc, Option.bind_some, Option.bind_none]
theorem f95.ev (k : Nat) (xs1 : List Int) (a2 : Int) : evF (f95.X k) (bodyOf Try.f95) Try.f95.ntmps Try.f95.results.toList [.v (.c (.sl 5 xs1)), .v (.c (.s (.int .i64 a2)))] = f95.step k (fun x => f95.w x some) xs1 a2 := by kernel_rfl
theorem f95.hok (k : Nat) : HOK (f95.X k) (bodyOf Try.f95) where
  l := allP_mem (by exact ⟨ls_of (h0 := fun S => f95.l2.hd k S.ts S.m S.n) (by kernel_rfl) (f95.l2.all k), trivial⟩)
  j := allP_mem (by exact trivial)
theorem f95.sound0 (k : Nat) : SoundC env Try.prog 95 (f95.hd k) := by
  intro ps_
  show GoodC _ _ _ ps_ (f95.hd k ps_)
  unfold f95.hd
  refine gC_ok (p := GoodC env Try.prog 95 _) goodC_no fun _ _ h => ?_
  subst h
  refine qC_ok (p := GoodC env Try.prog 95 _) goodC_no fun _ h => ?_
  subst h
  refine qSl_ok (p := GoodC env Try.prog 95 _) goodC_no fun _ h => ?_
  subst h
  refine gC_ok (p := GoodC env Try.prog 95 _) goodC_no fun _ _ h => ?_
  subst h
  refine qC_ok (p := GoodC env Try.prog 95 _) goodC_no fun _ h => ?_
  subst h
  refine qS_ok (p := GoodC env Try.prog 95 _) goodC_no fun _ h => ?_
  subst h
  refine vI_ok (p := GoodC env Try.prog 95 _) goodC_no fun _ h => ?_
  subst h
  refine gE_ok (p := GoodC env Try.prog 95 _) goodC_no fun h => ?_
  subst h
  exact fun_good (fun_sound envOK (cs_sound _ (by exact trivial)) (f95.hok k) Try.func95 rfl) ((f95.ev k _ _).trans (f95.nat k _ _ _))
theorem f95.sound (k : Nat) : SoundC env Try.prog 95 (f95.e k).F := soundC_coer (f95.sound0 k) [[.rd 5], [.no]]
theorem f95.says (k : Nat) (xs1 : List Int) (a2 : Int) (t11 : Int) (h_ : f95 k xs1 a2 = some t11) : SoundAt env Try.prog 95 [.v (.c (.sl 5 xs1)), .v (.c (.s (.int .i64 a2)))] ⟨.v (.c (.s (.int .i64 t11))), [[], []]⟩ :=
  fun_sound envOK (cs_sound _ (by exact trivial)) (f95.hok k) Try.func95 rfl _ _ (((f95.ev k xs1 a2).trans (f95.nat k _ xs1 a2)).trans (by rw [h_]; rfl))
theorem f95.fnok : FnOK Try.prog 95 := fn_ok Try.func95 (by kernel_rfl) rfl
def f143.l2.step {R : Type} (k : Nat) (rec_ : (List S211) → Int → Int → Option R) (ret : ((Int × Int) ⊕ (Int)) → Option R) (xs3 : List S211) (a4 : Int) (a5 : Int) : Option R :=
  if (decide (a5 < (((List.length xs3) : Nat) : Int))) = true then
    if (0 : Int) ≤ a5 then
      if a5 < ((List.length xs3 : Nat) : Int) then
        if (decide ((List.getD xs3 (Int.toNat a5) (⟨(0 : Int), false, []⟩ : S211)).f0 ≠ a4)) = true then
          ret (.inl (a4, (-1 : Int)))
        else
          if (0 : Int) ≤ a5 then
            if a5 < ((List.length xs3 : Nat) : Int) then
              if (!((List.getD xs3 (Int.toNat a5) (⟨(0 : Int), false, []⟩ : S211)).f1 == (decide ((Int.tmod (IntKind.i64.wrap (a4 + (1 : Int))) (3 : Int)) = (0 : Int))))) = true then
                ret (.inl ((IntKind.i64.wrap (a4 + (1 : Int))), (-1 : Int)))
              else
                if (0 : Int) ≤ a5 then
                  if a5 < ((List.length xs3 : Nat) : Int) then
                    (f95 k (List.getD xs3 (Int.toNat a5) (⟨(0 : Int), false, []⟩ : S211)).f2 (IntKind.i64.wrap ((IntKind.i64.wrap (a4 + (1 : Int))) + (1 : Int)))).bind fun t6 => if (decide (t6 < (0 : Int))) = true then
                        ret (.inl (t6, (-1 : Int)))
                      else
                        rec_ xs3 t6 (IntKind.i64.wrap (a5 + (1 : Int)))
                  else none
                else none
            else none
          else none
      else none
    else none
  else
    ret (.inr a4)
def f143.l2 (k : Nat) : Nat → (List S211) → Int → Int → Option ((Int × Int) ⊕ (Int))
  | 0, _, _, _ => none
  | j + 1, xs3, a4, a5 => f143.l2.step k (fun xs3 a4 a5 => f143.l2 k j xs3 a4 a5) some xs3 a4 a5
def f143.l2.w {R : Type} : ((Int × Int) ⊕ (Int)) → (Exit → St env → Option R) → Option R := fun x K => Sum.elim (fun t9 => K .ret ⟨fullT [1, 4] 0 42 [.v (.c (.s (.int .i64 t9.1))), .v (.c (.s (.int .i64 t9.2)))], [], 706⟩) (fun t10 => K (.exit 0) ⟨fullT [1] 0 42 [.v (.c (.s (.int .i64 t10)))], [], 706⟩) x
def f143.l2.st (xs3 : List S211) (a4 : Int) (a5 : Int) : St env := ⟨fullT [0, 1, 5] 0 42 [.v (.c (.imm 211 xs3)), .v (.c (.s (.int .i64 a4))), .v (.c (.s (.int .i64 a5)))], [], 34⟩
def f143.l2.hd (k : Nat) (ts_ : List (AV env)) (mm_ : Mem env) (n_ : Nat) : LCl env :=
  gTs LCl.no [0, 1, 5] 42 ts_ fun l_ => gV LCl.no l_ fun a_ l_ => rImm LCl.no 211 a_ fun xs3 => gV LCl.no l_ fun a_ l_ => rV LCl.no a_ fun v_ => vI LCl.no .i64 v_ fun a4 => gV LCl.no l_ fun a_ l_ => rV LCl.no a_ fun v_ => vI LCl.no .i64 v_ fun a5 => gE LCl.no l_ <| gE LCl.no mm_ <| gN LCl.no 34 n_ { α := (Int × Int) ⊕ (Int), o := f143.l2 k k xs3 a4 a5, w := f143.l2.w }
def f143.step {R : Type} (k : Nat) (ret : Int → Option R) (xs1 : List S211) (a2 : Int) : Option R :=
  (f143.l2 k k xs1 a2 (0 : Int)).bind (Sum.elim (fun t7 => ret t7.2) (fun t8 => ret t8))
def f143 (k : Nat) (xs1 : List S211) (a2 : Int) : Option Int := f143.step k some xs1 a2
def f143.w {R : Type} : Int → (Res env → Option R) → Option R := fun t11 K => K ⟨.v (.c (.s (.int .i64 t11))), [[], []]⟩
theorem f143.wn (x : Int) : ∃ res, ∀ {R : Type} (K : Res env → Option R), f143.w x K = K res := by
  exact ⟨_, fun _ => rfl⟩
def f143.hd (k : Nat) (ps_ : List (P2 env)) : Cl env :=
  gC Cl.no ps_ fun p_ ps_ => qC Cl.no p_ fun c_ => qSl Cl.no 211 c_ fun xs1 => gC Cl.no ps_ fun p_ ps_ => qC Cl.no p_ fun c_ => qS Cl.no c_ fun v_ => vI Cl.no .i64 v_ fun a2 => gE Cl.no ps_ <| { α := Int, o := f143 k xs1 a2, w := f143.w, nat := fun x _ => f143.wn x }
def f143.e (k : Nat) : Entry env := ⟨fun ps => f143.hd k (coer [[.rd 211], [.no]] ps), []⟩
def f143.X (k : Nat) : Ctx env := { C := lookE [(95, f95.e k)], L := lookE [(2, fun S => f143.l2.hd k S.ts S.m S.n)], J := lookE [], keep := lookD [(2, [0, 1, 5])], keepX := lookD [(2, [1, 4])], span := lookN [(2, 672)], eff := fun n => memN n [], prep := lookP [], np := 0 }
theorem f143.l2.nat {R : Type} (k : Nat) (rec_ : (List S211) → Int → Int → Option ((Int × Int) ⊕ (Int))) (g : ((Int × Int) ⊕ (Int)) → Option R) (xs3 : List S211) (a4 : Int) (a5 : Int) : (f143.l2.step k rec_ some xs3 a4 a5).bind g = f143.l2.step k (fun xs3 a4 a5 => (rec_ xs3 a4 a5).bind g) g xs3 a4 a5 := by
  simp only [f143.l2.step, bind_ite, bind_sum, Option.bind_assoc, Option.bind_some, Option.bind_none]
theorem f143.l2.good (k : Nat) (xs3 : List S211) (a4 : Int) (a5 : Int) : GoodL (f143.X k) (nthC 0 (loopsOf (bodyOf Try.f143))) (f143.l2.st xs3 a4 a5) { α := ((Int × Int) ⊕ (Int)), o := f143.l2 k k xs3 a4 a5, w := f143.l2.w } :=
  loop_good (ι := (List S211) × Int × Int) (α := ((Int × Int) ⊕ (Int))) (fun i => f143.l2.st i.1 i.2.1 i.2.2) (fun j i => f143.l2 k j i.1 i.2.1 i.2.2) f143.l2.w (fun rec_ ret i => f143.l2.step k (fun xs3 a4 a5 => rec_ (xs3, a4, a5)) ret i.1 i.2.1 i.2.2)
    (fun _ => rfl) (fun _ _ => rfl) (fun rec_ g i => f143.l2.nat k _ g i.1 i.2.1 i.2.2) (fun {R} i0 i rec_ K => by kernel_rfl) k (xs3, a4, a5)
theorem f143.l2.all (k : Nat) (S : St env) : GoodL (f143.X k) (nthC 0 (loopsOf (bodyOf Try.f143))) S (f143.l2.hd k S.ts S.m S.n) := by
  obtain ⟨ts_, m_, n_⟩ := S
  show GoodL _ _ _ (f143.l2.hd k ts_ m_ n_)
  unfold f143.l2.hd
  refine gTs_ok (p := GoodL _ _ _) goodL_no fun _ h => ?_
  subst h
  refine gV_ok (p := GoodL _ _ _) goodL_no fun _ _ h => ?_
  subst h
  refine rImm_ok (p := GoodL _ _ _) goodL_no fun _ h => ?_
  subst h
  refine gV_ok (p := GoodL _ _ _) goodL_no fun _ _ h => ?_
  subst h
  refine rV_ok (p := GoodL _ _ _) goodL_no fun _ h => ?_
  subst h
  refine vI_ok (p := GoodL _ _ _) goodL_no fun _ h => ?_
  subst h
  refine gV_ok (p := GoodL _ _ _) goodL_no fun _ _ h => ?_
  subst h
  refine rV_ok (p := GoodL _ _ _) goodL_no fun _ h => ?_
  subst h
  refine vI_ok (p := GoodL _ _ _) goodL_no fun _ h => ?_
  subst h
  refine gE_ok (p := GoodL _ _ _) goodL_no fun h => ?_
  subst h
  refine gE_ok (p := GoodL _ _ _) goodL_no fun h => ?_
  subst h
  refine gN_ok (p := GoodL _ _ _) goodL_no fun h => ?_
  subst h
  exact f143.l2.good k _ _ _
theorem f143.nat {R : Type} (k : Nat) (g : Int → Option R) (xs1 : List S211) (a2 : Int) : f143.step k g xs1 a2 = (f143 k xs1 a2).bind g := by
  simp only [f143, f143.step, bind_ite, bind_sum, Option.bind_assoc, Option.bind_some, Option.bind_none]
theorem f143.ev (k : Nat) (xs1 : List S211) (a2 : Int) : evF (f143.X k) (bodyOf Try.f143) Try.f143.ntmps Try.f143.results.toList [.v (.c (.sl 211 xs1)), .v (.c (.s (.int .i64 a2)))] = f143.step k (fun x => f143.w x some) xs1 a2 := by kernel_rfl
theorem f143.hok (k : Nat) : HOK (f143.X k) (bodyOf Try.f143) where
  l := allP_mem (by exact ⟨ls_of (h0 := fun S => f143.l2.hd k S.ts S.m S.n) (by kernel_rfl) (f143.l2.all k), trivial⟩)
  j := allP_mem (by exact trivial)
theorem f143.sound0 (k : Nat) : SoundC env Try.prog 143 (f143.hd k) := by
  intro ps_
  show GoodC _ _ _ ps_ (f143.hd k ps_)
  unfold f143.hd
  refine gC_ok (p := GoodC env Try.prog 143 _) goodC_no fun _ _ h => ?_
  subst h
  refine qC_ok (p := GoodC env Try.prog 143 _) goodC_no fun _ h => ?_
  subst h
  refine qSl_ok (p := GoodC env Try.prog 143 _) goodC_no fun _ h => ?_
  subst h
  refine gC_ok (p := GoodC env Try.prog 143 _) goodC_no fun _ _ h => ?_
  subst h
  refine qC_ok (p := GoodC env Try.prog 143 _) goodC_no fun _ h => ?_
  subst h
  refine qS_ok (p := GoodC env Try.prog 143 _) goodC_no fun _ h => ?_
  subst h
  refine vI_ok (p := GoodC env Try.prog 143 _) goodC_no fun _ h => ?_
  subst h
  refine gE_ok (p := GoodC env Try.prog 143 _) goodC_no fun h => ?_
  subst h
  exact fun_good (fun_sound envOK (cs_sound _ (by exact ⟨⟨f95.sound k, f95.fnok⟩, trivial⟩)) (f143.hok k) Try.func143 rfl) ((f143.ev k _ _).trans (f143.nat k _ _ _))
theorem f143.sound (k : Nat) : SoundC env Try.prog 143 (f143.e k).F := soundC_coer (f143.sound0 k) [[.rd 211], [.no]]
theorem f143.says (k : Nat) (xs1 : List S211) (a2 : Int) (t12 : Int) (h_ : f143 k xs1 a2 = some t12) : SoundAt env Try.prog 143 [.v (.c (.sl 211 xs1)), .v (.c (.s (.int .i64 a2)))] ⟨.v (.c (.s (.int .i64 t12))), [[], []]⟩ :=
  fun_sound envOK (cs_sound _ (by exact ⟨⟨f95.sound k, f95.fnok⟩, trivial⟩)) (f143.hok k) Try.func143 rfl _ _ (((f143.ev k xs1 a2).trans (f143.nat k _ xs1 a2)).trans (by rw [h_]; rfl))
theorem f143.fnok : FnOK Try.prog 143 := fn_ok Try.func143 (by kernel_rfl) rfl
def f80.l2.step {R : Type} (k : Nat) (rec_ : (List S104) → Int → Int → Option R) (ret : ((Int × Int) ⊕ (Int)) → Option R) (xs3 : List S104) (a4 : Int) (a5 : Int) : Option R :=
  if (decide (a5 < (((List.length xs3) : Nat) : Int))) = true then
    if (0 : Int) ≤ a5 then
      if a5 < ((List.length xs3 : Nat) : Int) then
        (f122 k a4).bind fun t6 => if (decide (ByteArray.toList (List.getD xs3 (Int.toNat a5) (⟨ByteArray.empty, ByteArray.empty, (0 : Int), (0 : Int), (0 : Int), []⟩ : S104)).f0 ≠ ByteArray.toList t6)) = true then
            ret (.inl (a4, (-1 : Int)))
          else
            if (0 : Int) ≤ a5 then
              if a5 < ((List.length xs3 : Nat) : Int) then
                (f122 k (IntKind.i64.wrap (a4 + (1 : Int)))).bind fun t7 => if (decide (ByteArray.toList (List.getD xs3 (Int.toNat a5) (⟨ByteArray.empty, ByteArray.empty, (0 : Int), (0 : Int), (0 : Int), []⟩ : S104)).f1 ≠ ByteArray.toList t7)) = true then
                    ret (.inl ((IntKind.i64.wrap (a4 + (1 : Int))), (-1 : Int)))
                  else
                    if (0 : Int) ≤ a5 then
                      if a5 < ((List.length xs3 : Nat) : Int) then
                        if (decide ((List.getD xs3 (Int.toNat a5) (⟨ByteArray.empty, ByteArray.empty, (0 : Int), (0 : Int), (0 : Int), []⟩ : S104)).f2 ≠ (IntKind.i64.wrap ((IntKind.i64.wrap (a4 + (1 : Int))) + (1 : Int))))) = true then
                          ret (.inl ((IntKind.i64.wrap ((IntKind.i64.wrap (a4 + (1 : Int))) + (1 : Int))), (-1 : Int)))
                        else
                          if (0 : Int) ≤ a5 then
                            if a5 < ((List.length xs3 : Nat) : Int) then
                              if (decide ((List.getD xs3 (Int.toNat a5) (⟨ByteArray.empty, ByteArray.empty, (0 : Int), (0 : Int), (0 : Int), []⟩ : S104)).f3 ≠ (IntKind.i64.wrap ((IntKind.i64.wrap ((IntKind.i64.wrap (a4 + (1 : Int))) + (1 : Int))) + (1 : Int))))) = true then
                                ret (.inl ((IntKind.i64.wrap ((IntKind.i64.wrap ((IntKind.i64.wrap (a4 + (1 : Int))) + (1 : Int))) + (1 : Int))), (-1 : Int)))
                              else
                                if (0 : Int) ≤ a5 then
                                  if a5 < ((List.length xs3 : Nat) : Int) then
                                    if (decide ((List.getD xs3 (Int.toNat a5) (⟨ByteArray.empty, ByteArray.empty, (0 : Int), (0 : Int), (0 : Int), []⟩ : S104)).f4 ≠ (IntKind.i64.wrap ((IntKind.i64.wrap ((IntKind.i64.wrap ((IntKind.i64.wrap (a4 + (1 : Int))) + (1 : Int))) + (1 : Int))) + (1 : Int))))) = true then
                                      ret (.inl ((IntKind.i64.wrap ((IntKind.i64.wrap ((IntKind.i64.wrap ((IntKind.i64.wrap (a4 + (1 : Int))) + (1 : Int))) + (1 : Int))) + (1 : Int))), (-1 : Int)))
                                    else
                                      if (0 : Int) ≤ a5 then
                                        if a5 < ((List.length xs3 : Nat) : Int) then
                                          (f143 k (List.getD xs3 (Int.toNat a5) (⟨ByteArray.empty, ByteArray.empty, (0 : Int), (0 : Int), (0 : Int), []⟩ : S104)).f5 (IntKind.i64.wrap ((IntKind.i64.wrap ((IntKind.i64.wrap ((IntKind.i64.wrap ((IntKind.i64.wrap (a4 + (1 : Int))) + (1 : Int))) + (1 : Int))) + (1 : Int))) + (1 : Int)))).bind fun t8 => if (decide (t8 < (0 : Int))) = true then
                                              ret (.inl (t8, (-1 : Int)))
                                            else
                                              rec_ xs3 t8 (IntKind.i64.wrap (a5 + (1 : Int)))
                                        else none
                                      else none
                                  else none
                                else none
                            else none
                          else none
                      else none
                    else none
              else none
            else none
      else none
    else none
  else
    ret (.inr a4)
def f80.l2 (k : Nat) : Nat → (List S104) → Int → Int → Option ((Int × Int) ⊕ (Int))
  | 0, _, _, _ => none
  | j + 1, xs3, a4, a5 => f80.l2.step k (fun xs3 a4 a5 => f80.l2 k j xs3 a4 a5) some xs3 a4 a5
def f80.l2.w {R : Type} : ((Int × Int) ⊕ (Int)) → (Exit → St env → Option R) → Option R := fun x K => Sum.elim (fun t11 => K .ret ⟨fullT [1, 4] 0 69 [.v (.c (.s (.int .i64 t11.1))), .v (.c (.s (.int .i64 t11.2)))], [], 1234⟩) (fun t12 => K (.exit 0) ⟨fullT [1] 0 69 [.v (.c (.s (.int .i64 t12)))], [], 1234⟩) x
def f80.l2.st (xs3 : List S104) (a4 : Int) (a5 : Int) : St env := ⟨fullT [0, 1, 5] 0 69 [.v (.c (.imm 104 xs3)), .v (.c (.s (.int .i64 a4))), .v (.c (.s (.int .i64 a5)))], [], 34⟩
def f80.l2.hd (k : Nat) (ts_ : List (AV env)) (mm_ : Mem env) (n_ : Nat) : LCl env :=
  gTs LCl.no [0, 1, 5] 69 ts_ fun l_ => gV LCl.no l_ fun a_ l_ => rImm LCl.no 104 a_ fun xs3 => gV LCl.no l_ fun a_ l_ => rV LCl.no a_ fun v_ => vI LCl.no .i64 v_ fun a4 => gV LCl.no l_ fun a_ l_ => rV LCl.no a_ fun v_ => vI LCl.no .i64 v_ fun a5 => gE LCl.no l_ <| gE LCl.no mm_ <| gN LCl.no 34 n_ { α := (Int × Int) ⊕ (Int), o := f80.l2 k k xs3 a4 a5, w := f80.l2.w }
def f80.step {R : Type} (k : Nat) (ret : Int → Option R) (xs1 : List S104) (a2 : Int) : Option R :=
  (f80.l2 k k xs1 a2 (0 : Int)).bind (Sum.elim (fun t9 => ret t9.2) (fun t10 => ret t10))
def f80 (k : Nat) (xs1 : List S104) (a2 : Int) : Option Int := f80.step k some xs1 a2
def f80.w {R : Type} : Int → (Res env → Option R) → Option R := fun t13 K => K ⟨.v (.c (.s (.int .i64 t13))), [[], []]⟩
theorem f80.wn (x : Int) : ∃ res, ∀ {R : Type} (K : Res env → Option R), f80.w x K = K res := by
  exact ⟨_, fun _ => rfl⟩
def f80.hd (k : Nat) (ps_ : List (P2 env)) : Cl env :=
  gC Cl.no ps_ fun p_ ps_ => qC Cl.no p_ fun c_ => qSl Cl.no 104 c_ fun xs1 => gC Cl.no ps_ fun p_ ps_ => qC Cl.no p_ fun c_ => qS Cl.no c_ fun v_ => vI Cl.no .i64 v_ fun a2 => gE Cl.no ps_ <| { α := Int, o := f80 k xs1 a2, w := f80.w, nat := fun x _ => f80.wn x }
def f80.e (k : Nat) : Entry env := ⟨fun ps => f80.hd k (coer [[.rd 104], [.no]] ps), []⟩
def f80.X (k : Nat) : Ctx env := { C := lookE [(122, f122.e k), (143, f143.e k)], L := lookE [(2, fun S => f80.l2.hd k S.ts S.m S.n)], J := lookE [], keep := lookD [(2, [0, 1, 5])], keepX := lookD [(2, [1, 4])], span := lookN [(2, 1200)], eff := fun n => memN n [], prep := lookP [], np := 0 }
theorem f80.l2.nat {R : Type} (k : Nat) (rec_ : (List S104) → Int → Int → Option ((Int × Int) ⊕ (Int))) (g : ((Int × Int) ⊕ (Int)) → Option R) (xs3 : List S104) (a4 : Int) (a5 : Int) : (f80.l2.step k rec_ some xs3 a4 a5).bind g = f80.l2.step k (fun xs3 a4 a5 => (rec_ xs3 a4 a5).bind g) g xs3 a4 a5 := by
  simp only [f80.l2.step, bind_ite, bind_sum, Option.bind_assoc, Option.bind_some, Option.bind_none]
theorem f80.l2.good (k : Nat) (xs3 : List S104) (a4 : Int) (a5 : Int) : GoodL (f80.X k) (nthC 0 (loopsOf (bodyOf Try.f80))) (f80.l2.st xs3 a4 a5) { α := ((Int × Int) ⊕ (Int)), o := f80.l2 k k xs3 a4 a5, w := f80.l2.w } :=
  loop_good (ι := (List S104) × Int × Int) (α := ((Int × Int) ⊕ (Int))) (fun i => f80.l2.st i.1 i.2.1 i.2.2) (fun j i => f80.l2 k j i.1 i.2.1 i.2.2) f80.l2.w (fun rec_ ret i => f80.l2.step k (fun xs3 a4 a5 => rec_ (xs3, a4, a5)) ret i.1 i.2.1 i.2.2)
    (fun _ => rfl) (fun _ _ => rfl) (fun rec_ g i => f80.l2.nat k _ g i.1 i.2.1 i.2.2) (fun {R} i0 i rec_ K => by kernel_rfl) k (xs3, a4, a5)
theorem f80.l2.all (k : Nat) (S : St env) : GoodL (f80.X k) (nthC 0 (loopsOf (bodyOf Try.f80))) S (f80.l2.hd k S.ts S.m S.n) := by
  obtain ⟨ts_, m_, n_⟩ := S
  show GoodL _ _ _ (f80.l2.hd k ts_ m_ n_)
  unfold f80.l2.hd
  refine gTs_ok (p := GoodL _ _ _) goodL_no fun _ h => ?_
  subst h
  refine gV_ok (p := GoodL _ _ _) goodL_no fun _ _ h => ?_
  subst h
  refine rImm_ok (p := GoodL _ _ _) goodL_no fun _ h => ?_
  subst h
  refine gV_ok (p := GoodL _ _ _) goodL_no fun _ _ h => ?_
  subst h
  refine rV_ok (p := GoodL _ _ _) goodL_no fun _ h => ?_
  subst h
  refine vI_ok (p := GoodL _ _ _) goodL_no fun _ h => ?_
  subst h
  refine gV_ok (p := GoodL _ _ _) goodL_no fun _ _ h => ?_
  subst h
  refine rV_ok (p := GoodL _ _ _) goodL_no fun _ h => ?_
  subst h
  refine vI_ok (p := GoodL _ _ _) goodL_no fun _ h => ?_
  subst h
  refine gE_ok (p := GoodL _ _ _) goodL_no fun h => ?_
  subst h
  refine gE_ok (p := GoodL _ _ _) goodL_no fun h => ?_
  subst h
  refine gN_ok (p := GoodL _ _ _) goodL_no fun h => ?_
  subst h
  exact f80.l2.good k _ _ _
theorem f80.nat {R : Type} (k : Nat) (g : Int → Option R) (xs1 : List S104) (a2 : Int) : f80.step k g xs1 a2 = (f80 k xs1 a2).bind g := by
  simp only [f80, f80.step, bind_ite, bind_sum, Option.bind_assoc, Option.bind_some, Option.bind_none]
theorem f80.ev (k : Nat) (xs1 : List S104) (a2 : Int) : evF (f80.X k) (bodyOf Try.f80) Try.f80.ntmps Try.f80.results.toList [.v (.c (.sl 104 xs1)), .v (.c (.s (.int .i64 a2)))] = f80.step k (fun x => f80.w x some) xs1 a2 := by kernel_rfl
theorem f80.hok (k : Nat) : HOK (f80.X k) (bodyOf Try.f80) where
  l := allP_mem (by exact ⟨ls_of (h0 := fun S => f80.l2.hd k S.ts S.m S.n) (by kernel_rfl) (f80.l2.all k), trivial⟩)
  j := allP_mem (by exact trivial)
theorem f80.sound0 (k : Nat) : SoundC env Try.prog 80 (f80.hd k) := by
  intro ps_
  show GoodC _ _ _ ps_ (f80.hd k ps_)
  unfold f80.hd
  refine gC_ok (p := GoodC env Try.prog 80 _) goodC_no fun _ _ h => ?_
  subst h
  refine qC_ok (p := GoodC env Try.prog 80 _) goodC_no fun _ h => ?_
  subst h
  refine qSl_ok (p := GoodC env Try.prog 80 _) goodC_no fun _ h => ?_
  subst h
  refine gC_ok (p := GoodC env Try.prog 80 _) goodC_no fun _ _ h => ?_
  subst h
  refine qC_ok (p := GoodC env Try.prog 80 _) goodC_no fun _ h => ?_
  subst h
  refine qS_ok (p := GoodC env Try.prog 80 _) goodC_no fun _ h => ?_
  subst h
  refine vI_ok (p := GoodC env Try.prog 80 _) goodC_no fun _ h => ?_
  subst h
  refine gE_ok (p := GoodC env Try.prog 80 _) goodC_no fun h => ?_
  subst h
  exact fun_good (fun_sound envOK (cs_sound _ (by exact ⟨⟨f122.sound k, f122.fnok⟩, ⟨f143.sound k, f143.fnok⟩, trivial⟩)) (f80.hok k) Try.func80 rfl) ((f80.ev k _ _).trans (f80.nat k _ _ _))
theorem f80.sound (k : Nat) : SoundC env Try.prog 80 (f80.e k).F := soundC_coer (f80.sound0 k) [[.rd 104], [.no]]
theorem f80.says (k : Nat) (xs1 : List S104) (a2 : Int) (t14 : Int) (h_ : f80 k xs1 a2 = some t14) : SoundAt env Try.prog 80 [.v (.c (.sl 104 xs1)), .v (.c (.s (.int .i64 a2)))] ⟨.v (.c (.s (.int .i64 t14))), [[], []]⟩ :=
  fun_sound envOK (cs_sound _ (by exact ⟨⟨f122.sound k, f122.fnok⟩, ⟨f143.sound k, f143.fnok⟩, trivial⟩)) (f80.hok k) Try.func80 rfl _ _ (((f80.ev k xs1 a2).trans (f80.nat k _ xs1 a2)).trans (by rw [h_]; rfl))
theorem f80.fnok : FnOK Try.prog 80 := fn_ok Try.func80 (by kernel_rfl) rfl
def f14.step {R : Type} (k : Nat) (ret : Bool → Option R) (xs1 : List S176) (a2 : Int) : Option R :=
  (f76 k xs1 (1048576 : Int)).bind fun t3 => if (decide (t3 < (0 : Int))) = true then
      ret true
    else
      (f77 k xs1).bind fun t4 => (f70 k t4 a2).bind fun t5 => (f77 k xs1).bind fun t6 => (f69 k t6 a2).bind (Sum.elim (fun t7 => (f78 k ([] : List S104) t5.1).bind fun t8 => if (!t8) = false then
                  if (decide (t7.1 ≠ t5.2.1)) = false then
                    if (decide (t7.2 ≠ t5.2.2)) = true then
                      ret false
                    else
                      (f77 k xs1).bind fun t9 => (f78 k t6 t9).bind fun t10 => if (!t10) = true then
                            ret false
                          else
                            (f79 k t6 (1 : Int)).bind fun t11 => if (decide (t11.1 < (0 : Int))) = false then
                                (f78 k ([] : List S104) t5.1).bind fun t12 => if (!t12) = false then
                                    if (decide (t7.1 ≠ t5.2.1)) = false then
                                      if (decide (t7.2 ≠ t5.2.2)) = true then
                                        ret false
                                      else
                                        (f79 k ([] : List S104) (1 : Int)).bind fun t13 => (f80 k ([] : List S104) (1 : Int)).bind fun t14 => if (decide (t14 < (0 : Int))) = true then
                                              ret false
                                            else
                                              if (decide (t14 ≠ t13.1)) = true then
                                                ret false
                                              else
                                                (f77 k xs1).bind fun t15 => (f69 k t15 a2).bind (Sum.elim (fun t16 => (f78 k ([] : List S104) t5.1).bind fun t17 => if (!t17) = false then
                                                        if (decide (t16.1 ≠ t5.2.1)) = false then
                                                          if (decide (t16.2 ≠ t5.2.2)) = true then
                                                            ret false
                                                          else
                                                            (f80 k ([] : List S104) (1 : Int)).bind fun t18 => if (decide (t18 < (0 : Int))) = true then
                                                                ret false
                                                              else
                                                                if (decide (t18 ≠ t13.1)) = true then
                                                                  ret false
                                                                else
                                                                  ret true
                                                        else
                                                          ret false
                                                      else
                                                        ret false) (fun t19 => (f78 k t19.1 t5.1).bind fun t20 => if (!t20) = false then
                                                        if (decide (t19.2.1 ≠ t5.2.1)) = false then
                                                          if (decide (t19.2.2 ≠ t5.2.2)) = true then
                                                            ret false
                                                          else
                                                            (f80 k ([] : List S104) (1 : Int)).bind fun t21 => if (decide (t21 < (0 : Int))) = true then
                                                                ret false
                                                              else
                                                                if (decide (t21 ≠ t13.1)) = true then
                                                                  ret false
                                                                else
                                                                  ret true
                                                        else
                                                          ret false
                                                      else
                                                        ret false))
                                    else
                                      ret false
                                  else
                                    ret false
                              else
                                ret false
                  else
                    ret false
                else
                  ret false) (fun t22 => (f78 k t22.1 t5.1).bind fun t23 => if (!t23) = false then
                  if (decide (t22.2.1 ≠ t5.2.1)) = false then
                    if (decide (t22.2.2 ≠ t5.2.2)) = true then
                      ret false
                    else
                      (f77 k xs1).bind fun t24 => (f78 k t6 t24).bind fun t25 => if (!t25) = true then
                            ret false
                          else
                            (f79 k t6 (1 : Int)).bind fun t26 => if (decide (t26.1 < (0 : Int))) = false then
                                (f78 k t22.1 t5.1).bind fun t27 => if (!t27) = false then
                                    if (decide (t22.2.1 ≠ t5.2.1)) = false then
                                      if (decide (t22.2.2 ≠ t5.2.2)) = true then
                                        ret false
                                      else
                                        (f79 k t22.1 (1 : Int)).bind fun t28 => (f80 k t28.2 (1 : Int)).bind fun t29 => if (decide (t29 < (0 : Int))) = true then
                                              ret false
                                            else
                                              if (decide (t29 ≠ t28.1)) = true then
                                                ret false
                                              else
                                                (f77 k xs1).bind fun t30 => (f69 k t30 a2).bind (Sum.elim (fun t31 => (f78 k ([] : List S104) t5.1).bind fun t32 => if (!t32) = false then
                                                        if (decide (t31.1 ≠ t5.2.1)) = false then
                                                          if (decide (t31.2 ≠ t5.2.2)) = true then
                                                            ret false
                                                          else
                                                            (f80 k t28.2 (1 : Int)).bind fun t33 => if (decide (t33 < (0 : Int))) = true then
                                                                ret false
                                                              else
                                                                if (decide (t33 ≠ t28.1)) = true then
                                                                  ret false
                                                                else
                                                                  ret true
                                                        else
                                                          ret false
                                                      else
                                                        ret false) (fun t34 => (f78 k t34.1 t5.1).bind fun t35 => if (!t35) = false then
                                                        if (decide (t34.2.1 ≠ t5.2.1)) = false then
                                                          if (decide (t34.2.2 ≠ t5.2.2)) = true then
                                                            ret false
                                                          else
                                                            (f80 k t28.2 (1 : Int)).bind fun t36 => if (decide (t36 < (0 : Int))) = true then
                                                                ret false
                                                              else
                                                                if (decide (t36 ≠ t28.1)) = true then
                                                                  ret false
                                                                else
                                                                  ret true
                                                        else
                                                          ret false
                                                      else
                                                        ret false))
                                    else
                                      ret false
                                  else
                                    ret false
                              else
                                ret false
                  else
                    ret false
                else
                  ret false))
def f14 (k : Nat) (xs1 : List S176) (a2 : Int) : Option Bool := f14.step k some xs1 a2
def f14.w {R : Type} : Bool → (Res env → Option R) → Option R := fun t37 K => K ⟨.v (.c (.s (.bool t37))), [[], []]⟩
theorem f14.wn (x : Bool) : ∃ res, ∀ {R : Type} (K : Res env → Option R), f14.w x K = K res := by
  exact ⟨_, fun _ => rfl⟩
def f14.hd (k : Nat) (ps_ : List (P2 env)) : Cl env :=
  gC Cl.no ps_ fun p_ ps_ => qC Cl.no p_ fun c_ => qSl Cl.no 176 c_ fun xs1 => gC Cl.no ps_ fun p_ ps_ => qC Cl.no p_ fun c_ => qS Cl.no c_ fun v_ => vI Cl.no .i64 v_ fun a2 => gE Cl.no ps_ <| { α := Bool, o := f14 k xs1 a2, w := f14.w, nat := fun x _ => f14.wn x }
def f14.e (k : Nat) : Entry env := ⟨fun ps => f14.hd k (coer [[.rd 176], [.no]] ps), []⟩
def f14.X (k : Nat) : Ctx env := { C := lookE [(69, f69.e k), (70, f70.e k), (76, f76.e k), (77, f77.e k), (78, f78.e k), (79, f79.e k), (80, f80.e k)], L := lookE [], J := lookE [], keep := lookD [], keepX := lookD [], span := lookN [], eff := fun n => memN n [], prep := lookP [], np := 0 }
theorem f14.nat {R : Type} (k : Nat) (g : Bool → Option R) (xs1 : List S176) (a2 : Int) : f14.step k g xs1 a2 = (f14 k xs1 a2).bind g := by
  simp only [f14, f14.step, bind_ite, bind_sum, Option.bind_assoc, Option.bind_some, Option.bind_none]
theorem f14.ev (k : Nat) (xs1 : List S176) (a2 : Int) : evF (f14.X k) (bodyOf Try.f14) Try.f14.ntmps Try.f14.results.toList [.v (.c (.sl 176 xs1)), .v (.c (.s (.int .i64 a2)))] = f14.step k (fun x => f14.w x some) xs1 a2 := by kernel_rfl
theorem f14.hok (k : Nat) : HOK (f14.X k) (bodyOf Try.f14) where
  l := allP_mem (by exact trivial)
  j := allP_mem (by exact trivial)
theorem f14.sound0 (k : Nat) : SoundC env Try.prog 14 (f14.hd k) := by
  intro ps_
  show GoodC _ _ _ ps_ (f14.hd k ps_)
  unfold f14.hd
  refine gC_ok (p := GoodC env Try.prog 14 _) goodC_no fun _ _ h => ?_
  subst h
  refine qC_ok (p := GoodC env Try.prog 14 _) goodC_no fun _ h => ?_
  subst h
  refine qSl_ok (p := GoodC env Try.prog 14 _) goodC_no fun _ h => ?_
  subst h
  refine gC_ok (p := GoodC env Try.prog 14 _) goodC_no fun _ _ h => ?_
  subst h
  refine qC_ok (p := GoodC env Try.prog 14 _) goodC_no fun _ h => ?_
  subst h
  refine qS_ok (p := GoodC env Try.prog 14 _) goodC_no fun _ h => ?_
  subst h
  refine vI_ok (p := GoodC env Try.prog 14 _) goodC_no fun _ h => ?_
  subst h
  refine gE_ok (p := GoodC env Try.prog 14 _) goodC_no fun h => ?_
  subst h
  exact fun_good (fun_sound envOK (cs_sound _ (by exact ⟨⟨f69.sound k, f69.fnok⟩, ⟨f70.sound k, f70.fnok⟩, ⟨f76.sound k, f76.fnok⟩, ⟨f77.sound k, f77.fnok⟩, ⟨f78.sound k, f78.fnok⟩, ⟨f79.sound k, f79.fnok⟩, ⟨f80.sound k, f80.fnok⟩, trivial⟩)) (f14.hok k) Try.func14 rfl) ((f14.ev k _ _).trans (f14.nat k _ _ _))
theorem f14.sound (k : Nat) : SoundC env Try.prog 14 (f14.e k).F := soundC_coer (f14.sound0 k) [[.rd 176], [.no]]
theorem f14.says (k : Nat) (xs1 : List S176) (a2 : Int) (t38 : Bool) (h_ : f14 k xs1 a2 = some t38) : SoundAt env Try.prog 14 [.v (.c (.sl 176 xs1)), .v (.c (.s (.int .i64 a2)))] ⟨.v (.c (.s (.bool t38))), [[], []]⟩ :=
  fun_sound envOK (cs_sound _ (by exact ⟨⟨f69.sound k, f69.fnok⟩, ⟨f70.sound k, f70.fnok⟩, ⟨f76.sound k, f76.fnok⟩, ⟨f77.sound k, f77.fnok⟩, ⟨f78.sound k, f78.fnok⟩, ⟨f79.sound k, f79.fnok⟩, ⟨f80.sound k, f80.fnok⟩, trivial⟩)) (f14.hok k) Try.func14 rfl _ _ (((f14.ev k xs1 a2).trans (f14.nat k _ xs1 a2)).trans (by rw [h_]; rfl))
theorem f14.fnok : FnOK Try.prog 14 := fn_ok Try.func14 (by kernel_rfl) rfl
end Go.Proofs.Ytildepkogbcdpaa.B

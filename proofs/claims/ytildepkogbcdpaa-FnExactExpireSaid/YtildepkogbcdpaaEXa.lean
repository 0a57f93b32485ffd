/- Written by a program of this session. -/
import Derived.Test.YtildepkogbcdpaaBEnv
import Derived.Test.YtildepkogbcdpaaBHd
namespace Go.Proofs.Ytildepkogbcdpaa.B
open Go Go.B
set_option linter.unusedVariables false
set_option linter.unusedSimpArgs false
def f127.step {R : Type} (k : Nat) (ret : Int → Option R) (xs1 : List Int) (a2 : Int) : Option R :=
  if (decide ((IntKind.i64.wrap (a2 - (((List.length xs1) : Nat) : Int))) < (0 : Int))) = true then
    ret (-1 : Int)
  else
    ret (IntKind.i64.wrap (a2 - (((List.length xs1) : Nat) : Int)))
def f127 (k : Nat) (xs1 : List Int) (a2 : Int) : Option Int := f127.step k some xs1 a2
def f127.w {R : Type} : Int → (Res env → Option R) → Option R := fun t3 K => K ⟨.v (.c (.s (.int .i64 t3))), [[], []]⟩
theorem f127.wn (x : Int) : ∃ res, ∀ {R : Type} (K : Res env → Option R), f127.w x K = K res := by
  exact ⟨_, fun _ => rfl⟩
def f127.hd (k : Nat) (ps_ : List (P2 env)) : Cl env :=
  gC Cl.no ps_ fun p_ ps_ => qC Cl.no p_ fun c_ => qSl Cl.no 5 c_ fun xs1 => gC Cl.no ps_ fun p_ ps_ => qC Cl.no p_ fun c_ => qS Cl.no c_ fun v_ => vI Cl.no .i64 v_ fun a2 => gE Cl.no ps_ <| { α := Int, o := f127 k xs1 a2, w := f127.w, nat := fun x _ => f127.wn x }
def f127.e (k : Nat) : Entry env := ⟨fun ps => f127.hd k (coer [[.rd 5], [.no]] ps), []⟩
def f127.X (k : Nat) : Ctx env := { C := lookE [], L := lookE [], J := lookE [], keep := lookD [], keepX := lookD [], span := lookN [], eff := fun n => memN n [], prep := lookP [], np := 0 }
theorem f127.nat {R : Type} (k : Nat) (g : Int → Option R) (xs1 : List Int) (a2 : Int) : f127.step k g xs1 a2 = (f127 k xs1 a2).bind g := by
  simp only [f127, f127.step, bind_ite, bind_sum, Option.bind_assoc, Option.bind_some, Option.bind_none]
theorem f127.ev (k : Nat) (xs1 : List Int) (a2 : Int) : evF (f127.X k) (bodyOf Try.f127) Try.f127.ntmps Try.f127.results.toList [.v (.c (.sl 5 xs1)), .v (.c (.s (.int .i64 a2)))] = f127.step k (fun x => f127.w x some) xs1 a2 := by kernel_rfl
theorem f127.hok (k : Nat) : HOK (f127.X k) (bodyOf Try.f127) where
  l := allP_mem (by exact trivial)
  j := allP_mem (by exact trivial)
theorem f127.sound0 (k : Nat) : SoundC env Try.prog 127 (f127.hd k) := by
  intro ps_
  show GoodC _ _ _ ps_ (f127.hd k ps_)
  unfold f127.hd
  refine gC_ok (p := GoodC env Try.prog 127 _) goodC_no fun _ _ h => ?_
  subst h
  refine qC_ok (p := GoodC env Try.prog 127 _) goodC_no fun _ h => ?_
  subst h
  refine qSl_ok (p := GoodC env Try.prog 127 _) goodC_no fun _ h => ?_
  subst h
  refine gC_ok (p := GoodC env Try.prog 127 _) goodC_no fun _ _ h => ?_
  subst h
  refine qC_ok (p := GoodC env Try.prog 127 _) goodC_no fun _ h => ?_
  subst h
  refine qS_ok (p := GoodC env Try.prog 127 _) goodC_no fun _ h => ?_
  subst h
  refine vI_ok (p := GoodC env Try.prog 127 _) goodC_no fun _ h => ?_
  subst h
  refine gE_ok (p := GoodC env Try.prog 127 _) goodC_no fun h => ?_
  subst h
  exact fun_good (fun_sound envOK (cs_sound _ (by exact trivial)) (f127.hok k) Try.func127 rfl) ((f127.ev k _ _).trans (f127.nat k _ _ _))
theorem f127.sound (k : Nat) : SoundC env Try.prog 127 (f127.e k).F := soundC_coer (f127.sound0 k) [[.rd 5], [.no]]
theorem f127.says (k : Nat) (xs1 : List Int) (a2 : Int) (t4 : Int) (h_ : f127 k xs1 a2 = some t4) : SoundAt env Try.prog 127 [.v (.c (.sl 5 xs1)), .v (.c (.s (.int .i64 a2)))] ⟨.v (.c (.s (.int .i64 t4))), [[], []]⟩ :=
  fun_sound envOK (cs_sound _ (by exact trivial)) (f127.hok k) Try.func127 rfl _ _ (((f127.ev k xs1 a2).trans (f127.nat k _ xs1 a2)).trans (by rw [h_]; rfl))
theorem f127.fnok : FnOK Try.prog 127 := fn_ok Try.func127 (by kernel_rfl) rfl
def f199.step {R : Type} (k : Nat) (ret : Int → Option R) (a1 : Int) (b2 : Bool) (xs3 : List Int) (a4 : Int) : Option R :=
  (f127 k xs3 a4).bind fun t5 => if (decide (t5 < (0 : Int))) = true then
      ret (-1 : Int)
    else
      ret t5
def f199 (k : Nat) (a1 : Int) (b2 : Bool) (xs3 : List Int) (a4 : Int) : Option Int := f199.step k some a1 b2 xs3 a4
def f199.w {R : Type} : Int → (Res env → Option R) → Option R := fun t6 K => K ⟨.v (.c (.s (.int .i64 t6))), [[], []]⟩
theorem f199.wn (x : Int) : ∃ res, ∀ {R : Type} (K : Res env → Option R), f199.w x K = K res := by
  exact ⟨_, fun _ => rfl⟩
def f199.hd (k : Nat) (ps_ : List (P2 env)) : Cl env :=
  gC Cl.no ps_ fun p_ ps_ => qG Cl.no p_ fun cs_ => gC Cl.no cs_ fun c_ cs_ => qS Cl.no c_ fun v_ => vI Cl.no .i64 v_ fun a1 => gC Cl.no cs_ fun c_ cs_ => qS Cl.no c_ fun v_ => vB Cl.no v_ fun b2 => gC Cl.no cs_ fun c_ cs_ => qSl Cl.no 5 c_ fun xs3 => gE Cl.no cs_ <| gC Cl.no ps_ fun p_ ps_ => qC Cl.no p_ fun c_ => qS Cl.no c_ fun v_ => vI Cl.no .i64 v_ fun a4 => gE Cl.no ps_ <| { α := Int, o := f199 k a1 b2 xs3 a4, w := f199.w, nat := fun x _ => f199.wn x }
def f199.e (k : Nat) : Entry env := ⟨fun ps => f199.hd k (coer [[.no, .no, .rd 5], [.no]] ps), []⟩
def f199.X (k : Nat) : Ctx env := { C := lookE [(127, f127.e k)], L := lookE [], J := lookE [], keep := lookD [], keepX := lookD [], span := lookN [], eff := fun n => memN n [], prep := lookP [], np := 0 }
theorem f199.nat {R : Type} (k : Nat) (g : Int → Option R) (a1 : Int) (b2 : Bool) (xs3 : List Int) (a4 : Int) : f199.step k g a1 b2 xs3 a4 = (f199 k a1 b2 xs3 a4).bind g := by
  simp only [f199, f199.step, bind_ite, bind_sum, Option.bind_assoc, Option.bind_some, Option.bind_none]
theorem f199.ev (k : Nat) (a1 : Int) (b2 : Bool) (xs3 : List Int) (a4 : Int) : evF (f199.X k) (bodyOf Try.f199) Try.f199.ntmps Try.f199.results.toList [.g [.s (.int .i64 a1), .s (.bool b2), .sl 5 xs3], .v (.c (.s (.int .i64 a4)))] = f199.step k (fun x => f199.w x some) a1 b2 xs3 a4 := by kernel_rfl
theorem f199.hok (k : Nat) : HOK (f199.X k) (bodyOf Try.f199) where
  l := allP_mem (by exact trivial)
  j := allP_mem (by exact trivial)
theorem f199.sound0 (k : Nat) : SoundC env Try.prog 199 (f199.hd k) := by
  intro ps_
  show GoodC _ _ _ ps_ (f199.hd k ps_)
  unfold f199.hd
  refine gC_ok (p := GoodC env Try.prog 199 _) goodC_no fun _ _ h => ?_
  subst h
  refine qG_ok (p := GoodC env Try.prog 199 _) goodC_no fun _ h => ?_
  subst h
  refine gC_ok (p := GoodC env Try.prog 199 _) goodC_no fun _ _ h => ?_
  subst h
  refine qS_ok (p := GoodC env Try.prog 199 _) goodC_no fun _ h => ?_
  subst h
  refine vI_ok (p := GoodC env Try.prog 199 _) goodC_no fun _ h => ?_
  subst h
  refine gC_ok (p := GoodC env Try.prog 199 _) goodC_no fun _ _ h => ?_
  subst h
  refine qS_ok (p := GoodC env Try.prog 199 _) goodC_no fun _ h => ?_
  subst h
  refine vB_ok (p := GoodC env Try.prog 199 _) goodC_no fun _ h => ?_
  subst h
  refine gC_ok (p := GoodC env Try.prog 199 _) goodC_no fun _ _ h => ?_
  subst h
  refine qSl_ok (p := GoodC env Try.prog 199 _) goodC_no fun _ h => ?_
  subst h
  refine gE_ok (p := GoodC env Try.prog 199 _) goodC_no fun h => ?_
  subst h
  refine gC_ok (p := GoodC env Try.prog 199 _) goodC_no fun _ _ h => ?_
  subst h
  refine qC_ok (p := GoodC env Try.prog 199 _) goodC_no fun _ h => ?_
  subst h
  refine qS_ok (p := GoodC env Try.prog 199 _) goodC_no fun _ h => ?_
  subst h
  refine vI_ok (p := GoodC env Try.prog 199 _) goodC_no fun _ h => ?_
  subst h
  refine gE_ok (p := GoodC env Try.prog 199 _) goodC_no fun h => ?_
  subst h
  exact fun_good (fun_sound envOK (cs_sound _ (by exact ⟨⟨f127.sound k, f127.fnok⟩, trivial⟩)) (f199.hok k) Try.func199 rfl) ((f199.ev k _ _ _ _).trans (f199.nat k _ _ _ _ _))
theorem f199.sound (k : Nat) : SoundC env Try.prog 199 (f199.e k).F := soundC_coer (f199.sound0 k) [[.no, .no, .rd 5], [.no]]
theorem f199.says (k : Nat) (a1 : Int) (b2 : Bool) (xs3 : List Int) (a4 : Int) (t7 : Int) (h_ : f199 k a1 b2 xs3 a4 = some t7) : SoundAt env Try.prog 199 [.g [.s (.int .i64 a1), .s (.bool b2), .sl 5 xs3], .v (.c (.s (.int .i64 a4)))] ⟨.v (.c (.s (.int .i64 t7))), [[], []]⟩ :=
  fun_sound envOK (cs_sound _ (by exact ⟨⟨f127.sound k, f127.fnok⟩, trivial⟩)) (f199.hok k) Try.func199 rfl _ _ (((f199.ev k a1 b2 xs3 a4).trans (f199.nat k _ a1 b2 xs3 a4)).trans (by rw [h_]; rfl))
theorem f199.fnok : FnOK Try.prog 199 := fn_ok Try.func199 (by kernel_rfl) rfl
def f179.l5.step {R : Type} (k : Nat) (rec_ : (List S238) → Int → Int → Option R) (ret : ((Int × Int) ⊕ (Int)) → Option R) (xs3 : List S238) (a4 : Int) (a5 : Int) : Option R :=
  if (decide (a5 < (((List.length xs3) : Nat) : Int))) = true then
    if (0 : Int) ≤ a5 then
      if a5 < ((List.length xs3 : Nat) : Int) then
        (f199 k (List.getD xs3 (Int.toNat a5) (⟨(0 : Int), false, []⟩ : S238)).f0 (List.getD xs3 (Int.toNat a5) (⟨(0 : Int), false, []⟩ : S238)).f1 (List.getD xs3 (Int.toNat a5) (⟨(0 : Int), false, []⟩ : S238)).f2 a4).bind fun t6 => if (decide (t6 < (0 : Int))) = true then
            ret (.inl (t6, (-1 : Int)))
          else
            rec_ xs3 t6 (IntKind.i64.wrap (a5 + (1 : Int)))
      else none
    else none
  else
    ret (.inr a4)
def f179.l5 (k : Nat) : Nat → (List S238) → Int → Int → Option ((Int × Int) ⊕ (Int))
  | 0, _, _, _ => none
  | j + 1, xs3, a4, a5 => f179.l5.step k (fun xs3 a4 a5 => f179.l5 k j xs3 a4 a5) some xs3 a4 a5
def f179.l5.w {R : Type} : ((Int × Int) ⊕ (Int)) → (Exit → St env → Option R) → Option R := fun x K => Sum.elim (fun t9 => K .ret ⟨fullT [1, 4] 0 27 [.v (.c (.s (.int .i64 t9.1))), .v (.c (.s (.int .i64 t9.2)))], [], 418⟩) (fun t10 => K (.exit 0) ⟨fullT [1] 0 27 [.v (.c (.s (.int .i64 t10)))], [], 418⟩) x
def f179.l5.st (xs3 : List S238) (a4 : Int) (a5 : Int) : St env := ⟨fullT [0, 1, 5] 0 27 [.v (.c (.imm 238 xs3)), .v (.c (.s (.int .i64 a4))), .v (.c (.s (.int .i64 a5)))], [], 146⟩
def f179.l5.hd (k : Nat) (ts_ : List (AV env)) (mm_ : Mem env) (n_ : Nat) : LCl env :=
  gTs LCl.no [0, 1, 5] 27 ts_ fun l_ => gV LCl.no l_ fun a_ l_ => rImm LCl.no 238 a_ fun xs3 => gV LCl.no l_ fun a_ l_ => rV LCl.no a_ fun v_ => vI LCl.no .i64 v_ fun a4 => gV LCl.no l_ fun a_ l_ => rV LCl.no a_ fun v_ => vI LCl.no .i64 v_ fun a5 => gE LCl.no l_ <| gE LCl.no mm_ <| gN LCl.no 146 n_ { α := (Int × Int) ⊕ (Int), o := f179.l5 k k xs3 a4 a5, w := f179.l5.w }
def f179.step {R : Type} (k : Nat) (ret : Int → Option R) (xs1 : List S238) (a2 : Int) : Option R :=
  if (decide ((IntKind.i64.wrap (a2 - (((List.length xs1) : Nat) : Int))) < (0 : Int))) = true then
    ret (-1 : Int)
  else
    (f179.l5 k k xs1 (IntKind.i64.wrap (a2 - (((List.length xs1) : Nat) : Int))) (0 : Int)).bind (Sum.elim (fun t7 => ret t7.2) (fun t8 => ret t8))
def f179 (k : Nat) (xs1 : List S238) (a2 : Int) : Option Int := f179.step k some xs1 a2
def f179.w {R : Type} : Int → (Res env → Option R) → Option R := fun t11 K => K ⟨.v (.c (.s (.int .i64 t11))), [[], []]⟩
theorem f179.wn (x : Int) : ∃ res, ∀ {R : Type} (K : Res env → Option R), f179.w x K = K res := by
  exact ⟨_, fun _ => rfl⟩
def f179.hd (k : Nat) (ps_ : List (P2 env)) : Cl env :=
  gC Cl.no ps_ fun p_ ps_ => qC Cl.no p_ fun c_ => qSl Cl.no 238 c_ fun xs1 => gC Cl.no ps_ fun p_ ps_ => qC Cl.no p_ fun c_ => qS Cl.no c_ fun v_ => vI Cl.no .i64 v_ fun a2 => gE Cl.no ps_ <| { α := Int, o := f179 k xs1 a2, w := f179.w, nat := fun x _ => f179.wn x }
def f179.e (k : Nat) : Entry env := ⟨fun ps => f179.hd k (coer [[.rd 238], [.no]] ps), []⟩
def f179.X (k : Nat) : Ctx env := { C := lookE [(199, f199.e k)], L := lookE [(5, fun S => f179.l5.hd k S.ts S.m S.n)], J := lookE [], keep := lookD [(5, [0, 1, 5])], keepX := lookD [(5, [1, 4])], span := lookN [(5, 272)], eff := fun n => memN n [], prep := lookP [], np := 0 }
theorem f179.l5.nat {R : Type} (k : Nat) (rec_ : (List S238) → Int → Int → Option ((Int × Int) ⊕ (Int))) (g : ((Int × Int) ⊕ (Int)) → Option R) (xs3 : List S238) (a4 : Int) (a5 : Int) : (f179.l5.step k rec_ some xs3 a4 a5).bind g = f179.l5.step k (fun xs3 a4 a5 => (rec_ xs3 a4 a5).bind g) g xs3 a4 a5 := by
  simp only [f179.l5.step, bind_ite, bind_sum, Option.bind_assoc, Option.bind_some, Option.bind_none]
theorem f179.l5.good (k : Nat) (xs3 : List S238) (a4 : Int) (a5 : Int) : GoodL (f179.X k) (nthC 0 (loopsOf (bodyOf Try.f179))) (f179.l5.st xs3 a4 a5) { α := ((Int × Int) ⊕ (Int)), o := f179.l5 k k xs3 a4 a5, w := f179.l5.w } :=
  loop_good (ι := (List S238) × Int × Int) (α := ((Int × Int) ⊕ (Int))) (fun i => f179.l5.st i.1 i.2.1 i.2.2) (fun j i => f179.l5 k j i.1 i.2.1 i.2.2) f179.l5.w (fun rec_ ret i => f179.l5.step k (fun xs3 a4 a5 => rec_ (xs3, a4, a5)) ret i.1 i.2.1 i.2.2)
    (fun _ => rfl) (fun _ _ => rfl) (fun rec_ g i => f179.l5.nat k _ g i.1 i.2.1 i.2.2) (fun {R} i0 i rec_ K => by kernel_rfl) k (xs3, a4, a5)
theorem f179.l5.all (k : Nat) (S : St env) : GoodL (f179.X k) (nthC 0 (loopsOf (bodyOf Try.f179))) S (f179.l5.hd k S.ts S.m S.n) := by
  obtain ⟨ts_, m_, n_⟩ := S
  show GoodL _ _ _ (f179.l5.hd k ts_ m_ n_)
  unfold f179.l5.hd
  refine gTs_ok (p := GoodL _ _ _) goodL_no fun _ h => ?_
  subst h
  refine gV_ok (p := GoodL _ _ _) goodL_no fun _ _ h => ?_
  subst h
  refine rImm_ok (p := GoodL _ _ _) goodL_no fun _ h => ?_
  subst h
  refine gV_ok (p := GoodL _ _ _) goodL_no fun _ _ h => ?_
  subst h
  refine rV_ok (p := GoodL _ _ _) goodL_no fun _ h => ?_
  subst h
  refine vI_ok (p := GoodL _ _ _) goodL_no fun _ h => ?_
  subst h
  refine gV_ok (p := GoodL _ _ _) goodL_no fun _ _ h => ?_
  subst h
  refine rV_ok (p := GoodL _ _ _) goodL_no fun _ h => ?_
  subst h
  refine vI_ok (p := GoodL _ _ _) goodL_no fun _ h => ?_
  subst h
  refine gE_ok (p := GoodL _ _ _) goodL_no fun h => ?_
  subst h
  refine gE_ok (p := GoodL _ _ _) goodL_no fun h => ?_
  subst h
  refine gN_ok (p := GoodL _ _ _) goodL_no fun h => ?_
  subst h
  exact f179.l5.good k _ _ _
theorem f179.nat {R : Type} (k : Nat) (g : Int → Option R) (xs1 : List S238) (a2 : Int) : f179.step k g xs1 a2 = (f179 k xs1 a2).bind g := by
  simp only [f179, f179.step, bind_ite, bind_sum, Option.bind_assoc, Option.bind_some, Option.bind_none]
theorem f179.ev (k : Nat) (xs1 : List S238) (a2 : Int) : evF (f179.X k) (bodyOf Try.f179) Try.f179.ntmps Try.f179.results.toList [.v (.c (.sl 238 xs1)), .v (.c (.s (.int .i64 a2)))] = f179.step k (fun x => f179.w x some) xs1 a2 := by kernel_rfl
theorem f179.hok (k : Nat) : HOK (f179.X k) (bodyOf Try.f179) where
  l := allP_mem (by exact ⟨ls_of (h0 := fun S => f179.l5.hd k S.ts S.m S.n) (by kernel_rfl) (f179.l5.all k), trivial⟩)
  j := allP_mem (by exact trivial)
theorem f179.sound0 (k : Nat) : SoundC env Try.prog 179 (f179.hd k) := by
  intro ps_
  show GoodC _ _ _ ps_ (f179.hd k ps_)
  unfold f179.hd
  refine gC_ok (p := GoodC env Try.prog 179 _) goodC_no fun _ _ h => ?_
  subst h
  refine qC_ok (p := GoodC env Try.prog 179 _) goodC_no fun _ h => ?_
  subst h
  refine qSl_ok (p := GoodC env Try.prog 179 _) goodC_no fun _ h => ?_
  subst h
  refine gC_ok (p := GoodC env Try.prog 179 _) goodC_no fun _ _ h => ?_
  subst h
  refine qC_ok (p := GoodC env Try.prog 179 _) goodC_no fun _ h => ?_
  subst h
  refine qS_ok (p := GoodC env Try.prog 179 _) goodC_no fun _ h => ?_
  subst h
  refine vI_ok (p := GoodC env Try.prog 179 _) goodC_no fun _ h => ?_
  subst h
  refine gE_ok (p := GoodC env Try.prog 179 _) goodC_no fun h => ?_
  subst h
  exact fun_good (fun_sound envOK (cs_sound _ (by exact ⟨⟨f199.sound k, f199.fnok⟩, trivial⟩)) (f179.hok k) Try.func179 rfl) ((f179.ev k _ _).trans (f179.nat k _ _ _))
theorem f179.sound (k : Nat) : SoundC env Try.prog 179 (f179.e k).F := soundC_coer (f179.sound0 k) [[.rd 238], [.no]]
theorem f179.says (k : Nat) (xs1 : List S238) (a2 : Int) (t12 : Int) (h_ : f179 k xs1 a2 = some t12) : SoundAt env Try.prog 179 [.v (.c (.sl 238 xs1)), .v (.c (.s (.int .i64 a2)))] ⟨.v (.c (.s (.int .i64 t12))), [[], []]⟩ :=
  fun_sound envOK (cs_sound _ (by exact ⟨⟨f199.sound k, f199.fnok⟩, trivial⟩)) (f179.hok k) Try.func179 rfl _ _ (((f179.ev k xs1 a2).trans (f179.nat k _ xs1 a2)).trans (by rw [h_]; rfl))
theorem f179.fnok : FnOK Try.prog 179 := fn_ok Try.func179 (by kernel_rfl) rfl
def f139.step {R : Type} (k : Nat) (ret : Int → Option R) (s1 : ByteArray) (s2 : ByteArray) (a3 : Int) (a4 : Int) (a5 : Int) (xs6 : List S238) (a7 : Int) : Option R :=
  if (decide ((IntKind.i64.wrap (a7 - (((ByteArray.size s1) : Nat) : Int))) < (0 : Int))) = true then
    ret (-1 : Int)
  else
    if (decide ((IntKind.i64.wrap ((IntKind.i64.wrap (a7 - (((ByteArray.size s1) : Nat) : Int))) - (((ByteArray.size s2) : Nat) : Int))) < (0 : Int))) = true then
      ret (-1 : Int)
    else
      (f179 k xs6 (IntKind.i64.wrap ((IntKind.i64.wrap (a7 - (((ByteArray.size s1) : Nat) : Int))) - (((ByteArray.size s2) : Nat) : Int)))).bind fun t8 => if (decide (t8 < (0 : Int))) = true then
          ret (-1 : Int)
        else
          ret t8
def f139 (k : Nat) (s1 : ByteArray) (s2 : ByteArray) (a3 : Int) (a4 : Int) (a5 : Int) (xs6 : List S238) (a7 : Int) : Option Int := f139.step k some s1 s2 a3 a4 a5 xs6 a7
def f139.w {R : Type} : Int → (Res env → Option R) → Option R := fun t9 K => K ⟨.v (.c (.s (.int .i64 t9))), [[], []]⟩
theorem f139.wn (x : Int) : ∃ res, ∀ {R : Type} (K : Res env → Option R), f139.w x K = K res := by
  exact ⟨_, fun _ => rfl⟩
def f139.hd (k : Nat) (ps_ : List (P2 env)) : Cl env :=
  gC Cl.no ps_ fun p_ ps_ => qG Cl.no p_ fun cs_ => gC Cl.no cs_ fun c_ cs_ => qS Cl.no c_ fun v_ => vS Cl.no v_ fun s1 => gC Cl.no cs_ fun c_ cs_ => qS Cl.no c_ fun v_ => vS Cl.no v_ fun s2 => gC Cl.no cs_ fun c_ cs_ => qS Cl.no c_ fun v_ => vI Cl.no .i64 v_ fun a3 => gC Cl.no cs_ fun c_ cs_ => qS Cl.no c_ fun v_ => vI Cl.no .i64 v_ fun a4 => gC Cl.no cs_ fun c_ cs_ => qS Cl.no c_ fun v_ => vI Cl.no .i64 v_ fun a5 => gC Cl.no cs_ fun c_ cs_ => qSl Cl.no 238 c_ fun xs6 => gE Cl.no cs_ <| gC Cl.no ps_ fun p_ ps_ => qC Cl.no p_ fun c_ => qS Cl.no c_ fun v_ => vI Cl.no .i64 v_ fun a7 => gE Cl.no ps_ <| { α := Int, o := f139 k s1 s2 a3 a4 a5 xs6 a7, w := f139.w, nat := fun x _ => f139.wn x }
def f139.e (k : Nat) : Entry env := ⟨fun ps => f139.hd k (coer [[.no, .no, .no, .no, .no, .rd 238], [.no]] ps), []⟩
def f139.X (k : Nat) : Ctx env := { C := lookE [(179, f179.e k)], L := lookE [], J := lookE [], keep := lookD [], keepX := lookD [], span := lookN [], eff := fun n => memN n [], prep := lookP [], np := 0 }
theorem f139.nat {R : Type} (k : Nat) (g : Int → Option R) (s1 : ByteArray) (s2 : ByteArray) (a3 : Int) (a4 : Int) (a5 : Int) (xs6 : List S238) (a7 : Int) : f139.step k g s1 s2 a3 a4 a5 xs6 a7 = (f139 k s1 s2 a3 a4 a5 xs6 a7).bind g := by
  simp only [f139, f139.step, bind_ite, bind_sum, Option.bind_assoc, Option.bind_some, Option.bind_none]
theorem f139.ev (k : Nat) (s1 : ByteArray) (s2 : ByteArray) (a3 : Int) (a4 : Int) (a5 : Int) (xs6 : List S238) (a7 : Int) : evF (f139.X k) (bodyOf Try.f139) Try.f139.ntmps Try.f139.results.toList [.g [.s (.string s1), .s (.string s2), .s (.int .i64 a3), .s (.int .i64 a4), .s (.int .i64 a5), .sl 238 xs6], .v (.c (.s (.int .i64 a7)))] = f139.step k (fun x => f139.w x some) s1 s2 a3 a4 a5 xs6 a7 := by kernel_rfl
theorem f139.hok (k : Nat) : HOK (f139.X k) (bodyOf Try.f139) where
  l := allP_mem (by exact trivial)
  j := allP_mem (by exact trivial)
theorem f139.sound0 (k : Nat) : SoundC env Try.prog 139 (f139.hd k) := by
  intro ps_
  show GoodC _ _ _ ps_ (f139.hd k ps_)
  unfold f139.hd
  refine gC_ok (p := GoodC env Try.prog 139 _) goodC_no fun _ _ h => ?_
  subst h
  refine qG_ok (p := GoodC env Try.prog 139 _) goodC_no fun _ h => ?_
  subst h
  refine gC_ok (p := GoodC env Try.prog 139 _) goodC_no fun _ _ h => ?_
  subst h
  refine qS_ok (p := GoodC env Try.prog 139 _) goodC_no fun _ h => ?_
  subst h
  refine vS_ok (p := GoodC env Try.prog 139 _) goodC_no fun _ h => ?_
  subst h
  refine gC_ok (p := GoodC env Try.prog 139 _) goodC_no fun _ _ h => ?_
  subst h
  refine qS_ok (p := GoodC env Try.prog 139 _) goodC_no fun _ h => ?_
  subst h
  refine vS_ok (p := GoodC env Try.prog 139 _) goodC_no fun _ h => ?_
  subst h
  refine gC_ok (p := GoodC env Try.prog 139 _) goodC_no fun _ _ h => ?_
  subst h
  refine qS_ok (p := GoodC env Try.prog 139 _) goodC_no fun _ h => ?_
  subst h
  refine vI_ok (p := GoodC env Try.prog 139 _) goodC_no fun _ h => ?_
  subst h
  refine gC_ok (p := GoodC env Try.prog 139 _) goodC_no fun _ _ h => ?_
  subst h
  refine qS_ok (p := GoodC env Try.prog 139 _) goodC_no fun _ h => ?_
  subst h
  refine vI_ok (p := GoodC env Try.prog 139 _) goodC_no fun _ h => ?_
  subst h
  refine gC_ok (p := GoodC env Try.prog 139 _) goodC_no fun _ _ h => ?_
  subst h
  refine qS_ok (p := GoodC env Try.prog 139 _) goodC_no fun _ h => ?_
  subst h
  refine vI_ok (p := GoodC env Try.prog 139 _) goodC_no fun _ h => ?_
  subst h
  refine gC_ok (p := GoodC env Try.prog 139 _) goodC_no fun _ _ h => ?_
  subst h
  refine qSl_ok (p := GoodC env Try.prog 139 _) goodC_no fun _ h => ?_
  subst h
  refine gE_ok (p := GoodC env Try.prog 139 _) goodC_no fun h => ?_
  subst h
  refine gC_ok (p := GoodC env Try.prog 139 _) goodC_no fun _ _ h => ?_
  subst h
  refine qC_ok (p := GoodC env Try.prog 139 _) goodC_no fun _ h => ?_
  subst h
  refine qS_ok (p := GoodC env Try.prog 139 _) goodC_no fun _ h => ?_
  subst h
  refine vI_ok (p := GoodC env Try.prog 139 _) goodC_no fun _ h => ?_
  subst h
  refine gE_ok (p := GoodC env Try.prog 139 _) goodC_no fun h => ?_
  subst h
  exact fun_good (fun_sound envOK (cs_sound _ (by exact ⟨⟨f179.sound k, f179.fnok⟩, trivial⟩)) (f139.hok k) Try.func139 rfl) ((f139.ev k _ _ _ _ _ _ _).trans (f139.nat k _ _ _ _ _ _ _ _))
theorem f139.sound (k : Nat) : SoundC env Try.prog 139 (f139.e k).F := soundC_coer (f139.sound0 k) [[.no, .no, .no, .no, .no, .rd 238], [.no]]
theorem f139.says (k : Nat) (s1 : ByteArray) (s2 : ByteArray) (a3 : Int) (a4 : Int) (a5 : Int) (xs6 : List S238) (a7 : Int) (t10 : Int) (h_ : f139 k s1 s2 a3 a4 a5 xs6 a7 = some t10) : SoundAt env Try.prog 139 [.g [.s (.string s1), .s (.string s2), .s (.int .i64 a3), .s (.int .i64 a4), .s (.int .i64 a5), .sl 238 xs6], .v (.c (.s (.int .i64 a7)))] ⟨.v (.c (.s (.int .i64 t10))), [[], []]⟩ :=
  fun_sound envOK (cs_sound _ (by exact ⟨⟨f179.sound k, f179.fnok⟩, trivial⟩)) (f139.hok k) Try.func139 rfl _ _ (((f139.ev k s1 s2 a3 a4 a5 xs6 a7).trans (f139.nat k _ s1 s2 a3 a4 a5 xs6 a7)).trans (by rw [h_]; rfl))
theorem f139.fnok : FnOK Try.prog 139 := fn_ok Try.func139 (by kernel_rfl) rfl
def f76.l5.step {R : Type} (k : Nat) (rec_ : (List S176) → Int → Int → Option R) (ret : ((Int × Int) ⊕ (Int)) → Option R) (xs3 : List S176) (a4 : Int) (a5 : Int) : Option R :=
  if (decide (a5 < (((List.length xs3) : Nat) : Int))) = true then
    if (0 : Int) ≤ a5 then
      if a5 < ((List.length xs3 : Nat) : Int) then
        (f139 k (List.getD xs3 (Int.toNat a5) (⟨ByteArray.empty, ByteArray.empty, (0 : Int), (0 : Int), (0 : Int), []⟩ : S176)).f0 (List.getD xs3 (Int.toNat a5) (⟨ByteArray.empty, ByteArray.empty, (0 : Int), (0 : Int), (0 : Int), []⟩ : S176)).f1 (List.getD xs3 (Int.toNat a5) (⟨ByteArray.empty, ByteArray.empty, (0 : Int), (0 : Int), (0 : Int), []⟩ : S176)).f2 (List.getD xs3 (Int.toNat a5) (⟨ByteArray.empty, ByteArray.empty, (0 : Int), (0 : Int), (0 : Int), []⟩ : S176)).f3 (List.getD xs3 (Int.toNat a5) (⟨ByteArray.empty, ByteArray.empty, (0 : Int), (0 : Int), (0 : Int), []⟩ : S176)).f4 (List.getD xs3 (Int.toNat a5) (⟨ByteArray.empty, ByteArray.empty, (0 : Int), (0 : Int), (0 : Int), []⟩ : S176)).f5 a4).bind fun t6 => if (decide (t6 < (0 : Int))) = true then
            ret (.inl (t6, (-1 : Int)))
          else
            rec_ xs3 t6 (IntKind.i64.wrap (a5 + (1 : Int)))
      else none
    else none
  else
    ret (.inr a4)
def f76.l5 (k : Nat) : Nat → (List S176) → Int → Int → Option ((Int × Int) ⊕ (Int))
  | 0, _, _, _ => none
  | j + 1, xs3, a4, a5 => f76.l5.step k (fun xs3 a4 a5 => f76.l5 k j xs3 a4 a5) some xs3 a4 a5
def f76.l5.w {R : Type} : ((Int × Int) ⊕ (Int)) → (Exit → St env → Option R) → Option R := fun x K => Sum.elim (fun t9 => K .ret ⟨fullT [1, 4] 0 27 [.v (.c (.s (.int .i64 t9.1))), .v (.c (.s (.int .i64 t9.2)))], [], 418⟩) (fun t10 => K (.exit 0) ⟨fullT [1] 0 27 [.v (.c (.s (.int .i64 t10)))], [], 418⟩) x
def f76.l5.st (xs3 : List S176) (a4 : Int) (a5 : Int) : St env := ⟨fullT [0, 1, 5] 0 27 [.v (.c (.imm 176 xs3)), .v (.c (.s (.int .i64 a4))), .v (.c (.s (.int .i64 a5)))], [], 146⟩
def f76.l5.hd (k : Nat) (ts_ : List (AV env)) (mm_ : Mem env) (n_ : Nat) : LCl env :=
  gTs LCl.no [0, 1, 5] 27 ts_ fun l_ => gV LCl.no l_ fun a_ l_ => rImm LCl.no 176 a_ fun xs3 => gV LCl.no l_ fun a_ l_ => rV LCl.no a_ fun v_ => vI LCl.no .i64 v_ fun a4 => gV LCl.no l_ fun a_ l_ => rV LCl.no a_ fun v_ => vI LCl.no .i64 v_ fun a5 => gE LCl.no l_ <| gE LCl.no mm_ <| gN LCl.no 146 n_ { α := (Int × Int) ⊕ (Int), o := f76.l5 k k xs3 a4 a5, w := f76.l5.w }
def f76.step {R : Type} (k : Nat) (ret : Int → Option R) (xs1 : List S176) (a2 : Int) : Option R :=
  if (decide ((IntKind.i64.wrap (a2 - (((List.length xs1) : Nat) : Int))) < (0 : Int))) = true then
    ret (-1 : Int)
  else
    (f76.l5 k k xs1 (IntKind.i64.wrap (a2 - (((List.length xs1) : Nat) : Int))) (0 : Int)).bind (Sum.elim (fun t7 => ret t7.2) (fun t8 => ret t8))
def f76 (k : Nat) (xs1 : List S176) (a2 : Int) : Option Int := f76.step k some xs1 a2
def f76.w {R : Type} : Int → (Res env → Option R) → Option R := fun t11 K => K ⟨.v (.c (.s (.int .i64 t11))), [[], []]⟩
theorem f76.wn (x : Int) : ∃ res, ∀ {R : Type} (K : Res env → Option R), f76.w x K = K res := by
  exact ⟨_, fun _ => rfl⟩
def f76.hd (k : Nat) (ps_ : List (P2 env)) : Cl env :=
  gC Cl.no ps_ fun p_ ps_ => qC Cl.no p_ fun c_ => qSl Cl.no 176 c_ fun xs1 => gC Cl.no ps_ fun p_ ps_ => qC Cl.no p_ fun c_ => qS Cl.no c_ fun v_ => vI Cl.no .i64 v_ fun a2 => gE Cl.no ps_ <| { α := Int, o := f76 k xs1 a2, w := f76.w, nat := fun x _ => f76.wn x }
def f76.e (k : Nat) : Entry env := ⟨fun ps => f76.hd k (coer [[.rd 176], [.no]] ps), []⟩
def f76.X (k : Nat) : Ctx env := { C := lookE [(139, f139.e k)], L := lookE [(5, fun S => f76.l5.hd k S.ts S.m S.n)], J := lookE [], keep := lookD [(5, [0, 1, 5])], keepX := lookD [(5, [1, 4])], span := lookN [(5, 272)], eff := fun n => memN n [], prep := lookP [], np := 0 }
theorem f76.l5.nat {R : Type} (k : Nat) (rec_ : (List S176) → Int → Int → Option ((Int × Int) ⊕ (Int))) (g : ((Int × Int) ⊕ (Int)) → Option R) (xs3 : List S176) (a4 : Int) (a5 : Int) : (f76.l5.step k rec_ some xs3 a4 a5).bind g = f76.l5.step k (fun xs3 a4 a5 => (rec_ xs3 a4 a5).bind g) g xs3 a4 a5 := by
  simp only [f76.l5.step, bind_ite, bind_sum, Option.bind_assoc, Option.bind_some, Option.bind_none]
theorem f76.l5.good (k : Nat) (xs3 : List S176) (a4 : Int) (a5 : Int) : GoodL (f76.X k) (nthC 0 (loopsOf (bodyOf Try.f76))) (f76.l5.st xs3 a4 a5) { α := ((Int × Int) ⊕ (Int)), o := f76.l5 k k xs3 a4 a5, w := f76.l5.w } :=
  loop_good (ι := (List S176) × Int × Int) (α := ((Int × Int) ⊕ (Int))) (fun i => f76.l5.st i.1 i.2.1 i.2.2) (fun j i => f76.l5 k j i.1 i.2.1 i.2.2) f76.l5.w (fun rec_ ret i => f76.l5.step k (fun xs3 a4 a5 => rec_ (xs3, a4, a5)) ret i.1 i.2.1 i.2.2)
    (fun _ => rfl) (fun _ _ => rfl) (fun rec_ g i => f76.l5.nat k _ g i.1 i.2.1 i.2.2) (fun {R} i0 i rec_ K => by kernel_rfl) k (xs3, a4, a5)
theorem f76.l5.all (k : Nat) (S : St env) : GoodL (f76.X k) (nthC 0 (loopsOf (bodyOf Try.f76))) S (f76.l5.hd k S.ts S.m S.n) := by
  obtain ⟨ts_, m_, n_⟩ := S
  show GoodL _ _ _ (f76.l5.hd k ts_ m_ n_)
  unfold f76.l5.hd
  refine gTs_ok (p := GoodL _ _ _) goodL_no fun _ h => ?_
  subst h
  refine gV_ok (p := GoodL _ _ _) goodL_no fun _ _ h => ?_
  subst h
  refine rImm_ok (p := GoodL _ _ _) goodL_no fun _ h => ?_
  subst h
  refine gV_ok (p := GoodL _ _ _) goodL_no fun _ _ h => ?_
  subst h
  refine rV_ok (p := GoodL _ _ _) goodL_no fun _ h => ?_
  subst h
  refine vI_ok (p := GoodL _ _ _) goodL_no fun _ h => ?_
  subst h
  refine gV_ok (p := GoodL _ _ _) goodL_no fun _ _ h => ?_
  subst h
  refine rV_ok (p := GoodL _ _ _) goodL_no fun _ h => ?_
  subst h
  refine vI_ok (p := GoodL _ _ _) goodL_no fun _ h => ?_
  subst h
  refine gE_ok (p := GoodL _ _ _) goodL_no fun h => ?_
  subst h
  refine gE_ok (p := GoodL _ _ _) goodL_no fun h => ?_
  subst h
  refine gN_ok (p := GoodL _ _ _) goodL_no fun h => ?_
  subst h
  exact f76.l5.good k _ _ _
theorem f76.nat {R : Type} (k : Nat) (g : Int → Option R) (xs1 : List S176) (a2 : Int) : f76.step k g xs1 a2 = (f76 k xs1 a2).bind g := by
  simp only [f76, f76.step, bind_ite, bind_sum, Option.bind_assoc, Option.bind_some, Option.bind_none]
theorem f76.ev (k : Nat) (xs1 : List S176) (a2 : Int) : evF (f76.X k) (bodyOf Try.f76) Try.f76.ntmps Try.f76.results.toList [.v (.c (.sl 176 xs1)), .v (.c (.s (.int .i64 a2)))] = f76.step k (fun x => f76.w x some) xs1 a2 := by kernel_rfl
theorem f76.hok (k : Nat) : HOK (f76.X k) (bodyOf Try.f76) where
  l := allP_mem (by exact ⟨ls_of (h0 := fun S => f76.l5.hd k S.ts S.m S.n) (by kernel_rfl) (f76.l5.all k), trivial⟩)
  j := allP_mem (by exact trivial)
theorem f76.sound0 (k : Nat) : SoundC env Try.prog 76 (f76.hd k) := by
  intro ps_
  show GoodC _ _ _ ps_ (f76.hd k ps_)
  unfold f76.hd
  refine gC_ok (p := GoodC env Try.prog 76 _) goodC_no fun _ _ h => ?_
  subst h
  refine qC_ok (p := GoodC env Try.prog 76 _) goodC_no fun _ h => ?_
  subst h
  refine qSl_ok (p := GoodC env Try.prog 76 _) goodC_no fun _ h => ?_
  subst h
  refine gC_ok (p := GoodC env Try.prog 76 _) goodC_no fun _ _ h => ?_
  subst h
  refine qC_ok (p := GoodC env Try.prog 76 _) goodC_no fun _ h => ?_
  subst h
  refine qS_ok (p := GoodC env Try.prog 76 _) goodC_no fun _ h => ?_
  subst h
  refine vI_ok (p := GoodC env Try.prog 76 _) goodC_no fun _ h => ?_
  subst h
  refine gE_ok (p := GoodC env Try.prog 76 _) goodC_no fun h => ?_
  subst h
  exact fun_good (fun_sound envOK (cs_sound _ (by exact ⟨⟨f139.sound k, f139.fnok⟩, trivial⟩)) (f76.hok k) Try.func76 rfl) ((f76.ev k _ _).trans (f76.nat k _ _ _))
theorem f76.sound (k : Nat) : SoundC env Try.prog 76 (f76.e k).F := soundC_coer (f76.sound0 k) [[.rd 176], [.no]]
theorem f76.says (k : Nat) (xs1 : List S176) (a2 : Int) (t12 : Int) (h_ : f76 k xs1 a2 = some t12) : SoundAt env Try.prog 76 [.v (.c (.sl 176 xs1)), .v (.c (.s (.int .i64 a2)))] ⟨.v (.c (.s (.int .i64 t12))), [[], []]⟩ :=
  fun_sound envOK (cs_sound _ (by exact ⟨⟨f139.sound k, f139.fnok⟩, trivial⟩)) (f76.hok k) Try.func76 rfl _ _ (((f76.ev k xs1 a2).trans (f76.nat k _ xs1 a2)).trans (by rw [h_]; rfl))
theorem f76.fnok : FnOK Try.prog 76 := fn_ok Try.func76 (by kernel_rfl) rfl
def f30.l3.step {R : Type} (k : Nat) (rec_ : (List Int) → Int → (List Int) → Option R) (ret : ((List Int)) → Option R) (xs2 : List Int) (a3 : Int) (xs4 : List Int) : Option R :=
  if (decide (a3 < (((List.length xs2) : Nat) : Int))) = true then
    if (0 : Int) ≤ a3 then
      if a3 < ((List.length xs2 : Nat) : Int) then
        if (0 : Int) ≤ a3 then
          if a3 < ((List.length xs4 : Nat) : Int) then
            rec_ xs2 (IntKind.i64.wrap (a3 + (1 : Int))) (List.set xs4 (Int.toNat a3) (List.getD xs2 (Int.toNat a3) (0 : Int)))
          else none
        else none
      else none
    else none
  else
    ret xs4
def f30.l3 (k : Nat) : Nat → (List Int) → Int → (List Int) → Option ((List Int))
  | 0, _, _, _ => none
  | j + 1, xs2, a3, xs4 => f30.l3.step k (fun xs2 a3 xs4 => f30.l3 k j xs2 a3 xs4) some xs2 a3 xs4
def f30.l3.w {R : Type} : ((List Int)) → (Exit → St env → Option R) → Option R := fun t6 K => K (.exit 0) ⟨fullT [3] 0 22 [.v (.c (.row 49))], [(49, .row true 5 t6)], 337⟩
def f30.l3.st (xs2 : List Int) (a3 : Int) (xs4 : List Int) : St env := ⟨fullT [0, 3, 4] 0 22 [.v (.c (.imm 5 xs2)), .v (.c (.row 49)), .v (.c (.s (.int .i64 a3)))], [(49, .row true 5 xs4)], 97⟩
def f30.l3.hd (k : Nat) (ts_ : List (AV env)) (mm_ : Mem env) (n_ : Nat) : LCl env :=
  gTs LCl.no [0, 3, 4] 22 ts_ fun l_ => gV LCl.no l_ fun a_ l_ => rImm LCl.no 5 a_ fun xs2 => gV LCl.no l_ fun a_ l_ => rRow LCl.no 49 a_ <| gV LCl.no l_ fun a_ l_ => rV LCl.no a_ fun v_ => vI LCl.no .i64 v_ fun a3 => gE LCl.no l_ <| mRow LCl.no 49 true 5 mm_ fun xs4 m_ => gE LCl.no m_ <| gN LCl.no 97 n_ { α := (List Int), o := f30.l3 k k xs2 a3 xs4, w := f30.l3.w }
def f30.step {R : Type} (k : Nat) (ret : ((List Int)) → Option R) (xs1 : List Int) : Option R :=
  if (0 : Int) ≤ (((List.length xs1) : Nat) : Int) then
    if (Int.toNat (((List.length xs1) : Nat) : Int)) * 1 ≤ maxN then
      (f30.l3 k k xs1 (0 : Int) (List.replicate (Int.toNat (((List.length xs1) : Nat) : Int)) (0 : Int))).bind fun t5 => ret t5
    else none
  else none
def f30 (k : Nat) (xs1 : List Int) : Option ((List Int)) := f30.step k some xs1
def f30.w {R : Type} : ((List Int)) → (Res env → Option R) → Option R := fun t7 K => K ⟨.v (.c (.own true 5 t7)), [[]]⟩
theorem f30.wn (x : ((List Int))) : ∃ res, ∀ {R : Type} (K : Res env → Option R), f30.w x K = K res := by
  exact ⟨_, fun _ => rfl⟩
def f30.hd (k : Nat) (ps_ : List (P2 env)) : Cl env :=
  gC Cl.no ps_ fun p_ ps_ => qC Cl.no p_ fun c_ => qSl Cl.no 5 c_ fun xs1 => gE Cl.no ps_ <| { α := (List Int), o := f30 k xs1, w := f30.w, nat := fun x _ => f30.wn x }
def f30.e (k : Nat) : Entry env := ⟨fun ps => f30.hd k (coer [[.rd 5]] ps), []⟩
def f30.X (k : Nat) : Ctx env := { C := lookE [], L := lookE [(3, fun S => f30.l3.hd k S.ts S.m S.n)], J := lookE [], keep := lookD [(3, [0, 3, 4])], keepX := lookD [(3, [3])], span := lookN [(3, 240)], eff := fun n => memN n [], prep := lookP [], np := 0 }
theorem f30.l3.nat {R : Type} (k : Nat) (rec_ : (List Int) → Int → (List Int) → Option ((List Int))) (g : ((List Int)) → Option R) (xs2 : List Int) (a3 : Int) (xs4 : List Int) : (f30.l3.step k rec_ some xs2 a3 xs4).bind g = f30.l3.step k (fun xs2 a3 xs4 => (rec_ xs2 a3 xs4).bind g) g xs2 a3 xs4 := by
  simp only [f30.l3.step, bind_ite, bind_sum, Option.bind_assoc, Option.bind_some, Option.bind_none]
theorem f30.l3.good (k : Nat) (xs2 : List Int) (a3 : Int) (xs4 : List Int) : GoodL (f30.X k) (nthC 0 (loopsOf (bodyOf Try.f30))) (f30.l3.st xs2 a3 xs4) { α := ((List Int)), o := f30.l3 k k xs2 a3 xs4, w := f30.l3.w } :=
  loop_good (ι := (List Int) × Int × (List Int)) (α := ((List Int))) (fun i => f30.l3.st i.1 i.2.1 i.2.2) (fun j i => f30.l3 k j i.1 i.2.1 i.2.2) f30.l3.w (fun rec_ ret i => f30.l3.step k (fun xs2 a3 xs4 => rec_ (xs2, a3, xs4)) ret i.1 i.2.1 i.2.2)
    (fun _ => rfl) (fun _ _ => rfl) (fun rec_ g i => f30.l3.nat k _ g i.1 i.2.1 i.2.2) (fun {R} i0 i rec_ K => by kernel_rfl) k (xs2, a3, xs4)
theorem f30.l3.all (k : Nat) (S : St env) : GoodL (f30.X k) (nthC 0 (loopsOf (bodyOf Try.f30))) S (f30.l3.hd k S.ts S.m S.n) := by
  obtain ⟨ts_, m_, n_⟩ := S
  show GoodL _ _ _ (f30.l3.hd k ts_ m_ n_)
  unfold f30.l3.hd
  refine gTs_ok (p := GoodL _ _ _) goodL_no fun _ h => ?_
  subst h
  refine gV_ok (p := GoodL _ _ _) goodL_no fun _ _ h => ?_
  subst h
  refine rImm_ok (p := GoodL _ _ _) goodL_no fun _ h => ?_
  subst h
  refine gV_ok (p := GoodL _ _ _) goodL_no fun _ _ h => ?_
  subst h
  refine rRow_ok (p := GoodL _ _ _) goodL_no fun h => ?_
  subst h
  refine gV_ok (p := GoodL _ _ _) goodL_no fun _ _ h => ?_
  subst h
  refine rV_ok (p := GoodL _ _ _) goodL_no fun _ h => ?_
  subst h
  refine vI_ok (p := GoodL _ _ _) goodL_no fun _ h => ?_
  subst h
  refine gE_ok (p := GoodL _ _ _) goodL_no fun h => ?_
  subst h
  refine mRow_ok (p := GoodL _ _ _) goodL_no fun _ _ h => ?_
  subst h
  refine gE_ok (p := GoodL _ _ _) goodL_no fun h => ?_
  subst h
  refine gN_ok (p := GoodL _ _ _) goodL_no fun h => ?_
  subst h
  exact f30.l3.good k _ _ _
theorem f30.nat {R : Type} (k : Nat) (g : ((List Int)) → Option R) (xs1 : List Int) : f30.step k g xs1 = (f30 k xs1).bind g := by
  simp only [f30, f30.step, bind_ite, bind_sum, Option.bind_assoc, Option.bind_some, Option.bind_none]
theorem f30.ev (k : Nat) (xs1 : List Int) : evF (f30.X k) (bodyOf Try.f30) Try.f30.ntmps Try.f30.results.toList [.v (.c (.sl 5 xs1))] = f30.step k (fun x => f30.w x some) xs1 := by kernel_rfl
theorem f30.hok (k : Nat) : HOK (f30.X k) (bodyOf Try.f30) where
  l := allP_mem (by exact ⟨ls_of (h0 := fun S => f30.l3.hd k S.ts S.m S.n) (by kernel_rfl) (f30.l3.all k), trivial⟩)
  j := allP_mem (by exact trivial)
theorem f30.sound0 (k : Nat) : SoundC env Try.prog 30 (f30.hd k) := by
  intro ps_
  show GoodC _ _ _ ps_ (f30.hd k ps_)
  unfold f30.hd
  refine gC_ok (p := GoodC env Try.prog 30 _) goodC_no fun _ _ h => ?_
  subst h
  refine qC_ok (p := GoodC env Try.prog 30 _) goodC_no fun _ h => ?_
  subst h
  refine qSl_ok (p := GoodC env Try.prog 30 _) goodC_no fun _ h => ?_
  subst h
  refine gE_ok (p := GoodC env Try.prog 30 _) goodC_no fun h => ?_
  subst h
  exact fun_good (fun_sound envOK (cs_sound _ (by exact trivial)) (f30.hok k) Try.func30 rfl) ((f30.ev k _).trans (f30.nat k _ _))
theorem f30.sound (k : Nat) : SoundC env Try.prog 30 (f30.e k).F := soundC_coer (f30.sound0 k) [[.rd 5]]
theorem f30.says (k : Nat) (xs1 : List Int) (t8 : (List Int)) (h_ : f30 k xs1 = some t8) : SoundAt env Try.prog 30 [.v (.c (.sl 5 xs1))] ⟨.v (.c (.own true 5 t8)), [[]]⟩ :=
  fun_sound envOK (cs_sound _ (by exact trivial)) (f30.hok k) Try.func30 rfl _ _ (((f30.ev k xs1).trans (f30.nat k _ xs1)).trans (by rw [h_]; rfl))
theorem f30.fnok : FnOK Try.prog 30 := fn_ok Try.func30 (by kernel_rfl) rfl
def f200.step {R : Type} (k : Nat) (ret : (Int × Bool × (List Int)) → Option R) (a1 : Int) (b2 : Bool) (xs3 : List Int) : Option R :=
  (f30 k xs3).bind fun t4 => ret (a1, b2, t4)
def f200 (k : Nat) (a1 : Int) (b2 : Bool) (xs3 : List Int) : Option (Int × Bool × (List Int)) := f200.step k some a1 b2 xs3
def f200.w {R : Type} : (Int × Bool × (List Int)) → (Res env → Option R) → Option R := fun t5 K => K ⟨.v (.g [.s (.int .i64 t5.1), .s (.bool t5.2.1), .own true 5 t5.2.2]), [[]]⟩
theorem f200.wn (x : (Int × Bool × (List Int))) : ∃ res, ∀ {R : Type} (K : Res env → Option R), f200.w x K = K res := by
  exact ⟨_, fun _ => rfl⟩
def f200.hd (k : Nat) (ps_ : List (P2 env)) : Cl env :=
  gC Cl.no ps_ fun p_ ps_ => qG Cl.no p_ fun cs_ => gC Cl.no cs_ fun c_ cs_ => qS Cl.no c_ fun v_ => vI Cl.no .i64 v_ fun a1 => gC Cl.no cs_ fun c_ cs_ => qS Cl.no c_ fun v_ => vB Cl.no v_ fun b2 => gC Cl.no cs_ fun c_ cs_ => qSl Cl.no 5 c_ fun xs3 => gE Cl.no cs_ <| gE Cl.no ps_ <| { α := Int × Bool × (List Int), o := f200 k a1 b2 xs3, w := f200.w, nat := fun x _ => f200.wn x }
def f200.e (k : Nat) : Entry env := ⟨fun ps => f200.hd k (coer [[.no, .no, .rd 5]] ps), []⟩
def f200.X (k : Nat) : Ctx env := { C := lookE [(30, f30.e k)], L := lookE [], J := lookE [], keep := lookD [], keepX := lookD [], span := lookN [], eff := fun n => memN n [], prep := lookP [], np := 0 }
theorem f200.nat {R : Type} (k : Nat) (g : (Int × Bool × (List Int)) → Option R) (a1 : Int) (b2 : Bool) (xs3 : List Int) : f200.step k g a1 b2 xs3 = (f200 k a1 b2 xs3).bind g := by
  simp only [f200, f200.step, bind_ite, bind_sum, Option.bind_assoc, Option.bind_some, Option.bind_none]
theorem f200.ev (k : Nat) (a1 : Int) (b2 : Bool) (xs3 : List Int) : evF (f200.X k) (bodyOf Try.f200) Try.f200.ntmps Try.f200.results.toList [.g [.s (.int .i64 a1), .s (.bool b2), .sl 5 xs3]] = f200.step k (fun x => f200.w x some) a1 b2 xs3 := by kernel_rfl
theorem f200.hok (k : Nat) : HOK (f200.X k) (bodyOf Try.f200) where
  l := allP_mem (by exact trivial)
  j := allP_mem (by exact trivial)
theorem f200.sound0 (k : Nat) : SoundC env Try.prog 200 (f200.hd k) := by
  intro ps_
  show GoodC _ _ _ ps_ (f200.hd k ps_)
  unfold f200.hd
  refine gC_ok (p := GoodC env Try.prog 200 _) goodC_no fun _ _ h => ?_
  subst h
  refine qG_ok (p := GoodC env Try.prog 200 _) goodC_no fun _ h => ?_
  subst h
  refine gC_ok (p := GoodC env Try.prog 200 _) goodC_no fun _ _ h => ?_
  subst h
  refine qS_ok (p := GoodC env Try.prog 200 _) goodC_no fun _ h => ?_
  subst h
  refine vI_ok (p := GoodC env Try.prog 200 _) goodC_no fun _ h => ?_
  subst h
  refine gC_ok (p := GoodC env Try.prog 200 _) goodC_no fun _ _ h => ?_
  subst h
  refine qS_ok (p := GoodC env Try.prog 200 _) goodC_no fun _ h => ?_
  subst h
  refine vB_ok (p := GoodC env Try.prog 200 _) goodC_no fun _ h => ?_
  subst h
  refine gC_ok (p := GoodC env Try.prog 200 _) goodC_no fun _ _ h => ?_
  subst h
  refine qSl_ok (p := GoodC env Try.prog 200 _) goodC_no fun _ h => ?_
  subst h
  refine gE_ok (p := GoodC env Try.prog 200 _) goodC_no fun h => ?_
  subst h
  refine gE_ok (p := GoodC env Try.prog 200 _) goodC_no fun h => ?_
  subst h
  exact fun_good (fun_sound envOK (cs_sound _ (by exact ⟨⟨f30.sound k, f30.fnok⟩, trivial⟩)) (f200.hok k) Try.func200 rfl) ((f200.ev k _ _ _).trans (f200.nat k _ _ _ _))
theorem f200.sound (k : Nat) : SoundC env Try.prog 200 (f200.e k).F := soundC_coer (f200.sound0 k) [[.no, .no, .rd 5]]
theorem f200.says (k : Nat) (a1 : Int) (b2 : Bool) (xs3 : List Int) (t6 : Int × Bool × (List Int)) (h_ : f200 k a1 b2 xs3 = some t6) : SoundAt env Try.prog 200 [.g [.s (.int .i64 a1), .s (.bool b2), .sl 5 xs3]] ⟨.v (.g [.s (.int .i64 t6.1), .s (.bool t6.2.1), .own true 5 t6.2.2]), [[]]⟩ :=
  fun_sound envOK (cs_sound _ (by exact ⟨⟨f30.sound k, f30.fnok⟩, trivial⟩)) (f200.hok k) Try.func200 rfl _ _ (((f200.ev k a1 b2 xs3).trans (f200.nat k _ a1 b2 xs3)).trans (by rw [h_]; rfl))
theorem f200.fnok : FnOK Try.prog 200 := fn_ok Try.func200 (by kernel_rfl) rfl
def f180.l3.step {R : Type} (k : Nat) (rec_ : (List S238) → Int → (List S211) → Option R) (ret : ((List S211)) → Option R) (xs2 : List S238) (a3 : Int) (xs4 : List S211) : Option R :=
  if (decide (a3 < (((List.length xs2) : Nat) : Int))) = true then
    if (0 : Int) ≤ a3 then
      if a3 < ((List.length xs2 : Nat) : Int) then
        (f200 k (List.getD xs2 (Int.toNat a3) (⟨(0 : Int), false, []⟩ : S238)).f0 (List.getD xs2 (Int.toNat a3) (⟨(0 : Int), false, []⟩ : S238)).f1 (List.getD xs2 (Int.toNat a3) (⟨(0 : Int), false, []⟩ : S238)).f2).bind fun t5 => if (0 : Int) ≤ a3 then
            if a3 < ((List.length xs4 : Nat) : Int) then
              rec_ xs2 (IntKind.i64.wrap (a3 + (1 : Int))) (List.set xs4 (Int.toNat a3) (⟨t5.1, t5.2.1, t5.2.2⟩ : S211))
            else none
          else none
      else none
    else none
  else
    ret xs4
def f180.l3 (k : Nat) : Nat → (List S238) → Int → (List S211) → Option ((List S211))
  | 0, _, _, _ => none
  | j + 1, xs2, a3, xs4 => f180.l3.step k (fun xs2 a3 xs4 => f180.l3 k j xs2 a3 xs4) some xs2 a3 xs4
def f180.l3.w {R : Type} : ((List S211)) → (Exit → St env → Option R) → Option R := fun t7 K => K (.exit 0) ⟨fullT [3] 0 23 [.v (.c (.row 49))], [(49, .row true 211 t7)], 353⟩
def f180.l3.st (xs2 : List S238) (a3 : Int) (xs4 : List S211) : St env := ⟨fullT [0, 3, 4] 0 23 [.v (.c (.imm 238 xs2)), .v (.c (.row 49)), .v (.c (.s (.int .i64 a3)))], [(49, .row true 211 xs4)], 97⟩
def f180.l3.hd (k : Nat) (ts_ : List (AV env)) (mm_ : Mem env) (n_ : Nat) : LCl env :=
  gTs LCl.no [0, 3, 4] 23 ts_ fun l_ => gV LCl.no l_ fun a_ l_ => rImm LCl.no 238 a_ fun xs2 => gV LCl.no l_ fun a_ l_ => rRow LCl.no 49 a_ <| gV LCl.no l_ fun a_ l_ => rV LCl.no a_ fun v_ => vI LCl.no .i64 v_ fun a3 => gE LCl.no l_ <| mRow LCl.no 49 true 211 mm_ fun xs4 m_ => gE LCl.no m_ <| gN LCl.no 97 n_ { α := (List S211), o := f180.l3 k k xs2 a3 xs4, w := f180.l3.w }
def f180.step {R : Type} (k : Nat) (ret : ((List S211)) → Option R) (xs1 : List S238) : Option R :=
  if (0 : Int) ≤ (((List.length xs1) : Nat) : Int) then
    if (Int.toNat (((List.length xs1) : Nat) : Int)) * 40 ≤ maxN then
      (f180.l3 k k xs1 (0 : Int) (List.replicate (Int.toNat (((List.length xs1) : Nat) : Int)) (⟨(0 : Int), false, []⟩ : S211))).bind fun t6 => ret t6
    else none
  else none
def f180 (k : Nat) (xs1 : List S238) : Option ((List S211)) := f180.step k some xs1
def f180.w {R : Type} : ((List S211)) → (Res env → Option R) → Option R := fun t8 K => K ⟨.v (.c (.own true 211 t8)), [[]]⟩
theorem f180.wn (x : ((List S211))) : ∃ res, ∀ {R : Type} (K : Res env → Option R), f180.w x K = K res := by
  exact ⟨_, fun _ => rfl⟩
def f180.hd (k : Nat) (ps_ : List (P2 env)) : Cl env :=
  gC Cl.no ps_ fun p_ ps_ => qC Cl.no p_ fun c_ => qSl Cl.no 238 c_ fun xs1 => gE Cl.no ps_ <| { α := (List S211), o := f180 k xs1, w := f180.w, nat := fun x _ => f180.wn x }
def f180.e (k : Nat) : Entry env := ⟨fun ps => f180.hd k (coer [[.rd 238]] ps), []⟩
def f180.X (k : Nat) : Ctx env := { C := lookE [(200, f200.e k)], L := lookE [(3, fun S => f180.l3.hd k S.ts S.m S.n)], J := lookE [], keep := lookD [(3, [0, 3, 4])], keepX := lookD [(3, [3])], span := lookN [(3, 256)], eff := fun n => memN n [], prep := lookP [], np := 0 }
theorem f180.l3.nat {R : Type} (k : Nat) (rec_ : (List S238) → Int → (List S211) → Option ((List S211))) (g : ((List S211)) → Option R) (xs2 : List S238) (a3 : Int) (xs4 : List S211) : (f180.l3.step k rec_ some xs2 a3 xs4).bind g = f180.l3.step k (fun xs2 a3 xs4 => (rec_ xs2 a3 xs4).bind g) g xs2 a3 xs4 := by
  simp only [f180.l3.step, bind_ite, bind_sum, Option.bind_assoc, Option.bind_some, Option.bind_none]
theorem f180.l3.good (k : Nat) (xs2 : List S238) (a3 : Int) (xs4 : List S211) : GoodL (f180.X k) (nthC 0 (loopsOf (bodyOf Try.f180))) (f180.l3.st xs2 a3 xs4) { α := ((List S211)), o := f180.l3 k k xs2 a3 xs4, w := f180.l3.w } :=
  loop_good (ι := (List S238) × Int × (List S211)) (α := ((List S211))) (fun i => f180.l3.st i.1 i.2.1 i.2.2) (fun j i => f180.l3 k j i.1 i.2.1 i.2.2) f180.l3.w (fun rec_ ret i => f180.l3.step k (fun xs2 a3 xs4 => rec_ (xs2, a3, xs4)) ret i.1 i.2.1 i.2.2)
    (fun _ => rfl) (fun _ _ => rfl) (fun rec_ g i => f180.l3.nat k _ g i.1 i.2.1 i.2.2) (fun {R} i0 i rec_ K => by kernel_rfl) k (xs2, a3, xs4)
theorem f180.l3.all (k : Nat) (S : St env) : GoodL (f180.X k) (nthC 0 (loopsOf (bodyOf Try.f180))) S (f180.l3.hd k S.ts S.m S.n) := by
  obtain ⟨ts_, m_, n_⟩ := S
  show GoodL _ _ _ (f180.l3.hd k ts_ m_ n_)
  unfold f180.l3.hd
  refine gTs_ok (p := GoodL _ _ _) goodL_no fun _ h => ?_
  subst h
  refine gV_ok (p := GoodL _ _ _) goodL_no fun _ _ h => ?_
  subst h
  refine rImm_ok (p := GoodL _ _ _) goodL_no fun _ h => ?_
  subst h
  refine gV_ok (p := GoodL _ _ _) goodL_no fun _ _ h => ?_
  subst h
  refine rRow_ok (p := GoodL _ _ _) goodL_no fun h => ?_
  subst h
  refine gV_ok (p := GoodL _ _ _) goodL_no fun _ _ h => ?_
  subst h
  refine rV_ok (p := GoodL _ _ _) goodL_no fun _ h => ?_
  subst h
  refine vI_ok (p := GoodL _ _ _) goodL_no fun _ h => ?_
  subst h
  refine gE_ok (p := GoodL _ _ _) goodL_no fun h => ?_
  subst h
  refine mRow_ok (p := GoodL _ _ _) goodL_no fun _ _ h => ?_
  subst h
  refine gE_ok (p := GoodL _ _ _) goodL_no fun h => ?_
  subst h
  refine gN_ok (p := GoodL _ _ _) goodL_no fun h => ?_
  subst h
  exact f180.l3.good k _ _ _
theorem f180.nat {R : Type} (k : Nat) (g : ((List S211)) → Option R) (xs1 : List S238) : f180.step k g xs1 = (f180 k xs1).bind g := by
  simp only [f180, f180.step, bind_ite, bind_sum, Option.bind_assoc, Option.bind_some, Option.bind_none]
theorem f180.ev (k : Nat) (xs1 : List S238) : evF (f180.X k) (bodyOf Try.f180) Try.f180.ntmps Try.f180.results.toList [.v (.c (.sl 238 xs1))] = f180.step k (fun x => f180.w x some) xs1 := by kernel_rfl
theorem f180.hok (k : Nat) : HOK (f180.X k) (bodyOf Try.f180) where
  l := allP_mem (by exact ⟨ls_of (h0 := fun S => f180.l3.hd k S.ts S.m S.n) (by kernel_rfl) (f180.l3.all k), trivial⟩)
  j := allP_mem (by exact trivial)
theorem f180.sound0 (k : Nat) : SoundC env Try.prog 180 (f180.hd k) := by
  intro ps_
  show GoodC _ _ _ ps_ (f180.hd k ps_)
  unfold f180.hd
  refine gC_ok (p := GoodC env Try.prog 180 _) goodC_no fun _ _ h => ?_
  subst h
  refine qC_ok (p := GoodC env Try.prog 180 _) goodC_no fun _ h => ?_
  subst h
  refine qSl_ok (p := GoodC env Try.prog 180 _) goodC_no fun _ h => ?_
  subst h
  refine gE_ok (p := GoodC env Try.prog 180 _) goodC_no fun h => ?_
  subst h
  exact fun_good (fun_sound envOK (cs_sound _ (by exact ⟨⟨f200.sound k, f200.fnok⟩, trivial⟩)) (f180.hok k) Try.func180 rfl) ((f180.ev k _).trans (f180.nat k _ _))
theorem f180.sound (k : Nat) : SoundC env Try.prog 180 (f180.e k).F := soundC_coer (f180.sound0 k) [[.rd 238]]
theorem f180.says (k : Nat) (xs1 : List S238) (t9 : (List S211)) (h_ : f180 k xs1 = some t9) : SoundAt env Try.prog 180 [.v (.c (.sl 238 xs1))] ⟨.v (.c (.own true 211 t9)), [[]]⟩ :=
  fun_sound envOK (cs_sound _ (by exact ⟨⟨f200.sound k, f200.fnok⟩, trivial⟩)) (f180.hok k) Try.func180 rfl _ _ (((f180.ev k xs1).trans (f180.nat k _ xs1)).trans (by rw [h_]; rfl))
theorem f180.fnok : FnOK Try.prog 180 := fn_ok Try.func180 (by kernel_rfl) rfl
def f140.step {R : Type} (k : Nat) (ret : (ByteArray × ByteArray × Int × Int × Int × (List S211)) → Option R) (s1 : ByteArray) (s2 : ByteArray) (a3 : Int) (a4 : Int) (a5 : Int) (xs6 : List S238) : Option R :=
  (f180 k xs6).bind fun t7 => ret (s1, s2, a3, a4, a5, t7)
def f140 (k : Nat) (s1 : ByteArray) (s2 : ByteArray) (a3 : Int) (a4 : Int) (a5 : Int) (xs6 : List S238) : Option (ByteArray × ByteArray × Int × Int × Int × (List S211)) := f140.step k some s1 s2 a3 a4 a5 xs6
def f140.w {R : Type} : (ByteArray × ByteArray × Int × Int × Int × (List S211)) → (Res env → Option R) → Option R := fun t8 K => K ⟨.v (.g [.s (.string t8.1), .s (.string t8.2.1), .s (.int .i64 t8.2.2.1), .s (.int .i64 t8.2.2.2.1), .s (.int .i64 t8.2.2.2.2.1), .own true 211 t8.2.2.2.2.2]), [[]]⟩
theorem f140.wn (x : (ByteArray × ByteArray × Int × Int × Int × (List S211))) : ∃ res, ∀ {R : Type} (K : Res env → Option R), f140.w x K = K res := by
  exact ⟨_, fun _ => rfl⟩
def f140.hd (k : Nat) (ps_ : List (P2 env)) : Cl env :=
  gC Cl.no ps_ fun p_ ps_ => qG Cl.no p_ fun cs_ => gC Cl.no cs_ fun c_ cs_ => qS Cl.no c_ fun v_ => vS Cl.no v_ fun s1 => gC Cl.no cs_ fun c_ cs_ => qS Cl.no c_ fun v_ => vS Cl.no v_ fun s2 => gC Cl.no cs_ fun c_ cs_ => qS Cl.no c_ fun v_ => vI Cl.no .i64 v_ fun a3 => gC Cl.no cs_ fun c_ cs_ => qS Cl.no c_ fun v_ => vI Cl.no .i64 v_ fun a4 => gC Cl.no cs_ fun c_ cs_ => qS Cl.no c_ fun v_ => vI Cl.no .i64 v_ fun a5 => gC Cl.no cs_ fun c_ cs_ => qSl Cl.no 238 c_ fun xs6 => gE Cl.no cs_ <| gE Cl.no ps_ <| { α := ByteArray × ByteArray × Int × Int × Int × (List S211), o := f140 k s1 s2 a3 a4 a5 xs6, w := f140.w, nat := fun x _ => f140.wn x }
def f140.e (k : Nat) : Entry env := ⟨fun ps => f140.hd k (coer [[.no, .no, .no, .no, .no, .rd 238]] ps), []⟩
def f140.X (k : Nat) : Ctx env := { C := lookE [(180, f180.e k)], L := lookE [], J := lookE [], keep := lookD [], keepX := lookD [], span := lookN [], eff := fun n => memN n [], prep := lookP [], np := 0 }
theorem f140.nat {R : Type} (k : Nat) (g : (ByteArray × ByteArray × Int × Int × Int × (List S211)) → Option R) (s1 : ByteArray) (s2 : ByteArray) (a3 : Int) (a4 : Int) (a5 : Int) (xs6 : List S238) : f140.step k g s1 s2 a3 a4 a5 xs6 = (f140 k s1 s2 a3 a4 a5 xs6).bind g := by
  simp only [f140, f140.step, bind_ite, bind_sum, Option.bind_assoc, Option.bind_some, Option.bind_none]
theorem f140.ev (k : Nat) (s1 : ByteArray) (s2 : ByteArray) (a3 : Int) (a4 : Int) (a5 : Int) (xs6 : List S238) : evF (f140.X k) (bodyOf Try.f140) Try.f140.ntmps Try.f140.results.toList [.g [.s (.string s1), .s (.string s2), .s (.int .i64 a3), .s (.int .i64 a4), .s (.int .i64 a5), .sl 238 xs6]] = f140.step k (fun x => f140.w x some) s1 s2 a3 a4 a5 xs6 := by kernel_rfl
theorem f140.hok (k : Nat) : HOK (f140.X k) (bodyOf Try.f140) where
  l := allP_mem (by exact trivial)
  j := allP_mem (by exact trivial)
theorem f140.sound0 (k : Nat) : SoundC env Try.prog 140 (f140.hd k) := by
  intro ps_
  show GoodC _ _ _ ps_ (f140.hd k ps_)
  unfold f140.hd
  refine gC_ok (p := GoodC env Try.prog 140 _) goodC_no fun _ _ h => ?_
  subst h
  refine qG_ok (p := GoodC env Try.prog 140 _) goodC_no fun _ h => ?_
  subst h
  refine gC_ok (p := GoodC env Try.prog 140 _) goodC_no fun _ _ h => ?_
  subst h
  refine qS_ok (p := GoodC env Try.prog 140 _) goodC_no fun _ h => ?_
  subst h
  refine vS_ok (p := GoodC env Try.prog 140 _) goodC_no fun _ h => ?_
  subst h
  refine gC_ok (p := GoodC env Try.prog 140 _) goodC_no fun _ _ h => ?_
  subst h
  refine qS_ok (p := GoodC env Try.prog 140 _) goodC_no fun _ h => ?_
  subst h
  refine vS_ok (p := GoodC env Try.prog 140 _) goodC_no fun _ h => ?_
  subst h
  refine gC_ok (p := GoodC env Try.prog 140 _) goodC_no fun _ _ h => ?_
  subst h
  refine qS_ok (p := GoodC env Try.prog 140 _) goodC_no fun _ h => ?_
  subst h
  refine vI_ok (p := GoodC env Try.prog 140 _) goodC_no fun _ h => ?_
  subst h
  refine gC_ok (p := GoodC env Try.prog 140 _) goodC_no fun _ _ h => ?_
  subst h
  refine qS_ok (p := GoodC env Try.prog 140 _) goodC_no fun _ h => ?_
  subst h
  refine vI_ok (p := GoodC env Try.prog 140 _) goodC_no fun _ h => ?_
  subst h
  refine gC_ok (p := GoodC env Try.prog 140 _) goodC_no fun _ _ h => ?_
  subst h
  refine qS_ok (p := GoodC env Try.prog 140 _) goodC_no fun _ h => ?_
  subst h
  refine vI_ok (p := GoodC env Try.prog 140 _) goodC_no fun _ h => ?_
  subst h
  refine gC_ok (p := GoodC env Try.prog 140 _) goodC_no fun _ _ h => ?_
  subst h
  refine qSl_ok (p := GoodC env Try.prog 140 _) goodC_no fun _ h => ?_
  subst h
  refine gE_ok (p := GoodC env Try.prog 140 _) goodC_no fun h => ?_
  subst h
  refine gE_ok (p := GoodC env Try.prog 140 _) goodC_no fun h => ?_
  subst h
  exact fun_good (fun_sound envOK (cs_sound _ (by exact ⟨⟨f180.sound k, f180.fnok⟩, trivial⟩)) (f140.hok k) Try.func140 rfl) ((f140.ev k _ _ _ _ _ _).trans (f140.nat k _ _ _ _ _ _ _))
theorem f140.sound (k : Nat) : SoundC env Try.prog 140 (f140.e k).F := soundC_coer (f140.sound0 k) [[.no, .no, .no, .no, .no, .rd 238]]
theorem f140.says (k : Nat) (s1 : ByteArray) (s2 : ByteArray) (a3 : Int) (a4 : Int) (a5 : Int) (xs6 : List S238) (t9 : ByteArray × ByteArray × Int × Int × Int × (List S211)) (h_ : f140 k s1 s2 a3 a4 a5 xs6 = some t9) : SoundAt env Try.prog 140 [.g [.s (.string s1), .s (.string s2), .s (.int .i64 a3), .s (.int .i64 a4), .s (.int .i64 a5), .sl 238 xs6]] ⟨.v (.g [.s (.string t9.1), .s (.string t9.2.1), .s (.int .i64 t9.2.2.1), .s (.int .i64 t9.2.2.2.1), .s (.int .i64 t9.2.2.2.2.1), .own true 211 t9.2.2.2.2.2]), [[]]⟩ :=
  fun_sound envOK (cs_sound _ (by exact ⟨⟨f180.sound k, f180.fnok⟩, trivial⟩)) (f140.hok k) Try.func140 rfl _ _ (((f140.ev k s1 s2 a3 a4 a5 xs6).trans (f140.nat k _ s1 s2 a3 a4 a5 xs6)).trans (by rw [h_]; rfl))
theorem f140.fnok : FnOK Try.prog 140 := fn_ok Try.func140 (by kernel_rfl) rfl
def f77.l3.step {R : Type} (k : Nat) (rec_ : (List S176) → Int → (List S104) → Option R) (ret : ((List S104)) → Option R) (xs2 : List S176) (a3 : Int) (xs4 : List S104) : Option R :=
  if (decide (a3 < (((List.length xs2) : Nat) : Int))) = true then
    if (0 : Int) ≤ a3 then
      if a3 < ((List.length xs2 : Nat) : Int) then
        (f140 k (List.getD xs2 (Int.toNat a3) (⟨ByteArray.empty, ByteArray.empty, (0 : Int), (0 : Int), (0 : Int), []⟩ : S176)).f0 (List.getD xs2 (Int.toNat a3) (⟨ByteArray.empty, ByteArray.empty, (0 : Int), (0 : Int), (0 : Int), []⟩ : S176)).f1 (List.getD xs2 (Int.toNat a3) (⟨ByteArray.empty, ByteArray.empty, (0 : Int), (0 : Int), (0 : Int), []⟩ : S176)).f2 (List.getD xs2 (Int.toNat a3) (⟨ByteArray.empty, ByteArray.empty, (0 : Int), (0 : Int), (0 : Int), []⟩ : S176)).f3 (List.getD xs2 (Int.toNat a3) (⟨ByteArray.empty, ByteArray.empty, (0 : Int), (0 : Int), (0 : Int), []⟩ : S176)).f4 (List.getD xs2 (Int.toNat a3) (⟨ByteArray.empty, ByteArray.empty, (0 : Int), (0 : Int), (0 : Int), []⟩ : S176)).f5).bind fun t5 => if (0 : Int) ≤ a3 then
            if a3 < ((List.length xs4 : Nat) : Int) then
              rec_ xs2 (IntKind.i64.wrap (a3 + (1 : Int))) (List.set xs4 (Int.toNat a3) (⟨t5.1, t5.2.1, t5.2.2.1, t5.2.2.2.1, t5.2.2.2.2.1, t5.2.2.2.2.2⟩ : S104))
            else none
          else none
      else none
    else none
  else
    ret xs4
def f77.l3 (k : Nat) : Nat → (List S176) → Int → (List S104) → Option ((List S104))
  | 0, _, _, _ => none
  | j + 1, xs2, a3, xs4 => f77.l3.step k (fun xs2 a3 xs4 => f77.l3 k j xs2 a3 xs4) some xs2 a3 xs4
def f77.l3.w {R : Type} : ((List S104)) → (Exit → St env → Option R) → Option R := fun t7 K => K (.exit 0) ⟨fullT [3] 0 23 [.v (.c (.row 49))], [(49, .row true 104 t7)], 353⟩
def f77.l3.st (xs2 : List S176) (a3 : Int) (xs4 : List S104) : St env := ⟨fullT [0, 3, 4] 0 23 [.v (.c (.imm 176 xs2)), .v (.c (.row 49)), .v (.c (.s (.int .i64 a3)))], [(49, .row true 104 xs4)], 97⟩
def f77.l3.hd (k : Nat) (ts_ : List (AV env)) (mm_ : Mem env) (n_ : Nat) : LCl env :=
  gTs LCl.no [0, 3, 4] 23 ts_ fun l_ => gV LCl.no l_ fun a_ l_ => rImm LCl.no 176 a_ fun xs2 => gV LCl.no l_ fun a_ l_ => rRow LCl.no 49 a_ <| gV LCl.no l_ fun a_ l_ => rV LCl.no a_ fun v_ => vI LCl.no .i64 v_ fun a3 => gE LCl.no l_ <| mRow LCl.no 49 true 104 mm_ fun xs4 m_ => gE LCl.no m_ <| gN LCl.no 97 n_ { α := (List S104), o := f77.l3 k k xs2 a3 xs4, w := f77.l3.w }
def f77.step {R : Type} (k : Nat) (ret : ((List S104)) → Option R) (xs1 : List S176) : Option R :=
  if (0 : Int) ≤ (((List.length xs1) : Nat) : Int) then
    if (Int.toNat (((List.length xs1) : Nat) : Int)) * 80 ≤ maxN then
      (f77.l3 k k xs1 (0 : Int) (List.replicate (Int.toNat (((List.length xs1) : Nat) : Int)) (⟨ByteArray.empty, ByteArray.empty, (0 : Int), (0 : Int), (0 : Int), []⟩ : S104))).bind fun t6 => ret t6
    else none
  else none
def f77 (k : Nat) (xs1 : List S176) : Option ((List S104)) := f77.step k some xs1
def f77.w {R : Type} : ((List S104)) → (Res env → Option R) → Option R := fun t8 K => K ⟨.v (.c (.own true 104 t8)), [[]]⟩
theorem f77.wn (x : ((List S104))) : ∃ res, ∀ {R : Type} (K : Res env → Option R), f77.w x K = K res := by
  exact ⟨_, fun _ => rfl⟩
def f77.hd (k : Nat) (ps_ : List (P2 env)) : Cl env :=
  gC Cl.no ps_ fun p_ ps_ => qC Cl.no p_ fun c_ => qSl Cl.no 176 c_ fun xs1 => gE Cl.no ps_ <| { α := (List S104), o := f77 k xs1, w := f77.w, nat := fun x _ => f77.wn x }
def f77.e (k : Nat) : Entry env := ⟨fun ps => f77.hd k (coer [[.rd 176]] ps), []⟩
def f77.X (k : Nat) : Ctx env := { C := lookE [(140, f140.e k)], L := lookE [(3, fun S => f77.l3.hd k S.ts S.m S.n)], J := lookE [], keep := lookD [(3, [0, 3, 4])], keepX := lookD [(3, [3])], span := lookN [(3, 256)], eff := fun n => memN n [], prep := lookP [], np := 0 }
theorem f77.l3.nat {R : Type} (k : Nat) (rec_ : (List S176) → Int → (List S104) → Option ((List S104))) (g : ((List S104)) → Option R) (xs2 : List S176) (a3 : Int) (xs4 : List S104) : (f77.l3.step k rec_ some xs2 a3 xs4).bind g = f77.l3.step k (fun xs2 a3 xs4 => (rec_ xs2 a3 xs4).bind g) g xs2 a3 xs4 := by
  simp only [f77.l3.step, bind_ite, bind_sum, Option.bind_assoc, Option.bind_some, Option.bind_none]
theorem f77.l3.good (k : Nat) (xs2 : List S176) (a3 : Int) (xs4 : List S104) : GoodL (f77.X k) (nthC 0 (loopsOf (bodyOf Try.f77))) (f77.l3.st xs2 a3 xs4) { α := ((List S104)), o := f77.l3 k k xs2 a3 xs4, w := f77.l3.w } :=
  loop_good (ι := (List S176) × Int × (List S104)) (α := ((List S104))) (fun i => f77.l3.st i.1 i.2.1 i.2.2) (fun j i => f77.l3 k j i.1 i.2.1 i.2.2) f77.l3.w (fun rec_ ret i => f77.l3.step k (fun xs2 a3 xs4 => rec_ (xs2, a3, xs4)) ret i.1 i.2.1 i.2.2)
    (fun _ => rfl) (fun _ _ => rfl) (fun rec_ g i => f77.l3.nat k _ g i.1 i.2.1 i.2.2) (fun {R} i0 i rec_ K => by kernel_rfl) k (xs2, a3, xs4)
theorem f77.l3.all (k : Nat) (S : St env) : GoodL (f77.X k) (nthC 0 (loopsOf (bodyOf Try.f77))) S (f77.l3.hd k S.ts S.m S.n) := by
  obtain ⟨ts_, m_, n_⟩ := S
  show GoodL _ _ _ (f77.l3.hd k ts_ m_ n_)
  unfold f77.l3.hd
  refine gTs_ok (p := GoodL _ _ _) goodL_no fun _ h => ?_
  subst h
  refine gV_ok (p := GoodL _ _ _) goodL_no fun _ _ h => ?_
  subst h
  refine rImm_ok (p := GoodL _ _ _) goodL_no fun _ h => ?_
  subst h
  refine gV_ok (p := GoodL _ _ _) goodL_no fun _ _ h => ?_
  subst h
  refine rRow_ok (p := GoodL _ _ _) goodL_no fun h => ?_
  subst h
  refine gV_ok (p := GoodL _ _ _) goodL_no fun _ _ h => ?_
  subst h
  refine rV_ok (p := GoodL _ _ _) goodL_no fun _ h => ?_
  subst h
  refine vI_ok (p := GoodL _ _ _) goodL_no fun _ h => ?_
  subst h
  refine gE_ok (p := GoodL _ _ _) goodL_no fun h => ?_
  subst h
  refine mRow_ok (p := GoodL _ _ _) goodL_no fun _ _ h => ?_
  subst h
  refine gE_ok (p := GoodL _ _ _) goodL_no fun h => ?_
  subst h
  refine gN_ok (p := GoodL _ _ _) goodL_no fun h => ?_
  subst h
  exact f77.l3.good k _ _ _
theorem f77.nat {R : Type} (k : Nat) (g : ((List S104)) → Option R) (xs1 : List S176) : f77.step k g xs1 = (f77 k xs1).bind g := by
  simp only [f77, f77.step, bind_ite, bind_sum, Option.bind_assoc, Option.bind_some, Option.bind_none]
theorem f77.ev (k : Nat) (xs1 : List S176) : evF (f77.X k) (bodyOf Try.f77) Try.f77.ntmps Try.f77.results.toList [.v (.c (.sl 176 xs1))] = f77.step k (fun x => f77.w x some) xs1 := by kernel_rfl
theorem f77.hok (k : Nat) : HOK (f77.X k) (bodyOf Try.f77) where
  l := allP_mem (by exact ⟨ls_of (h0 := fun S => f77.l3.hd k S.ts S.m S.n) (by kernel_rfl) (f77.l3.all k), trivial⟩)
  j := allP_mem (by exact trivial)
theorem f77.sound0 (k : Nat) : SoundC env Try.prog 77 (f77.hd k) := by
  intro ps_
  show GoodC _ _ _ ps_ (f77.hd k ps_)
  unfold f77.hd
  refine gC_ok (p := GoodC env Try.prog 77 _) goodC_no fun _ _ h => ?_
  subst h
  refine qC_ok (p := GoodC env Try.prog 77 _) goodC_no fun _ h => ?_
  subst h
  refine qSl_ok (p := GoodC env Try.prog 77 _) goodC_no fun _ h => ?_
  subst h
  refine gE_ok (p := GoodC env Try.prog 77 _) goodC_no fun h => ?_
  subst h
  exact fun_good (fun_sound envOK (cs_sound _ (by exact ⟨⟨f140.sound k, f140.fnok⟩, trivial⟩)) (f77.hok k) Try.func77 rfl) ((f77.ev k _).trans (f77.nat k _ _))
theorem f77.sound (k : Nat) : SoundC env Try.prog 77 (f77.e k).F := soundC_coer (f77.sound0 k) [[.rd 176]]
theorem f77.says (k : Nat) (xs1 : List S176) (t9 : (List S104)) (h_ : f77 k xs1 = some t9) : SoundAt env Try.prog 77 [.v (.c (.sl 176 xs1))] ⟨.v (.c (.own true 104 t9)), [[]]⟩ :=
  fun_sound envOK (cs_sound _ (by exact ⟨⟨f140.sound k, f140.fnok⟩, trivial⟩)) (f77.hok k) Try.func77 rfl _ _ (((f77.ev k xs1).trans (f77.nat k _ xs1)).trans (by rw [h_]; rfl))
theorem f77.fnok : FnOK Try.prog 77 := fn_ok Try.func77 (by kernel_rfl) rfl
def f86.step {R : Type} (k : Nat) (ret : Bool → Option R) (a1 : Int) (a2 : Int) (a3 : Int) : Option R :=
  if (decide (a1 ≥ a2)) = true then
    ret (decide (a1 ≤ a3))
  else
    ret false
def f86 (k : Nat) (a1 : Int) (a2 : Int) (a3 : Int) : Option Bool := f86.step k some a1 a2 a3
def f86.w {R : Type} : Bool → (Res env → Option R) → Option R := fun t4 K => K ⟨.v (.c (.s (.bool t4))), [[], [], []]⟩
theorem f86.wn (x : Bool) : ∃ res, ∀ {R : Type} (K : Res env → Option R), f86.w x K = K res := by
  exact ⟨_, fun _ => rfl⟩
def f86.hd (k : Nat) (ps_ : List (P2 env)) : Cl env :=
  gC Cl.no ps_ fun p_ ps_ => qC Cl.no p_ fun c_ => qS Cl.no c_ fun v_ => vI Cl.no .i64 v_ fun a1 => gC Cl.no ps_ fun p_ ps_ => qC Cl.no p_ fun c_ => qS Cl.no c_ fun v_ => vI Cl.no .i64 v_ fun a2 => gC Cl.no ps_ fun p_ ps_ => qC Cl.no p_ fun c_ => qS Cl.no c_ fun v_ => vI Cl.no .i64 v_ fun a3 => gE Cl.no ps_ <| { α := Bool, o := f86 k a1 a2 a3, w := f86.w, nat := fun x _ => f86.wn x }
def f86.e (k : Nat) : Entry env := ⟨f86.hd k, []⟩
def f86.X (k : Nat) : Ctx env := { C := lookE [], L := lookE [], J := lookE [], keep := lookD [], keepX := lookD [], span := lookN [], eff := fun n => memN n [], prep := lookP [], np := 0 }
theorem f86.nat {R : Type} (k : Nat) (g : Bool → Option R) (a1 : Int) (a2 : Int) (a3 : Int) : f86.step k g a1 a2 a3 = (f86 k a1 a2 a3).bind g := by
  simp only [f86, f86.step, bind_ite, bind_sum, Option.bind_assoc, Option.bind_some, Option.bind_none]
theorem f86.ev (k : Nat) (a1 : Int) (a2 : Int) (a3 : Int) : evF (f86.X k) (bodyOf Try.f86) Try.f86.ntmps Try.f86.results.toList [.v (.c (.s (.int .i64 a1))), .v (.c (.s (.int .i64 a2))), .v (.c (.s (.int .i64 a3)))] = f86.step k (fun x => f86.w x some) a1 a2 a3 := by kernel_rfl
theorem f86.hok (k : Nat) : HOK (f86.X k) (bodyOf Try.f86) where
  l := allP_mem (by exact trivial)
  j := allP_mem (by exact trivial)
theorem f86.sound (k : Nat) : SoundC env Try.prog 86 ((f86.e k).F) := by
  intro ps_
  show GoodC _ _ _ ps_ (f86.hd k ps_)
  unfold f86.hd
  refine gC_ok (p := GoodC env Try.prog 86 _) goodC_no fun _ _ h => ?_
  subst h
  refine qC_ok (p := GoodC env Try.prog 86 _) goodC_no fun _ h => ?_
  subst h
  refine qS_ok (p := GoodC env Try.prog 86 _) goodC_no fun _ h => ?_
  subst h
  refine vI_ok (p := GoodC env Try.prog 86 _) goodC_no fun _ h => ?_
  subst h
  refine gC_ok (p := GoodC env Try.prog 86 _) goodC_no fun _ _ h => ?_
  subst h
  refine qC_ok (p := GoodC env Try.prog 86 _) goodC_no fun _ h => ?_
  subst h
  refine qS_ok (p := GoodC env Try.prog 86 _) goodC_no fun _ h => ?_
  subst h
  refine vI_ok (p := GoodC env Try.prog 86 _) goodC_no fun _ h => ?_
  subst h
  refine gC_ok (p := GoodC env Try.prog 86 _) goodC_no fun _ _ h => ?_
  subst h
  refine qC_ok (p := GoodC env Try.prog 86 _) goodC_no fun _ h => ?_
  subst h
  refine qS_ok (p := GoodC env Try.prog 86 _) goodC_no fun _ h => ?_
  subst h
  refine vI_ok (p := GoodC env Try.prog 86 _) goodC_no fun _ h => ?_
  subst h
  refine gE_ok (p := GoodC env Try.prog 86 _) goodC_no fun h => ?_
  subst h
  exact fun_good (fun_sound envOK (cs_sound _ (by exact trivial)) (f86.hok k) Try.func86 rfl) ((f86.ev k _ _ _).trans (f86.nat k _ _ _ _))
theorem f86.says (k : Nat) (a1 : Int) (a2 : Int) (a3 : Int) (t5 : Bool) (h_ : f86 k a1 a2 a3 = some t5) : SoundAt env Try.prog 86 [.v (.c (.s (.int .i64 a1))), .v (.c (.s (.int .i64 a2))), .v (.c (.s (.int .i64 a3)))] ⟨.v (.c (.s (.bool t5))), [[], [], []]⟩ :=
  fun_sound envOK (cs_sound _ (by exact trivial)) (f86.hok k) Try.func86 rfl _ _ (((f86.ev k a1 a2 a3).trans (f86.nat k _ a1 a2 a3)).trans (by rw [h_]; rfl))
theorem f86.fnok : FnOK Try.prog 86 := fn_ok Try.func86 (by kernel_rfl) rfl
def f177.l2.step {R : Type} (k : Nat) (rec_ : (List S104) → Int → ByteArray → ByteArray → Int → Int → Int → (List S211) → Option R) (ret : (Int ⊕ (Unit)) → Option R) (xs8 : List S104) (a9 : Int) (s10 : ByteArray) (s11 : ByteArray) (a12 : Int) (a13 : Int) (a14 : Int) (xs15 : List S211) : Option R :=
  if (decide (a9 < (((List.length xs8) : Nat) : Int))) = true then
    if (0 : Int) ≤ a9 then
      if a9 < ((List.length xs8 : Nat) : Int) then
        if (decide (ByteArray.toList (List.getD xs8 (Int.toNat a9) (⟨ByteArray.empty, ByteArray.empty, (0 : Int), (0 : Int), (0 : Int), []⟩ : S104)).f0 = ByteArray.toList s10)) = true then
          if (0 : Int) ≤ a9 then
            if a9 < ((List.length xs8 : Nat) : Int) then
              if (decide (ByteArray.toList (List.getD xs8 (Int.toNat a9) (⟨ByteArray.empty, ByteArray.empty, (0 : Int), (0 : Int), (0 : Int), []⟩ : S104)).f1 = ByteArray.toList s11)) = true then
                if (0 : Int) ≤ a9 then
                  if a9 < ((List.length xs8 : Nat) : Int) then
                    if (decide ((List.getD xs8 (Int.toNat a9) (⟨ByteArray.empty, ByteArray.empty, (0 : Int), (0 : Int), (0 : Int), []⟩ : S104)).f2 = a12)) = true then
                      if (0 : Int) ≤ a9 then
                        if a9 < ((List.length xs8 : Nat) : Int) then
                          if (decide ((List.getD xs8 (Int.toNat a9) (⟨ByteArray.empty, ByteArray.empty, (0 : Int), (0 : Int), (0 : Int), []⟩ : S104)).f3 = a13)) = true then
                            ret (.inl a9)
                          else
                            rec_ xs8 (IntKind.i64.wrap (a9 + (1 : Int))) s10 s11 a12 a13 a14 xs15
                        else none
                      else none
                    else
                      rec_ xs8 (IntKind.i64.wrap (a9 + (1 : Int))) s10 s11 a12 a13 a14 xs15
                  else none
                else none
              else
                rec_ xs8 (IntKind.i64.wrap (a9 + (1 : Int))) s10 s11 a12 a13 a14 xs15
            else none
          else none
        else
          rec_ xs8 (IntKind.i64.wrap (a9 + (1 : Int))) s10 s11 a12 a13 a14 xs15
      else none
    else none
  else
    ret (.inr ())
def f177.l2 (k : Nat) : Nat → (List S104) → Int → ByteArray → ByteArray → Int → Int → Int → (List S211) → Option (Int ⊕ (Unit))
  | 0, _, _, _, _, _, _, _, _ => none
  | j + 1, xs8, a9, s10, s11, a12, a13, a14, xs15 => f177.l2.step k (fun xs8 a9 s10 s11 a12 a13 a14 xs15 => f177.l2 k j xs8 a9 s10 s11 a12 a13 a14 xs15) some xs8 a9 s10 s11 a12 a13 a14 xs15
def f177.l2.w {R : Type} : (Int ⊕ (Unit)) → (Exit → St env → Option R) → Option R := fun x K => Sum.elim (fun t18 => K .ret ⟨fullT [4] 0 51 [.v (.c (.s (.int .i64 t18)))], [], 802⟩) (fun t19 => K (.exit 0) ⟨fullT [] 0 51 [], [], 802⟩) x
def f177.l2.st (xs8 : List S104) (a9 : Int) (s10 : ByteArray) (s11 : ByteArray) (a12 : Int) (a13 : Int) (a14 : Int) (xs15 : List S211) : St env := ⟨fullT [0, 3, 5] 0 51 [.v (.c (.imm 104 xs8)), .v (.c (.bp 2 0)), .v (.c (.s (.int .i64 a9)))], [(2, .box [.s (.string s10), .s (.string s11), .s (.int .i64 a12), .s (.int .i64 a13), .s (.int .i64 a14), .imm 211 xs15])], 50⟩
def f177.l2.hd (k : Nat) (ts_ : List (AV env)) (mm_ : Mem env) (n_ : Nat) : LCl env :=
  gTs LCl.no [0, 3, 5] 51 ts_ fun l_ => gV LCl.no l_ fun a_ l_ => rImm LCl.no 104 a_ fun xs8 => gV LCl.no l_ fun a_ l_ => rBp LCl.no 2 0 a_ <| gV LCl.no l_ fun a_ l_ => rV LCl.no a_ fun v_ => vI LCl.no .i64 v_ fun a9 => gE LCl.no l_ <| mBox LCl.no 2 mm_ fun c_ m_ => gC LCl.no c_ fun a_ c_ => rV LCl.no a_ fun v_ => vS LCl.no v_ fun s10 => gC LCl.no c_ fun a_ c_ => rV LCl.no a_ fun v_ => vS LCl.no v_ fun s11 => gC LCl.no c_ fun a_ c_ => rV LCl.no a_ fun v_ => vI LCl.no .i64 v_ fun a12 => gC LCl.no c_ fun a_ c_ => rV LCl.no a_ fun v_ => vI LCl.no .i64 v_ fun a13 => gC LCl.no c_ fun a_ c_ => rV LCl.no a_ fun v_ => vI LCl.no .i64 v_ fun a14 => gC LCl.no c_ fun a_ c_ => rImm LCl.no 211 a_ fun xs15 => gE LCl.no c_ <| gE LCl.no m_ <| gN LCl.no 50 n_ { α := Int ⊕ (Unit), o := f177.l2 k k xs8 a9 s10 s11 a12 a13 a14 xs15, w := f177.l2.w }
def f177.step {R : Type} (k : Nat) (ret : Int → Option R) (xs1 : List S104) (s2 : ByteArray) (s3 : ByteArray) (a4 : Int) (a5 : Int) (a6 : Int) (xs7 : List S211) : Option R :=
  (f177.l2 k k xs1 (0 : Int) s2 s3 a4 a5 a6 xs7).bind (Sum.elim (fun t16 => ret t16) (fun t17 => ret (-1 : Int)))
def f177 (k : Nat) (xs1 : List S104) (s2 : ByteArray) (s3 : ByteArray) (a4 : Int) (a5 : Int) (a6 : Int) (xs7 : List S211) : Option Int := f177.step k some xs1 s2 s3 a4 a5 a6 xs7
def f177.w {R : Type} : Int → (Res env → Option R) → Option R := fun t20 K => K ⟨.v (.c (.s (.int .i64 t20))), [[], []]⟩
theorem f177.wn (x : Int) : ∃ res, ∀ {R : Type} (K : Res env → Option R), f177.w x K = K res := by
  exact ⟨_, fun _ => rfl⟩
def f177.hd (k : Nat) (ps_ : List (P2 env)) : Cl env :=
  gC Cl.no ps_ fun p_ ps_ => qC Cl.no p_ fun c_ => qSl Cl.no 104 c_ fun xs1 => gC Cl.no ps_ fun p_ ps_ => qG Cl.no p_ fun cs_ => gC Cl.no cs_ fun c_ cs_ => qS Cl.no c_ fun v_ => vS Cl.no v_ fun s2 => gC Cl.no cs_ fun c_ cs_ => qS Cl.no c_ fun v_ => vS Cl.no v_ fun s3 => gC Cl.no cs_ fun c_ cs_ => qS Cl.no c_ fun v_ => vI Cl.no .i64 v_ fun a4 => gC Cl.no cs_ fun c_ cs_ => qS Cl.no c_ fun v_ => vI Cl.no .i64 v_ fun a5 => gC Cl.no cs_ fun c_ cs_ => qS Cl.no c_ fun v_ => vI Cl.no .i64 v_ fun a6 => gC Cl.no cs_ fun c_ cs_ => qSl Cl.no 211 c_ fun xs7 => gE Cl.no cs_ <| gE Cl.no ps_ <| { α := Int, o := f177 k xs1 s2 s3 a4 a5 a6 xs7, w := f177.w, nat := fun x _ => f177.wn x }
def f177.e (k : Nat) : Entry env := ⟨fun ps => f177.hd k (coer [[.rd 104], [.no, .no, .no, .no, .no, .rd 211]] ps), []⟩
def f177.X (k : Nat) : Ctx env := { C := lookE [], L := lookE [(2, fun S => f177.l2.hd k S.ts S.m S.n)], J := lookE [], keep := lookD [(2, [0, 3, 5])], keepX := lookD [(2, [4])], span := lookN [(2, 752)], eff := fun n => memN n [], prep := lookP [], np := 0 }
theorem f177.l2.nat {R : Type} (k : Nat) (rec_ : (List S104) → Int → ByteArray → ByteArray → Int → Int → Int → (List S211) → Option (Int ⊕ (Unit))) (g : (Int ⊕ (Unit)) → Option R) (xs8 : List S104) (a9 : Int) (s10 : ByteArray) (s11 : ByteArray) (a12 : Int) (a13 : Int) (a14 : Int) (xs15 : List S211) : (f177.l2.step k rec_ some xs8 a9 s10 s11 a12 a13 a14 xs15).bind g = f177.l2.step k (fun xs8 a9 s10 s11 a12 a13 a14 xs15 => (rec_ xs8 a9 s10 s11 a12 a13 a14 xs15).bind g) g xs8 a9 s10 s11 a12 a13 a14 xs15 := by
  simp only [f177.l2.step, bind_ite, bind_sum, Option.bind_assoc, Option.bind_some, Option.bind_none]
theorem f177.l2.good (k : Nat) (xs8 : List S104) (a9 : Int) (s10 : ByteArray) (s11 : ByteArray) (a12 : Int) (a13 : Int) (a14 : Int) (xs15 : List S211) : GoodL (f177.X k) (nthC 0 (loopsOf (bodyOf Try.f177))) (f177.l2.st xs8 a9 s10 s11 a12 a13 a14 xs15) { α := (Int ⊕ (Unit)), o := f177.l2 k k xs8 a9 s10 s11 a12 a13 a14 xs15, w := f177.l2.w } :=
  loop_good (ι := (List S104) × Int × ByteArray × ByteArray × Int × Int × Int × (List S211)) (α := (Int ⊕ (Unit))) (fun i => f177.l2.st i.1 i.2.1 i.2.2.1 i.2.2.2.1 i.2.2.2.2.1 i.2.2.2.2.2.1 i.2.2.2.2.2.2.1 i.2.2.2.2.2.2.2) (fun j i => f177.l2 k j i.1 i.2.1 i.2.2.1 i.2.2.2.1 i.2.2.2.2.1 i.2.2.2.2.2.1 i.2.2.2.2.2.2.1 i.2.2.2.2.2.2.2) f177.l2.w (fun rec_ ret i => f177.l2.step k (fun xs8 a9 s10 s11 a12 a13 a14 xs15 => rec_ (xs8, a9, s10, s11, a12, a13, a14, xs15)) ret i.1 i.2.1 i.2.2.1 i.2.2.2.1 i.2.2.2.2.1 i.2.2.2.2.2.1 i.2.2.2.2.2.2.1 i.2.2.2.2.2.2.2)
    (fun _ => rfl) (fun _ _ => rfl) (fun rec_ g i => f177.l2.nat k _ g i.1 i.2.1 i.2.2.1 i.2.2.2.1 i.2.2.2.2.1 i.2.2.2.2.2.1 i.2.2.2.2.2.2.1 i.2.2.2.2.2.2.2) (fun {R} i0 i rec_ K => by kernel_rfl) k (xs8, a9, s10, s11, a12, a13, a14, xs15)
theorem f177.l2.all (k : Nat) (S : St env) : GoodL (f177.X k) (nthC 0 (loopsOf (bodyOf Try.f177))) S (f177.l2.hd k S.ts S.m S.n) := by
  obtain ⟨ts_, m_, n_⟩ := S
  show GoodL _ _ _ (f177.l2.hd k ts_ m_ n_)
  unfold f177.l2.hd
  refine gTs_ok (p := GoodL _ _ _) goodL_no fun _ h => ?_
  subst h
  refine gV_ok (p := GoodL _ _ _) goodL_no fun _ _ h => ?_
  subst h
  refine rImm_ok (p := GoodL _ _ _) goodL_no fun _ h => ?_
  subst h
  refine gV_ok (p := GoodL _ _ _) goodL_no fun _ _ h => ?_
  subst h
  refine rBp_ok (p := GoodL _ _ _) goodL_no fun h => ?_
  subst h
  refine gV_ok (p := GoodL _ _ _) goodL_no fun _ _ h => ?_
  subst h
  refine rV_ok (p := GoodL _ _ _) goodL_no fun _ h => ?_
  subst h
  refine vI_ok (p := GoodL _ _ _) goodL_no fun _ h => ?_
  subst h
  refine gE_ok (p := GoodL _ _ _) goodL_no fun h => ?_
  subst h
  refine mBox_ok (p := GoodL _ _ _) goodL_no fun _ _ h => ?_
  subst h
  refine gC_ok (p := GoodL _ _ _) goodL_no fun _ _ h => ?_
  subst h
  refine rV_ok (p := GoodL _ _ _) goodL_no fun _ h => ?_
  subst h
  refine vS_ok (p := GoodL _ _ _) goodL_no fun _ h => ?_
  subst h
  refine gC_ok (p := GoodL _ _ _) goodL_no fun _ _ h => ?_
  subst h
  refine rV_ok (p := GoodL _ _ _) goodL_no fun _ h => ?_
  subst h
  refine vS_ok (p := GoodL _ _ _) goodL_no fun _ h => ?_
  subst h
  refine gC_ok (p := GoodL _ _ _) goodL_no fun _ _ h => ?_
  subst h
  refine rV_ok (p := GoodL _ _ _) goodL_no fun _ h => ?_
  subst h
  refine vI_ok (p := GoodL _ _ _) goodL_no fun _ h => ?_
  subst h
  refine gC_ok (p := GoodL _ _ _) goodL_no fun _ _ h => ?_
  subst h
  refine rV_ok (p := GoodL _ _ _) goodL_no fun _ h => ?_
  subst h
  refine vI_ok (p := GoodL _ _ _) goodL_no fun _ h => ?_
  subst h
  refine gC_ok (p := GoodL _ _ _) goodL_no fun _ _ h => ?_
  subst h
  refine rV_ok (p := GoodL _ _ _) goodL_no fun _ h => ?_
  subst h
  refine vI_ok (p := GoodL _ _ _) goodL_no fun _ h => ?_
  subst h
  refine gC_ok (p := GoodL _ _ _) goodL_no fun _ _ h => ?_
  subst h
  refine rImm_ok (p := GoodL _ _ _) goodL_no fun _ h => ?_
  subst h
  refine gE_ok (p := GoodL _ _ _) goodL_no fun h => ?_
  subst h
  refine gE_ok (p := GoodL _ _ _) goodL_no fun h => ?_
  subst h
  refine gN_ok (p := GoodL _ _ _) goodL_no fun h => ?_
  subst h
  exact f177.l2.good k _ _ _ _ _ _ _ _
theorem f177.nat {R : Type} (k : Nat) (g : Int → Option R) (xs1 : List S104) (s2 : ByteArray) (s3 : ByteArray) (a4 : Int) (a5 : Int) (a6 : Int) (xs7 : List S211) : f177.step k g xs1 s2 s3 a4 a5 a6 xs7 = (f177 k xs1 s2 s3 a4 a5 a6 xs7).bind g := by
  simp only [f177, f177.step, bind_ite, bind_sum, Option.bind_assoc, Option.bind_some, Option.bind_none]
theorem f177.ev (k : Nat) (xs1 : List S104) (s2 : ByteArray) (s3 : ByteArray) (a4 : Int) (a5 : Int) (a6 : Int) (xs7 : List S211) : evF (f177.X k) (bodyOf Try.f177) Try.f177.ntmps Try.f177.results.toList [.v (.c (.sl 104 xs1)), .g [.s (.string s2), .s (.string s3), .s (.int .i64 a4), .s (.int .i64 a5), .s (.int .i64 a6), .sl 211 xs7]] = f177.step k (fun x => f177.w x some) xs1 s2 s3 a4 a5 a6 xs7 := by kernel_rfl
theorem f177.hok (k : Nat) : HOK (f177.X k) (bodyOf Try.f177) where
  l := allP_mem (by exact ⟨ls_of (h0 := fun S => f177.l2.hd k S.ts S.m S.n) (by kernel_rfl) (f177.l2.all k), trivial⟩)
  j := allP_mem (by exact trivial)
theorem f177.sound0 (k : Nat) : SoundC env Try.prog 177 (f177.hd k) := by
  intro ps_
  show GoodC _ _ _ ps_ (f177.hd k ps_)
  unfold f177.hd
  refine gC_ok (p := GoodC env Try.prog 177 _) goodC_no fun _ _ h => ?_
  subst h
  refine qC_ok (p := GoodC env Try.prog 177 _) goodC_no fun _ h => ?_
  subst h
  refine qSl_ok (p := GoodC env Try.prog 177 _) goodC_no fun _ h => ?_
  subst h
  refine gC_ok (p := GoodC env Try.prog 177 _) goodC_no fun _ _ h => ?_
  subst h
  refine qG_ok (p := GoodC env Try.prog 177 _) goodC_no fun _ h => ?_
  subst h
  refine gC_ok (p := GoodC env Try.prog 177 _) goodC_no fun _ _ h => ?_
  subst h
  refine qS_ok (p := GoodC env Try.prog 177 _) goodC_no fun _ h => ?_
  subst h
  refine vS_ok (p := GoodC env Try.prog 177 _) goodC_no fun _ h => ?_
  subst h
  refine gC_ok (p := GoodC env Try.prog 177 _) goodC_no fun _ _ h => ?_
  subst h
  refine qS_ok (p := GoodC env Try.prog 177 _) goodC_no fun _ h => ?_
  subst h
  refine vS_ok (p := GoodC env Try.prog 177 _) goodC_no fun _ h => ?_
  subst h
  refine gC_ok (p := GoodC env Try.prog 177 _) goodC_no fun _ _ h => ?_
  subst h
  refine qS_ok (p := GoodC env Try.prog 177 _) goodC_no fun _ h => ?_
  subst h
  refine vI_ok (p := GoodC env Try.prog 177 _) goodC_no fun _ h => ?_
  subst h
  refine gC_ok (p := GoodC env Try.prog 177 _) goodC_no fun _ _ h => ?_
  subst h
  refine qS_ok (p := GoodC env Try.prog 177 _) goodC_no fun _ h => ?_
  subst h
  refine vI_ok (p := GoodC env Try.prog 177 _) goodC_no fun _ h => ?_
  subst h
  refine gC_ok (p := GoodC env Try.prog 177 _) goodC_no fun _ _ h => ?_
  subst h
  refine qS_ok (p := GoodC env Try.prog 177 _) goodC_no fun _ h => ?_
  subst h
  refine vI_ok (p := GoodC env Try.prog 177 _) goodC_no fun _ h => ?_
  subst h
  refine gC_ok (p := GoodC env Try.prog 177 _) goodC_no fun _ _ h => ?_
  subst h
  refine qSl_ok (p := GoodC env Try.prog 177 _) goodC_no fun _ h => ?_
  subst h
  refine gE_ok (p := GoodC env Try.prog 177 _) goodC_no fun h => ?_
  subst h
  refine gE_ok (p := GoodC env Try.prog 177 _) goodC_no fun h => ?_
  subst h
  exact fun_good (fun_sound envOK (cs_sound _ (by exact trivial)) (f177.hok k) Try.func177 rfl) ((f177.ev k _ _ _ _ _ _ _).trans (f177.nat k _ _ _ _ _ _ _ _))
theorem f177.sound (k : Nat) : SoundC env Try.prog 177 (f177.e k).F := soundC_coer (f177.sound0 k) [[.rd 104], [.no, .no, .no, .no, .no, .rd 211]]
theorem f177.says (k : Nat) (xs1 : List S104) (s2 : ByteArray) (s3 : ByteArray) (a4 : Int) (a5 : Int) (a6 : Int) (xs7 : List S211) (t21 : Int) (h_ : f177 k xs1 s2 s3 a4 a5 a6 xs7 = some t21) : SoundAt env Try.prog 177 [.v (.c (.sl 104 xs1)), .g [.s (.string s2), .s (.string s3), .s (.int .i64 a4), .s (.int .i64 a5), .s (.int .i64 a6), .sl 211 xs7]] ⟨.v (.c (.s (.int .i64 t21))), [[], []]⟩ :=
  fun_sound envOK (cs_sound _ (by exact trivial)) (f177.hok k) Try.func177 rfl _ _ (((f177.ev k xs1 s2 s3 a4 a5 a6 xs7).trans (f177.nat k _ xs1 s2 s3 a4 a5 a6 xs7)).trans (by rw [h_]; rfl))
theorem f177.fnok : FnOK Try.prog 177 := fn_ok Try.func177 (by kernel_rfl) rfl
def f178.l3.step {R : Type} (k : Nat) (rec_ : Int → Int → ByteArray → ByteArray → Int → Int → Int → (List S211) → Option R) (ret : ((Bool × ByteArray × ByteArray × Int × Int × Int × (List S211)) ⊕ (ByteArray × ByteArray × Int × Int × Int × (List S211))) → Option R) (a7 : Int) (a8 : Int) (s9 : ByteArray) (s10 : ByteArray) (a11 : Int) (a12 : Int) (a13 : Int) (xs14 : List S211) : Option R :=
  if (decide (a8 < (((List.length xs14) : Nat) : Int))) = true then
    if (0 : Int) ≤ a8 then
      if a8 < ((List.length xs14 : Nat) : Int) then
        if (decide ((List.getD xs14 (Int.toNat a8) (⟨(0 : Int), false, []⟩ : S211)).f0 ≠ a7)) = true then
          ret (.inl (false, s9, s10, a11, a12, a13, xs14))
        else
          if (0 : Int) ≤ a8 then
            if a8 < ((List.length xs14 : Nat) : Int) then
              rec_ (IntKind.i64.wrap (a7 + (((List.length (List.getD xs14 (Int.toNat a8) (⟨(0 : Int), false, []⟩ : S211)).f2) : Nat) : Int))) (IntKind.i64.wrap (a8 + (1 : Int))) s9 s10 a11 a12 a13 xs14
            else none
          else none
      else none
    else none
  else
    ret (.inr (s9, s10, a11, a12, a13, xs14))
def f178.l3 (k : Nat) : Nat → Int → Int → ByteArray → ByteArray → Int → Int → Int → (List S211) → Option ((Bool × ByteArray × ByteArray × Int × Int × Int × (List S211)) ⊕ (ByteArray × ByteArray × Int × Int × Int × (List S211)))
  | 0, _, _, _, _, _, _, _, _ => none
  | j + 1, a7, a8, s9, s10, a11, a12, a13, xs14 => f178.l3.step k (fun a7 a8 s9 s10 a11 a12 a13 xs14 => f178.l3 k j a7 a8 s9 s10 a11 a12 a13 xs14) some a7 a8 s9 s10 a11 a12 a13 xs14
def f178.l3.w {R : Type} : ((Bool × ByteArray × ByteArray × Int × Int × Int × (List S211)) ⊕ (ByteArray × ByteArray × Int × Int × Int × (List S211))) → (Exit → St env → Option R) → Option R := fun x K => Sum.elim (fun t17 => K .ret ⟨fullT [1, 2] 0 38 [.v (.c (.bp 1 0)), .v (.c (.s (.bool t17.1)))], [(1, .box [.s (.string t17.2.1), .s (.string t17.2.2.1), .s (.int .i64 t17.2.2.2.1), .s (.int .i64 t17.2.2.2.2.1), .s (.int .i64 t17.2.2.2.2.2.1), .imm 211 t17.2.2.2.2.2.2])], 497⟩) (fun t18 => K (.exit 0) ⟨fullT [1] 0 38 [.v (.c (.bp 1 0))], [(1, .box [.s (.string t18.1), .s (.string t18.2.1), .s (.int .i64 t18.2.2.1), .s (.int .i64 t18.2.2.2.1), .s (.int .i64 t18.2.2.2.2.1), .imm 211 t18.2.2.2.2.2])], 497⟩) x
def f178.l3.st (a7 : Int) (a8 : Int) (s9 : ByteArray) (s10 : ByteArray) (a11 : Int) (a12 : Int) (a13 : Int) (xs14 : List S211) : St env := ⟨fullT [1, 3, 4] 0 38 [.v (.c (.bp 1 0)), .v (.c (.s (.int .i64 a7))), .v (.c (.s (.int .i64 a8)))], [(1, .box [.s (.string s9), .s (.string s10), .s (.int .i64 a11), .s (.int .i64 a12), .s (.int .i64 a13), .imm 211 xs14])], 65⟩
def f178.l3.hd (k : Nat) (ts_ : List (AV env)) (mm_ : Mem env) (n_ : Nat) : LCl env :=
  gTs LCl.no [1, 3, 4] 38 ts_ fun l_ => gV LCl.no l_ fun a_ l_ => rBp LCl.no 1 0 a_ <| gV LCl.no l_ fun a_ l_ => rV LCl.no a_ fun v_ => vI LCl.no .i64 v_ fun a7 => gV LCl.no l_ fun a_ l_ => rV LCl.no a_ fun v_ => vI LCl.no .i64 v_ fun a8 => gE LCl.no l_ <| mBox LCl.no 1 mm_ fun c_ m_ => gC LCl.no c_ fun a_ c_ => rV LCl.no a_ fun v_ => vS LCl.no v_ fun s9 => gC LCl.no c_ fun a_ c_ => rV LCl.no a_ fun v_ => vS LCl.no v_ fun s10 => gC LCl.no c_ fun a_ c_ => rV LCl.no a_ fun v_ => vI LCl.no .i64 v_ fun a11 => gC LCl.no c_ fun a_ c_ => rV LCl.no a_ fun v_ => vI LCl.no .i64 v_ fun a12 => gC LCl.no c_ fun a_ c_ => rV LCl.no a_ fun v_ => vI LCl.no .i64 v_ fun a13 => gC LCl.no c_ fun a_ c_ => rImm LCl.no 211 a_ fun xs14 => gE LCl.no c_ <| gE LCl.no m_ <| gN LCl.no 65 n_ { α := (Bool × ByteArray × ByteArray × Int × Int × Int × (List S211)) ⊕ (ByteArray × ByteArray × Int × Int × Int × (List S211)), o := f178.l3 k k a7 a8 s9 s10 a11 a12 a13 xs14, w := f178.l3.w }
def f178.step {R : Type} (k : Nat) (ret : Bool → Option R) (s1 : ByteArray) (s2 : ByteArray) (a3 : Int) (a4 : Int) (a5 : Int) (xs6 : List S211) : Option R :=
  (f178.l3 k k (0 : Int) (0 : Int) s1 s2 a3 a4 a5 xs6).bind (Sum.elim (fun t15 => ret t15.1) (fun t16 => if (0 : Int) ≤ (IntKind.i64.wrap ((((List.length t16.2.2.2.2.2) : Nat) : Int) - (1 : Int))) then
      if (IntKind.i64.wrap ((((List.length t16.2.2.2.2.2) : Nat) : Int) - (1 : Int))) < ((List.length t16.2.2.2.2.2 : Nat) : Int) then
        ret (List.getD t16.2.2.2.2.2 (Int.toNat (IntKind.i64.wrap ((((List.length t16.2.2.2.2.2) : Nat) : Int) - (1 : Int)))) (⟨(0 : Int), false, []⟩ : S211)).f1
      else none
    else none))
def f178 (k : Nat) (s1 : ByteArray) (s2 : ByteArray) (a3 : Int) (a4 : Int) (a5 : Int) (xs6 : List S211) : Option Bool := f178.step k some s1 s2 a3 a4 a5 xs6
def f178.w {R : Type} : Bool → (Res env → Option R) → Option R := fun t19 K => K ⟨.v (.c (.s (.bool t19))), [[]]⟩
theorem f178.wn (x : Bool) : ∃ res, ∀ {R : Type} (K : Res env → Option R), f178.w x K = K res := by
  exact ⟨_, fun _ => rfl⟩
def f178.hd (k : Nat) (ps_ : List (P2 env)) : Cl env :=
  gC Cl.no ps_ fun p_ ps_ => qG Cl.no p_ fun cs_ => gC Cl.no cs_ fun c_ cs_ => qS Cl.no c_ fun v_ => vS Cl.no v_ fun s1 => gC Cl.no cs_ fun c_ cs_ => qS Cl.no c_ fun v_ => vS Cl.no v_ fun s2 => gC Cl.no cs_ fun c_ cs_ => qS Cl.no c_ fun v_ => vI Cl.no .i64 v_ fun a3 => gC Cl.no cs_ fun c_ cs_ => qS Cl.no c_ fun v_ => vI Cl.no .i64 v_ fun a4 => gC Cl.no cs_ fun c_ cs_ => qS Cl.no c_ fun v_ => vI Cl.no .i64 v_ fun a5 => gC Cl.no cs_ fun c_ cs_ => qSl Cl.no 211 c_ fun xs6 => gE Cl.no cs_ <| gE Cl.no ps_ <| { α := Bool, o := f178 k s1 s2 a3 a4 a5 xs6, w := f178.w, nat := fun x _ => f178.wn x }
def f178.e (k : Nat) : Entry env := ⟨fun ps => f178.hd k (coer [[.no, .no, .no, .no, .no, .rd 211]] ps), []⟩
def f178.X (k : Nat) : Ctx env := { C := lookE [], L := lookE [(3, fun S => f178.l3.hd k S.ts S.m S.n)], J := lookE [], keep := lookD [(3, [1, 3, 4])], keepX := lookD [(3, [1, 2])], span := lookN [(3, 432)], eff := fun n => memN n [], prep := lookP [], np := 0 }
theorem f178.l3.nat {R : Type} (k : Nat) (rec_ : Int → Int → ByteArray → ByteArray → Int → Int → Int → (List S211) → Option ((Bool × ByteArray × ByteArray × Int × Int × Int × (List S211)) ⊕ (ByteArray × ByteArray × Int × Int × Int × (List S211)))) (g : ((Bool × ByteArray × ByteArray × Int × Int × Int × (List S211)) ⊕ (ByteArray × ByteArray × Int × Int × Int × (List S211))) → Option R) (a7 : Int) (a8 : Int) (s9 : ByteArray) (s10 : ByteArray) (a11 : Int) (a12 : Int) (a13 : Int) (xs14 : List S211) : (f178.l3.step k rec_ some a7 a8 s9 s10 a11 a12 a13 xs14).bind g = f178.l3.step k (fun a7 a8 s9 s10 a11 a12 a13 xs14 => (rec_ a7 a8 s9 s10 a11 a12 a13 xs14).bind g) g a7 a8 s9 s10 a11 a12 a13 xs14 := by
  simp only [f178.l3.step, bind_ite, bind_sum, Option.bind_assoc, Option.bind_some, Option.bind_none]
theorem f178.l3.good (k : Nat) (a7 : Int) (a8 : Int) (s9 : ByteArray) (s10 : ByteArray) (a11 : Int) (a12 : Int) (a13 : Int) (xs14 : List S211) : GoodL (f178.X k) (nthC 0 (loopsOf (bodyOf Try.f178))) (f178.l3.st a7 a8 s9 s10 a11 a12 a13 xs14) { α := ((Bool × ByteArray × ByteArray × Int × Int × Int × (List S211)) ⊕ (ByteArray × ByteArray × Int × Int × Int × (List S211))), o := f178.l3 k k a7 a8 s9 s10 a11 a12 a13 xs14, w := f178.l3.w } :=
  loop_good (ι := Int × Int × ByteArray × ByteArray × Int × Int × Int × (List S211)) (α := ((Bool × ByteArray × ByteArray × Int × Int × Int × (List S211)) ⊕ (ByteArray × ByteArray × Int × Int × Int × (List S211)))) (fun i => f178.l3.st i.1 i.2.1 i.2.2.1 i.2.2.2.1 i.2.2.2.2.1 i.2.2.2.2.2.1 i.2.2.2.2.2.2.1 i.2.2.2.2.2.2.2) (fun j i => f178.l3 k j i.1 i.2.1 i.2.2.1 i.2.2.2.1 i.2.2.2.2.1 i.2.2.2.2.2.1 i.2.2.2.2.2.2.1 i.2.2.2.2.2.2.2) f178.l3.w (fun rec_ ret i => f178.l3.step k (fun a7 a8 s9 s10 a11 a12 a13 xs14 => rec_ (a7, a8, s9, s10, a11, a12, a13, xs14)) ret i.1 i.2.1 i.2.2.1 i.2.2.2.1 i.2.2.2.2.1 i.2.2.2.2.2.1 i.2.2.2.2.2.2.1 i.2.2.2.2.2.2.2)
    (fun _ => rfl) (fun _ _ => rfl) (fun rec_ g i => f178.l3.nat k _ g i.1 i.2.1 i.2.2.1 i.2.2.2.1 i.2.2.2.2.1 i.2.2.2.2.2.1 i.2.2.2.2.2.2.1 i.2.2.2.2.2.2.2) (fun {R} i0 i rec_ K => by kernel_rfl) k (a7, a8, s9, s10, a11, a12, a13, xs14)
theorem f178.l3.all (k : Nat) (S : St env) : GoodL (f178.X k) (nthC 0 (loopsOf (bodyOf Try.f178))) S (f178.l3.hd k S.ts S.m S.n) := by
  obtain ⟨ts_, m_, n_⟩ := S
  show GoodL _ _ _ (f178.l3.hd k ts_ m_ n_)
  unfold f178.l3.hd
  refine gTs_ok (p := GoodL _ _ _) goodL_no fun _ h => ?_
  subst h
  refine gV_ok (p := GoodL _ _ _) goodL_no fun _ _ h => ?_
  subst h
  refine rBp_ok (p := GoodL _ _ _) goodL_no fun h => ?_
  subst h
  refine gV_ok (p := GoodL _ _ _) goodL_no fun _ _ h => ?_
  subst h
  refine rV_ok (p := GoodL _ _ _) goodL_no fun _ h => ?_
  subst h
  refine vI_ok (p := GoodL _ _ _) goodL_no fun _ h => ?_
  subst h
  refine gV_ok (p := GoodL _ _ _) goodL_no fun _ _ h => ?_
  subst h
  refine rV_ok (p := GoodL _ _ _) goodL_no fun _ h => ?_
  subst h
  refine vI_ok (p := GoodL _ _ _) goodL_no fun _ h => ?_
  subst h
  refine gE_ok (p := GoodL _ _ _) goodL_no fun h => ?_
  subst h
  refine mBox_ok (p := GoodL _ _ _) goodL_no fun _ _ h => ?_
  subst h
  refine gC_ok (p := GoodL _ _ _) goodL_no fun _ _ h => ?_
  subst h
  refine rV_ok (p := GoodL _ _ _) goodL_no fun _ h => ?_
  subst h
  refine vS_ok (p := GoodL _ _ _) goodL_no fun _ h => ?_
  subst h
  refine gC_ok (p := GoodL _ _ _) goodL_no fun _ _ h => ?_
  subst h
  refine rV_ok (p := GoodL _ _ _) goodL_no fun _ h => ?_
  subst h
  refine vS_ok (p := GoodL _ _ _) goodL_no fun _ h => ?_
  subst h
  refine gC_ok (p := GoodL _ _ _) goodL_no fun _ _ h => ?_
  subst h
  refine rV_ok (p := GoodL _ _ _) goodL_no fun _ h => ?_
  subst h
  refine vI_ok (p := GoodL _ _ _) goodL_no fun _ h => ?_
  subst h
  refine gC_ok (p := GoodL _ _ _) goodL_no fun _ _ h => ?_
  subst h
  refine rV_ok (p := GoodL _ _ _) goodL_no fun _ h => ?_
  subst h
  refine vI_ok (p := GoodL _ _ _) goodL_no fun _ h => ?_
  subst h
  refine gC_ok (p := GoodL _ _ _) goodL_no fun _ _ h => ?_
  subst h
  refine rV_ok (p := GoodL _ _ _) goodL_no fun _ h => ?_
  subst h
  refine vI_ok (p := GoodL _ _ _) goodL_no fun _ h => ?_
  subst h
  refine gC_ok (p := GoodL _ _ _) goodL_no fun _ _ h => ?_
  subst h
  refine rImm_ok (p := GoodL _ _ _) goodL_no fun _ h => ?_
  subst h
  refine gE_ok (p := GoodL _ _ _) goodL_no fun h => ?_
  subst h
  refine gE_ok (p := GoodL _ _ _) goodL_no fun h => ?_
  subst h
  refine gN_ok (p := GoodL _ _ _) goodL_no fun h => ?_
  subst h
  exact f178.l3.good k _ _ _ _ _ _ _ _
theorem f178.nat {R : Type} (k : Nat) (g : Bool → Option R) (s1 : ByteArray) (s2 : ByteArray) (a3 : Int) (a4 : Int) (a5 : Int) (xs6 : List S211) : f178.step k g s1 s2 a3 a4 a5 xs6 = (f178 k s1 s2 a3 a4 a5 xs6).bind g := by
  simp only [f178, f178.step, bind_ite, bind_sum, Option.bind_assoc, Option.bind_some, Option.bind_none]
theorem f178.ev (k : Nat) (s1 : ByteArray) (s2 : ByteArray) (a3 : Int) (a4 : Int) (a5 : Int) (xs6 : List S211) : evF (f178.X k) (bodyOf Try.f178) Try.f178.ntmps Try.f178.results.toList [.g [.s (.string s1), .s (.string s2), .s (.int .i64 a3), .s (.int .i64 a4), .s (.int .i64 a5), .sl 211 xs6]] = f178.step k (fun x => f178.w x some) s1 s2 a3 a4 a5 xs6 := by kernel_rfl
theorem f178.hok (k : Nat) : HOK (f178.X k) (bodyOf Try.f178) where
  l := allP_mem (by exact ⟨ls_of (h0 := fun S => f178.l3.hd k S.ts S.m S.n) (by kernel_rfl) (f178.l3.all k), trivial⟩)
  j := allP_mem (by exact trivial)
theorem f178.sound0 (k : Nat) : SoundC env Try.prog 178 (f178.hd k) := by
  intro ps_
  show GoodC _ _ _ ps_ (f178.hd k ps_)
  unfold f178.hd
  refine gC_ok (p := GoodC env Try.prog 178 _) goodC_no fun _ _ h => ?_
  subst h
  refine qG_ok (p := GoodC env Try.prog 178 _) goodC_no fun _ h => ?_
  subst h
  refine gC_ok (p := GoodC env Try.prog 178 _) goodC_no fun _ _ h => ?_
  subst h
  refine qS_ok (p := GoodC env Try.prog 178 _) goodC_no fun _ h => ?_
  subst h
  refine vS_ok (p := GoodC env Try.prog 178 _) goodC_no fun _ h => ?_
  subst h
  refine gC_ok (p := GoodC env Try.prog 178 _) goodC_no fun _ _ h => ?_
  subst h
  refine qS_ok (p := GoodC env Try.prog 178 _) goodC_no fun _ h => ?_
  subst h
  refine vS_ok (p := GoodC env Try.prog 178 _) goodC_no fun _ h => ?_
  subst h
  refine gC_ok (p := GoodC env Try.prog 178 _) goodC_no fun _ _ h => ?_
  subst h
  refine qS_ok (p := GoodC env Try.prog 178 _) goodC_no fun _ h => ?_
  subst h
  refine vI_ok (p := GoodC env Try.prog 178 _) goodC_no fun _ h => ?_
  subst h
  refine gC_ok (p := GoodC env Try.prog 178 _) goodC_no fun _ _ h => ?_
  subst h
  refine qS_ok (p := GoodC env Try.prog 178 _) goodC_no fun _ h => ?_
  subst h
  refine vI_ok (p := GoodC env Try.prog 178 _) goodC_no fun _ h => ?_
  subst h
  refine gC_ok (p := GoodC env Try.prog 178 _) goodC_no fun _ _ h => ?_
  subst h
  refine qS_ok (p := GoodC env Try.prog 178 _) goodC_no fun _ h => ?_
  subst h
  refine vI_ok (p := GoodC env Try.prog 178 _) goodC_no fun _ h => ?_
  subst h
  refine gC_ok (p := GoodC env Try.prog 178 _) goodC_no fun _ _ h => ?_
  subst h
  refine qSl_ok (p := GoodC env Try.prog 178 _) goodC_no fun _ h => ?_
  subst h
  refine gE_ok (p := GoodC env Try.prog 178 _) goodC_no fun h => ?_
  subst h
  refine gE_ok (p := GoodC env Try.prog 178 _) goodC_no fun h => ?_
  subst h
  exact fun_good (fun_sound envOK (cs_sound _ (by exact trivial)) (f178.hok k) Try.func178 rfl) ((f178.ev k _ _ _ _ _ _).trans (f178.nat k _ _ _ _ _ _ _))
theorem f178.sound (k : Nat) : SoundC env Try.prog 178 (f178.e k).F := soundC_coer (f178.sound0 k) [[.no, .no, .no, .no, .no, .rd 211]]
theorem f178.says (k : Nat) (s1 : ByteArray) (s2 : ByteArray) (a3 : Int) (a4 : Int) (a5 : Int) (xs6 : List S211) (t20 : Bool) (h_ : f178 k s1 s2 a3 a4 a5 xs6 = some t20) : SoundAt env Try.prog 178 [.g [.s (.string s1), .s (.string s2), .s (.int .i64 a3), .s (.int .i64 a4), .s (.int .i64 a5), .sl 211 xs6]] ⟨.v (.c (.s (.bool t20))), [[]]⟩ :=
  fun_sound envOK (cs_sound _ (by exact trivial)) (f178.hok k) Try.func178 rfl _ _ (((f178.ev k s1 s2 a3 a4 a5 xs6).trans (f178.nat k _ s1 s2 a3 a4 a5 xs6)).trans (by rw [h_]; rfl))
theorem f178.fnok : FnOK Try.prog 178 := fn_ok Try.func178 (by kernel_rfl) rfl
def f137.l11.step {R : Type} (k : Nat) (rec_ : (List S104) → Int → Int → Int → ByteArray → ByteArray → Int → Int → Int → (List S211) → Option R) (ret : (((List S104) × Bool × Int × ByteArray × ByteArray × Int × Int × Int × (List S211)) ⊕ ((List S104) × Int × ByteArray × ByteArray × Int × Int × Int × (List S211))) → Option R) (xs8 : List S104) (a9 : Int) (a10 : Int) (a11 : Int) (s12 : ByteArray) (s13 : ByteArray) (a14 : Int) (a15 : Int) (a16 : Int) (xs17 : List S211) : Option R :=
  if (decide (a11 < (((List.length xs17) : Nat) : Int))) = true then
    if (0 : Int) ≤ a11 then
      if a11 < ((List.length xs17 : Nat) : Int) then
        if (decide ((List.getD xs17 (Int.toNat a11) (⟨(0 : Int), false, []⟩ : S211)).f0 < a10)) = false then
          if (decide ((Int.tmod (List.getD xs17 (Int.toNat a11) (⟨(0 : Int), false, []⟩ : S211)).f0 (8 : Int)) ≠ (0 : Int))) = false then
            if (decide ((((List.length (List.getD xs17 (Int.toNat a11) (⟨(0 : Int), false, []⟩ : S211)).f2) : Nat) : Int) > (1500 : Int))) = false then
              if (decide ((List.getD xs17 (Int.toNat a11) (⟨(0 : Int), false, []⟩ : S211)).f0 > (IntKind.i64.wrap ((65515 : Int) - (((List.length (List.getD xs17 (Int.toNat a11) (⟨(0 : Int), false, []⟩ : S211)).f2) : Nat) : Int))))) = false then
                if (List.getD xs17 (Int.toNat a11) (⟨(0 : Int), false, []⟩ : S211)).f1 = true then
                  if (decide (a11 < (IntKind.i64.wrap ((((List.length xs17) : Nat) : Int) - (1 : Int))))) = false then
                    if (!(List.getD xs17 (Int.toNat a11) (⟨(0 : Int), false, []⟩ : S211)).f1) = true then
                      if (decide ((Int.tmod (((List.length (List.getD xs17 (Int.toNat a11) (⟨(0 : Int), false, []⟩ : S211)).f2) : Nat) : Int) (8 : Int)) ≠ (0 : Int))) = false then
                        if (decide ((((List.length (List.getD xs17 (Int.toNat a11) (⟨(0 : Int), false, []⟩ : S211)).f2) : Nat) : Int) = (0 : Int))) = true then
                          ret (.inl (xs8, false, a9, s12, s13, a14, a15, a16, xs17))
                        else
                          rec_ xs8 a9 (IntKind.i64.wrap ((List.getD xs17 (Int.toNat a11) (⟨(0 : Int), false, []⟩ : S211)).f0 + (((List.length (List.getD xs17 (Int.toNat a11) (⟨(0 : Int), false, []⟩ : S211)).f2) : Nat) : Int))) (IntKind.i64.wrap (a11 + (1 : Int))) s12 s13 a14 a15 a16 xs17
                      else
                        ret (.inl (xs8, false, a9, s12, s13, a14, a15, a16, xs17))
                    else
                      rec_ xs8 a9 (IntKind.i64.wrap ((List.getD xs17 (Int.toNat a11) (⟨(0 : Int), false, []⟩ : S211)).f0 + (((List.length (List.getD xs17 (Int.toNat a11) (⟨(0 : Int), false, []⟩ : S211)).f2) : Nat) : Int))) (IntKind.i64.wrap (a11 + (1 : Int))) s12 s13 a14 a15 a16 xs17
                  else
                    ret (.inl (xs8, false, a9, s12, s13, a14, a15, a16, xs17))
                else
                  if (!(List.getD xs17 (Int.toNat a11) (⟨(0 : Int), false, []⟩ : S211)).f1) = true then
                    if (decide ((Int.tmod (((List.length (List.getD xs17 (Int.toNat a11) (⟨(0 : Int), false, []⟩ : S211)).f2) : Nat) : Int) (8 : Int)) ≠ (0 : Int))) = false then
                      if (decide ((((List.length (List.getD xs17 (Int.toNat a11) (⟨(0 : Int), false, []⟩ : S211)).f2) : Nat) : Int) = (0 : Int))) = true then
                        ret (.inl (xs8, false, a9, s12, s13, a14, a15, a16, xs17))
                      else
                        rec_ xs8 a9 (IntKind.i64.wrap ((List.getD xs17 (Int.toNat a11) (⟨(0 : Int), false, []⟩ : S211)).f0 + (((List.length (List.getD xs17 (Int.toNat a11) (⟨(0 : Int), false, []⟩ : S211)).f2) : Nat) : Int))) (IntKind.i64.wrap (a11 + (1 : Int))) s12 s13 a14 a15 a16 xs17
                    else
                      ret (.inl (xs8, false, a9, s12, s13, a14, a15, a16, xs17))
                  else
                    rec_ xs8 a9 (IntKind.i64.wrap ((List.getD xs17 (Int.toNat a11) (⟨(0 : Int), false, []⟩ : S211)).f0 + (((List.length (List.getD xs17 (Int.toNat a11) (⟨(0 : Int), false, []⟩ : S211)).f2) : Nat) : Int))) (IntKind.i64.wrap (a11 + (1 : Int))) s12 s13 a14 a15 a16 xs17
              else
                ret (.inl (xs8, false, a9, s12, s13, a14, a15, a16, xs17))
            else
              ret (.inl (xs8, false, a9, s12, s13, a14, a15, a16, xs17))
          else
            ret (.inl (xs8, false, a9, s12, s13, a14, a15, a16, xs17))
        else
          ret (.inl (xs8, false, a9, s12, s13, a14, a15, a16, xs17))
      else none
    else none
  else
    ret (.inr (xs8, a9, s12, s13, a14, a15, a16, xs17))
def f137.l11 (k : Nat) : Nat → (List S104) → Int → Int → Int → ByteArray → ByteArray → Int → Int → Int → (List S211) → Option (((List S104) × Bool × Int × ByteArray × ByteArray × Int × Int × Int × (List S211)) ⊕ ((List S104) × Int × ByteArray × ByteArray × Int × Int × Int × (List S211)))
  | 0, _, _, _, _, _, _, _, _, _, _ => none
  | j + 1, xs8, a9, a10, a11, s12, s13, a14, a15, a16, xs17 => f137.l11.step k (fun xs8 a9 a10 a11 s12 s13 a14 a15 a16 xs17 => f137.l11 k j xs8 a9 a10 a11 s12 s13 a14 a15 a16 xs17) some xs8 a9 a10 a11 s12 s13 a14 a15 a16 xs17
def f137.l11.w {R : Type} : (((List S104) × Bool × Int × ByteArray × ByteArray × Int × Int × Int × (List S211)) ⊕ ((List S104) × Int × ByteArray × ByteArray × Int × Int × Int × (List S211))) → (Exit → St env → Option R) → Option R := fun x K => Sum.elim (fun t23 => K .ret ⟨fullT [0, 2, 3, 4] 0 144 [.v (.c (.imm 104 t23.1)), .v (.c (.s (.bool t23.2.1))), .v (.c (.s (.int .i64 t23.2.2.1))), .v (.c (.bp 209 0))], [(209, .box [.s (.string t23.2.2.2.1), .s (.string t23.2.2.2.2.1), .s (.int .i64 t23.2.2.2.2.2.1), .s (.int .i64 t23.2.2.2.2.2.2.1), .s (.int .i64 t23.2.2.2.2.2.2.2.1), .imm 211 t23.2.2.2.2.2.2.2.2])], 2289⟩) (fun t24 => K (.exit 2) ⟨fullT [0, 3, 4] 0 144 [.v (.c (.imm 104 t24.1)), .v (.c (.s (.int .i64 t24.2.1))), .v (.c (.bp 209 0))], [(209, .box [.s (.string t24.2.2.1), .s (.string t24.2.2.2.1), .s (.int .i64 t24.2.2.2.2.1), .s (.int .i64 t24.2.2.2.2.2.1), .s (.int .i64 t24.2.2.2.2.2.2.1), .imm 211 t24.2.2.2.2.2.2.2])], 2289⟩) x
def f137.l11.st (xs8 : List S104) (a9 : Int) (a10 : Int) (a11 : Int) (s12 : ByteArray) (s13 : ByteArray) (a14 : Int) (a15 : Int) (a16 : Int) (xs17 : List S211) : St env := ⟨fullT [0, 3, 4, 5, 6] 0 144 [.v (.c (.imm 104 xs8)), .v (.c (.s (.int .i64 a9))), .v (.c (.bp 209 0)), .v (.c (.s (.int .i64 a10))), .v (.c (.s (.int .i64 a11)))], [(209, .box [.s (.string s12), .s (.string s13), .s (.int .i64 a14), .s (.int .i64 a15), .s (.int .i64 a16), .imm 211 xs17])], 1041⟩
def f137.l4.step {R : Type} (k : Nat) (rec_ : (List S104) → Int → Option R) (ret : (Bool ⊕ (Unit)) → Option R) (xs2 : List S104) (a3 : Int) : Option R :=
  if (decide (a3 < (((List.length xs2) : Nat) : Int))) = true then
    if (0 : Int) ≤ a3 then
      if a3 < ((List.length xs2 : Nat) : Int) then
        if (decide ((((ByteArray.size (List.getD xs2 (Int.toNat a3) (⟨ByteArray.empty, ByteArray.empty, (0 : Int), (0 : Int), (0 : Int), []⟩ : S104)).f0) : Nat) : Int) ≠ (4 : Int))) = false then
          if (decide ((((ByteArray.size (List.getD xs2 (Int.toNat a3) (⟨ByteArray.empty, ByteArray.empty, (0 : Int), (0 : Int), (0 : Int), []⟩ : S104)).f1) : Nat) : Int) ≠ (4 : Int))) = false then
            (f86 k (List.getD xs2 (Int.toNat a3) (⟨ByteArray.empty, ByteArray.empty, (0 : Int), (0 : Int), (0 : Int), []⟩ : S104)).f2 (0 : Int) (65535 : Int)).bind fun t4 => if (!t4) = false then
                (f86 k (List.getD xs2 (Int.toNat a3) (⟨ByteArray.empty, ByteArray.empty, (0 : Int), (0 : Int), (0 : Int), []⟩ : S104)).f3 (0 : Int) (255 : Int)).bind fun t5 => if (!t5) = false then
                    (f86 k (List.getD xs2 (Int.toNat a3) (⟨ByteArray.empty, ByteArray.empty, (0 : Int), (0 : Int), (0 : Int), []⟩ : S104)).f4 (0 : Int) (1000030 : Int)).bind fun t6 => if (!t6) = false then
                        if (decide ((((List.length (List.getD xs2 (Int.toNat a3) (⟨ByteArray.empty, ByteArray.empty, (0 : Int), (0 : Int), (0 : Int), []⟩ : S104)).f5) : Nat) : Int) = (0 : Int))) = false then
                          if (decide ((((List.length (List.getD xs2 (Int.toNat a3) (⟨ByteArray.empty, ByteArray.empty, (0 : Int), (0 : Int), (0 : Int), []⟩ : S104)).f5) : Nat) : Int) > (12 : Int))) = false then
                            if (0 : Int) ≤ a3 then
                              if a3 ≤ ((List.length xs2 : Nat) : Int) then
                                (f177 k (List.drop 0 (List.take (Int.toNat a3) xs2)) (List.getD xs2 (Int.toNat a3) (⟨ByteArray.empty, ByteArray.empty, (0 : Int), (0 : Int), (0 : Int), []⟩ : S104)).f0 (List.getD xs2 (Int.toNat a3) (⟨ByteArray.empty, ByteArray.empty, (0 : Int), (0 : Int), (0 : Int), []⟩ : S104)).f1 (List.getD xs2 (Int.toNat a3) (⟨ByteArray.empty, ByteArray.empty, (0 : Int), (0 : Int), (0 : Int), []⟩ : S104)).f2 (List.getD xs2 (Int.toNat a3) (⟨ByteArray.empty, ByteArray.empty, (0 : Int), (0 : Int), (0 : Int), []⟩ : S104)).f3 (List.getD xs2 (Int.toNat a3) (⟨ByteArray.empty, ByteArray.empty, (0 : Int), (0 : Int), (0 : Int), []⟩ : S104)).f4 (List.getD xs2 (Int.toNat a3) (⟨ByteArray.empty, ByteArray.empty, (0 : Int), (0 : Int), (0 : Int), []⟩ : S104)).f5).bind fun t7 => if (decide (t7 ≥ (0 : Int))) = true then
                                    ret (.inl false)
                                  else
                                    (f137.l11 k k xs2 a3 (0 : Int) (0 : Int) (List.getD xs2 (Int.toNat a3) (⟨ByteArray.empty, ByteArray.empty, (0 : Int), (0 : Int), (0 : Int), []⟩ : S104)).f0 (List.getD xs2 (Int.toNat a3) (⟨ByteArray.empty, ByteArray.empty, (0 : Int), (0 : Int), (0 : Int), []⟩ : S104)).f1 (List.getD xs2 (Int.toNat a3) (⟨ByteArray.empty, ByteArray.empty, (0 : Int), (0 : Int), (0 : Int), []⟩ : S104)).f2 (List.getD xs2 (Int.toNat a3) (⟨ByteArray.empty, ByteArray.empty, (0 : Int), (0 : Int), (0 : Int), []⟩ : S104)).f3 (List.getD xs2 (Int.toNat a3) (⟨ByteArray.empty, ByteArray.empty, (0 : Int), (0 : Int), (0 : Int), []⟩ : S104)).f4 (List.getD xs2 (Int.toNat a3) (⟨ByteArray.empty, ByteArray.empty, (0 : Int), (0 : Int), (0 : Int), []⟩ : S104)).f5).bind (Sum.elim (fun t18 => ret (.inl t18.2.1)) (fun t19 => (f178 k t19.2.2.1 t19.2.2.2.1 t19.2.2.2.2.1 t19.2.2.2.2.2.1 t19.2.2.2.2.2.2.1 t19.2.2.2.2.2.2.2).bind fun t20 => if t20 = true then
                                          ret (.inl false)
                                        else
                                          rec_ t19.1 (IntKind.i64.wrap (t19.2.1 + (1 : Int)))))
                              else none
                            else none
                          else
                            ret (.inl false)
                        else
                          ret (.inl false)
                      else
                        ret (.inl false)
                  else
                    ret (.inl false)
              else
                ret (.inl false)
          else
            ret (.inl false)
        else
          ret (.inl false)
      else none
    else none
  else
    ret (.inr ())
def f137.l4 (k : Nat) : Nat → (List S104) → Int → Option (Bool ⊕ (Unit))
  | 0, _, _ => none
  | j + 1, xs2, a3 => f137.l4.step k (fun xs2 a3 => f137.l4 k j xs2 a3) some xs2 a3
def f137.l4.w {R : Type} : (Bool ⊕ (Unit)) → (Exit → St env → Option R) → Option R := fun x K => Sum.elim (fun t25 => K .ret ⟨fullT [2] 0 144 [.v (.c (.s (.bool t25)))], [], 2401⟩) (fun t26 => K (.exit 0) ⟨fullT [] 0 144 [], [], 2401⟩) x
def f137.l4.st (xs2 : List S104) (a3 : Int) : St env := ⟨fullT [0, 3] 0 144 [.v (.c (.imm 104 xs2)), .v (.c (.s (.int .i64 a3)))], [], 81⟩
def f137.l11.hd (k : Nat) (ts_ : List (AV env)) (mm_ : Mem env) (n_ : Nat) : LCl env :=
  gTs LCl.no [0, 3, 4, 5, 6] 144 ts_ fun l_ => gV LCl.no l_ fun a_ l_ => rImm LCl.no 104 a_ fun xs8 => gV LCl.no l_ fun a_ l_ => rV LCl.no a_ fun v_ => vI LCl.no .i64 v_ fun a9 => gV LCl.no l_ fun a_ l_ => rBp LCl.no 209 0 a_ <| gV LCl.no l_ fun a_ l_ => rV LCl.no a_ fun v_ => vI LCl.no .i64 v_ fun a10 => gV LCl.no l_ fun a_ l_ => rV LCl.no a_ fun v_ => vI LCl.no .i64 v_ fun a11 => gE LCl.no l_ <| mBox LCl.no 209 mm_ fun c_ m_ => gC LCl.no c_ fun a_ c_ => rV LCl.no a_ fun v_ => vS LCl.no v_ fun s12 => gC LCl.no c_ fun a_ c_ => rV LCl.no a_ fun v_ => vS LCl.no v_ fun s13 => gC LCl.no c_ fun a_ c_ => rV LCl.no a_ fun v_ => vI LCl.no .i64 v_ fun a14 => gC LCl.no c_ fun a_ c_ => rV LCl.no a_ fun v_ => vI LCl.no .i64 v_ fun a15 => gC LCl.no c_ fun a_ c_ => rV LCl.no a_ fun v_ => vI LCl.no .i64 v_ fun a16 => gC LCl.no c_ fun a_ c_ => rImm LCl.no 211 a_ fun xs17 => gE LCl.no c_ <| gE LCl.no m_ <| gN LCl.no 1041 n_ { α := ((List S104) × Bool × Int × ByteArray × ByteArray × Int × Int × Int × (List S211)) ⊕ ((List S104) × Int × ByteArray × ByteArray × Int × Int × Int × (List S211)), o := f137.l11 k k xs8 a9 a10 a11 s12 s13 a14 a15 a16 xs17, w := f137.l11.w }
def f137.l4.hd (k : Nat) (ts_ : List (AV env)) (mm_ : Mem env) (n_ : Nat) : LCl env :=
  gTs LCl.no [0, 3] 144 ts_ fun l_ => gV LCl.no l_ fun a_ l_ => rImm LCl.no 104 a_ fun xs2 => gV LCl.no l_ fun a_ l_ => rV LCl.no a_ fun v_ => vI LCl.no .i64 v_ fun a3 => gE LCl.no l_ <| gE LCl.no mm_ <| gN LCl.no 81 n_ { α := Bool ⊕ (Unit), o := f137.l4 k k xs2 a3, w := f137.l4.w }
def f137.step {R : Type} (k : Nat) (ret : Bool → Option R) (xs1 : List S104) : Option R :=
  if (decide ((((List.length xs1) : Nat) : Int) > (6 : Int))) = true then
    ret false
  else
    (f137.l4 k k xs1 (0 : Int)).bind (Sum.elim (fun t21 => ret t21) (fun t22 => ret true))
def f137 (k : Nat) (xs1 : List S104) : Option Bool := f137.step k some xs1
def f137.w {R : Type} : Bool → (Res env → Option R) → Option R := fun t27 K => K ⟨.v (.c (.s (.bool t27))), [[]]⟩
theorem f137.wn (x : Bool) : ∃ res, ∀ {R : Type} (K : Res env → Option R), f137.w x K = K res := by
  exact ⟨_, fun _ => rfl⟩
def f137.hd (k : Nat) (ps_ : List (P2 env)) : Cl env :=
  gC Cl.no ps_ fun p_ ps_ => qC Cl.no p_ fun c_ => qSl Cl.no 104 c_ fun xs1 => gE Cl.no ps_ <| { α := Bool, o := f137 k xs1, w := f137.w, nat := fun x _ => f137.wn x }
def f137.e (k : Nat) : Entry env := ⟨fun ps => f137.hd k (coer [[.rd 104]] ps), []⟩
def f137.X (k : Nat) : Ctx env := { C := lookE [(86, f86.e k), (177, f177.e k), (178, f178.e k)], L := lookE [(11, fun S => f137.l11.hd k S.ts S.m S.n), (4, fun S => f137.l4.hd k S.ts S.m S.n)], J := lookE [], keep := lookD [(11, [0, 3, 4, 5, 6]), (4, [0, 3])], keepX := lookD [(11, [0, 2, 3, 4]), (4, [2])], span := lookN [(11, 1248), (4, 2320)], eff := fun n => memN n [], prep := lookP [], np := 0 }
theorem f137.l11.nat {R : Type} (k : Nat) (rec_ : (List S104) → Int → Int → Int → ByteArray → ByteArray → Int → Int → Int → (List S211) → Option (((List S104) × Bool × Int × ByteArray × ByteArray × Int × Int × Int × (List S211)) ⊕ ((List S104) × Int × ByteArray × ByteArray × Int × Int × Int × (List S211)))) (g : (((List S104) × Bool × Int × ByteArray × ByteArray × Int × Int × Int × (List S211)) ⊕ ((List S104) × Int × ByteArray × ByteArray × Int × Int × Int × (List S211))) → Option R) (xs8 : List S104) (a9 : Int) (a10 : Int) (a11 : Int) (s12 : ByteArray) (s13 : ByteArray) (a14 : Int) (a15 : Int) (a16 : Int) (xs17 : List S211) : (f137.l11.step k rec_ some xs8 a9 a10 a11 s12 s13 a14 a15 a16 xs17).bind g = f137.l11.step k (fun xs8 a9 a10 a11 s12 s13 a14 a15 a16 xs17 => (rec_ xs8 a9 a10 a11 s12 s13 a14 a15 a16 xs17).bind g) g xs8 a9 a10 a11 s12 s13 a14 a15 a16 xs17 := by
  simp only [f137.l11.step, bind_ite, bind_sum, Option.bind_assoc, Option.bind_some, Option.bind_none]
theorem f137.l11.good (k : Nat) (xs8 : List S104) (a9 : Int) (a10 : Int) (a11 : Int) (s12 : ByteArray) (s13 : ByteArray) (a14 : Int) (a15 : Int) (a16 : Int) (xs17 : List S211) : GoodL (f137.X k) (nthC 1 (loopsOf (bodyOf Try.f137))) (f137.l11.st xs8 a9 a10 a11 s12 s13 a14 a15 a16 xs17) { α := (((List S104) × Bool × Int × ByteArray × ByteArray × Int × Int × Int × (List S211)) ⊕ ((List S104) × Int × ByteArray × ByteArray × Int × Int × Int × (List S211))), o := f137.l11 k k xs8 a9 a10 a11 s12 s13 a14 a15 a16 xs17, w := f137.l11.w } :=
  loop_good (ι := (List S104) × Int × Int × Int × ByteArray × ByteArray × Int × Int × Int × (List S211)) (α := (((List S104) × Bool × Int × ByteArray × ByteArray × Int × Int × Int × (List S211)) ⊕ ((List S104) × Int × ByteArray × ByteArray × Int × Int × Int × (List S211)))) (fun i => f137.l11.st i.1 i.2.1 i.2.2.1 i.2.2.2.1 i.2.2.2.2.1 i.2.2.2.2.2.1 i.2.2.2.2.2.2.1 i.2.2.2.2.2.2.2.1 i.2.2.2.2.2.2.2.2.1 i.2.2.2.2.2.2.2.2.2) (fun j i => f137.l11 k j i.1 i.2.1 i.2.2.1 i.2.2.2.1 i.2.2.2.2.1 i.2.2.2.2.2.1 i.2.2.2.2.2.2.1 i.2.2.2.2.2.2.2.1 i.2.2.2.2.2.2.2.2.1 i.2.2.2.2.2.2.2.2.2) f137.l11.w (fun rec_ ret i => f137.l11.step k (fun xs8 a9 a10 a11 s12 s13 a14 a15 a16 xs17 => rec_ (xs8, a9, a10, a11, s12, s13, a14, a15, a16, xs17)) ret i.1 i.2.1 i.2.2.1 i.2.2.2.1 i.2.2.2.2.1 i.2.2.2.2.2.1 i.2.2.2.2.2.2.1 i.2.2.2.2.2.2.2.1 i.2.2.2.2.2.2.2.2.1 i.2.2.2.2.2.2.2.2.2)
    (fun _ => rfl) (fun _ _ => rfl) (fun rec_ g i => f137.l11.nat k _ g i.1 i.2.1 i.2.2.1 i.2.2.2.1 i.2.2.2.2.1 i.2.2.2.2.2.1 i.2.2.2.2.2.2.1 i.2.2.2.2.2.2.2.1 i.2.2.2.2.2.2.2.2.1 i.2.2.2.2.2.2.2.2.2) (fun {R} i0 i rec_ K => by kernel_rfl) k (xs8, a9, a10, a11, s12, s13, a14, a15, a16, xs17)
theorem f137.l11.all (k : Nat) (S : St env) : GoodL (f137.X k) (nthC 1 (loopsOf (bodyOf Try.f137))) S (f137.l11.hd k S.ts S.m S.n) := by
  obtain ⟨ts_, m_, n_⟩ := S
  show GoodL _ _ _ (f137.l11.hd k ts_ m_ n_)
  unfold f137.l11.hd
  refine gTs_ok (p := GoodL _ _ _) goodL_no fun _ h => ?_
  subst h
  refine gV_ok (p := GoodL _ _ _) goodL_no fun _ _ h => ?_
  subst h
  refine rImm_ok (p := GoodL _ _ _) goodL_no fun _ h => ?_
  subst h
  refine gV_ok (p := GoodL _ _ _) goodL_no fun _ _ h => ?_
  subst h
  refine rV_ok (p := GoodL _ _ _) goodL_no fun _ h => ?_
  subst h
  refine vI_ok (p := GoodL _ _ _) goodL_no fun _ h => ?_
  subst h
  refine gV_ok (p := GoodL _ _ _) goodL_no fun _ _ h => ?_
  subst h
  refine rBp_ok (p := GoodL _ _ _) goodL_no fun h => ?_
  subst h
  refine gV_ok (p := GoodL _ _ _) goodL_no fun _ _ h => ?_
  subst h
  refine rV_ok (p := GoodL _ _ _) goodL_no fun _ h => ?_
  subst h
  refine vI_ok (p := GoodL _ _ _) goodL_no fun _ h => ?_
  subst h
  refine gV_ok (p := GoodL _ _ _) goodL_no fun _ _ h => ?_
  subst h
  refine rV_ok (p := GoodL _ _ _) goodL_no fun _ h => ?_
  subst h
  refine vI_ok (p := GoodL _ _ _) goodL_no fun _ h => ?_
  subst h
  refine gE_ok (p := GoodL _ _ _) goodL_no fun h => ?_
  subst h
  refine mBox_ok (p := GoodL _ _ _) goodL_no fun _ _ h => ?_
  subst h
  refine gC_ok (p := GoodL _ _ _) goodL_no fun _ _ h => ?_
  subst h
  refine rV_ok (p := GoodL _ _ _) goodL_no fun _ h => ?_
  subst h
  refine vS_ok (p := GoodL _ _ _) goodL_no fun _ h => ?_
  subst h
  refine gC_ok (p := GoodL _ _ _) goodL_no fun _ _ h => ?_
  subst h
  refine rV_ok (p := GoodL _ _ _) goodL_no fun _ h => ?_
  subst h
  refine vS_ok (p := GoodL _ _ _) goodL_no fun _ h => ?_
  subst h
  refine gC_ok (p := GoodL _ _ _) goodL_no fun _ _ h => ?_
  subst h
  refine rV_ok (p := GoodL _ _ _) goodL_no fun _ h => ?_
  subst h
  refine vI_ok (p := GoodL _ _ _) goodL_no fun _ h => ?_
  subst h
  refine gC_ok (p := GoodL _ _ _) goodL_no fun _ _ h => ?_
  subst h
  refine rV_ok (p := GoodL _ _ _) goodL_no fun _ h => ?_
  subst h
  refine vI_ok (p := GoodL _ _ _) goodL_no fun _ h => ?_
  subst h
  refine gC_ok (p := GoodL _ _ _) goodL_no fun _ _ h => ?_
  subst h
  refine rV_ok (p := GoodL _ _ _) goodL_no fun _ h => ?_
  subst h
  refine vI_ok (p := GoodL _ _ _) goodL_no fun _ h => ?_
  subst h
  refine gC_ok (p := GoodL _ _ _) goodL_no fun _ _ h => ?_
  subst h
  refine rImm_ok (p := GoodL _ _ _) goodL_no fun _ h => ?_
  subst h
  refine gE_ok (p := GoodL _ _ _) goodL_no fun h => ?_
  subst h
  refine gE_ok (p := GoodL _ _ _) goodL_no fun h => ?_
  subst h
  refine gN_ok (p := GoodL _ _ _) goodL_no fun h => ?_
  subst h
  exact f137.l11.good k _ _ _ _ _ _ _ _ _ _
theorem f137.l4.nat {R : Type} (k : Nat) (rec_ : (List S104) → Int → Option (Bool ⊕ (Unit))) (g : (Bool ⊕ (Unit)) → Option R) (xs2 : List S104) (a3 : Int) : (f137.l4.step k rec_ some xs2 a3).bind g = f137.l4.step k (fun xs2 a3 => (rec_ xs2 a3).bind g) g xs2 a3 := by
  simp only [f137.l4.step, bind_ite, bind_sum, Option.bind_assoc, Option.bind_some, Option.bind_none]
theorem f137.l4.good (k : Nat) (xs2 : List S104) (a3 : Int) : GoodL (f137.X k) (nthC 0 (loopsOf (bodyOf Try.f137))) (f137.l4.st xs2 a3) { α := (Bool ⊕ (Unit)), o := f137.l4 k k xs2 a3, w := f137.l4.w } :=
  loop_good (ι := (List S104) × Int) (α := (Bool ⊕ (Unit))) (fun i => f137.l4.st i.1 i.2) (fun j i => f137.l4 k j i.1 i.2) f137.l4.w (fun rec_ ret i => f137.l4.step k (fun xs2 a3 => rec_ (xs2, a3)) ret i.1 i.2)
    (fun _ => rfl) (fun _ _ => rfl) (fun rec_ g i => f137.l4.nat k _ g i.1 i.2) (fun {R} i0 i rec_ K => by kernel_rfl) k (xs2, a3)
theorem f137.l4.all (k : Nat) (S : St env) : GoodL (f137.X k) (nthC 0 (loopsOf (bodyOf Try.f137))) S (f137.l4.hd k S.ts S.m S.n) := by
  obtain ⟨ts_, m_, n_⟩ := S
  show GoodL _ _ _ (f137.l4.hd k ts_ m_ n_)
  unfold f137.l4.hd
  refine gTs_ok (p := GoodL _ _ _) goodL_no fun _ h => ?_
  subst h
  refine gV_ok (p := GoodL _ _ _) goodL_no fun _ _ h => ?_
  subst h
  refine rImm_ok (p := GoodL _ _ _) goodL_no fun _ h => ?_
  subst h
  refine gV_ok (p := GoodL _ _ _) goodL_no fun _ _ h => ?_
  subst h
  refine rV_ok (p := GoodL _ _ _) goodL_no fun _ h => ?_
  subst h
  refine vI_ok (p := GoodL _ _ _) goodL_no fun _ h => ?_
  subst h
  refine gE_ok (p := GoodL _ _ _) goodL_no fun h => ?_
  subst h
  refine gE_ok (p := GoodL _ _ _) goodL_no fun h => ?_
  subst h
  refine gN_ok (p := GoodL _ _ _) goodL_no fun h => ?_
  subst h
  exact f137.l4.good k _ _
theorem f137.nat {R : Type} (k : Nat) (g : Bool → Option R) (xs1 : List S104) : f137.step k g xs1 = (f137 k xs1).bind g := by
  simp only [f137, f137.step, bind_ite, bind_sum, Option.bind_assoc, Option.bind_some, Option.bind_none]
theorem f137.ev (k : Nat) (xs1 : List S104) : evF (f137.X k) (bodyOf Try.f137) Try.f137.ntmps Try.f137.results.toList [.v (.c (.sl 104 xs1))] = f137.step k (fun x => f137.w x some) xs1 := by kernel_rfl
theorem f137.hok (k : Nat) : HOK (f137.X k) (bodyOf Try.f137) where
  l := allP_mem (by exact ⟨ls_of (h0 := fun S => f137.l4.hd k S.ts S.m S.n) (by kernel_rfl) (f137.l4.all k), ls_of (h0 := fun S => f137.l11.hd k S.ts S.m S.n) (by kernel_rfl) (f137.l11.all k), trivial⟩)
  j := allP_mem (by exact trivial)
theorem f137.sound0 (k : Nat) : SoundC env Try.prog 137 (f137.hd k) := by
  intro ps_
  show GoodC _ _ _ ps_ (f137.hd k ps_)
  unfold f137.hd
  refine gC_ok (p := GoodC env Try.prog 137 _) goodC_no fun _ _ h => ?_
  subst h
  refine qC_ok (p := GoodC env Try.prog 137 _) goodC_no fun _ h => ?_
  subst h
  refine qSl_ok (p := GoodC env Try.prog 137 _) goodC_no fun _ h => ?_
  subst h
  refine gE_ok (p := GoodC env Try.prog 137 _) goodC_no fun h => ?_
  subst h
  exact fun_good (fun_sound envOK (cs_sound _ (by exact ⟨⟨f86.sound k, f86.fnok⟩, ⟨f177.sound k, f177.fnok⟩, ⟨f178.sound k, f178.fnok⟩, trivial⟩)) (f137.hok k) Try.func137 rfl) ((f137.ev k _).trans (f137.nat k _ _))
theorem f137.sound (k : Nat) : SoundC env Try.prog 137 (f137.e k).F := soundC_coer (f137.sound0 k) [[.rd 104]]
theorem f137.says (k : Nat) (xs1 : List S104) (t28 : Bool) (h_ : f137 k xs1 = some t28) : SoundAt env Try.prog 137 [.v (.c (.sl 104 xs1))] ⟨.v (.c (.s (.bool t28))), [[]]⟩ :=
  fun_sound envOK (cs_sound _ (by exact ⟨⟨f86.sound k, f86.fnok⟩, ⟨f177.sound k, f177.fnok⟩, ⟨f178.sound k, f178.fnok⟩, trivial⟩)) (f137.hok k) Try.func137 rfl _ _ (((f137.ev k xs1).trans (f137.nat k _ xs1)).trans (by rw [h_]; rfl))
theorem f137.fnok : FnOK Try.prog 137 := fn_ok Try.func137 (by kernel_rfl) rfl
def f133.l8.step {R : Type} (k : Nat) (rec_ : (List S104) → Int → Int → (List S104) → ByteArray → ByteArray → Int → Int → Int → (List S211) → Option R) (ret : ((List S104) × Int × (List S104) × ByteArray × ByteArray × Int × Int × Int × (List S211)) → Option R) (xs5 : List S104) (a6 : Int) (a7 : Int) (xs8 : List S104) (s9 : ByteArray) (s10 : ByteArray) (a11 : Int) (a12 : Int) (a13 : Int) (xs14 : List S211) : Option R :=
  if (0 : Int) ≤ a6 then
    if a6 < ((List.length xs5 : Nat) : Int) then
      if (decide (a7 < (((List.length (List.getD xs5 (Int.toNat a6) (⟨ByteArray.empty, ByteArray.empty, (0 : Int), (0 : Int), (0 : Int), []⟩ : S104)).f5) : Nat) : Int))) = true then
        if (0 : Int) ≤ a6 then
          if a6 < ((List.length xs5 : Nat) : Int) then
            if (0 : Int) ≤ a7 then
              if a7 < ((List.length (List.getD xs5 (Int.toNat a6) (⟨ByteArray.empty, ByteArray.empty, (0 : Int), (0 : Int), (0 : Int), []⟩ : S104)).f5 : Nat) : Int) then
                if (List.length ([] : List Int) + List.length (List.getD (List.getD xs5 (Int.toNat a6) (⟨ByteArray.empty, ByteArray.empty, (0 : Int), (0 : Int), (0 : Int), []⟩ : S104)).f5 (Int.toNat a7) (⟨(0 : Int), false, []⟩ : S211)).f2) * 1 ≤ maxN then
                  if (List.length xs14 + List.length ([(⟨(List.getD (List.getD xs5 (Int.toNat a6) (⟨ByteArray.empty, ByteArray.empty, (0 : Int), (0 : Int), (0 : Int), []⟩ : S104)).f5 (Int.toNat a7) (⟨(0 : Int), false, []⟩ : S211)).f0, (List.getD (List.getD xs5 (Int.toNat a6) (⟨ByteArray.empty, ByteArray.empty, (0 : Int), (0 : Int), (0 : Int), []⟩ : S104)).f5 (Int.toNat a7) (⟨(0 : Int), false, []⟩ : S211)).f1, (([] : List Int) ++ (List.getD (List.getD xs5 (Int.toNat a6) (⟨ByteArray.empty, ByteArray.empty, (0 : Int), (0 : Int), (0 : Int), []⟩ : S104)).f5 (Int.toNat a7) (⟨(0 : Int), false, []⟩ : S211)).f2)⟩ : S211)] : List S211)) * 40 ≤ maxN then
                    rec_ xs5 a6 (IntKind.i64.wrap (a7 + (1 : Int))) xs8 s9 s10 a11 a12 a13 (xs14 ++ ([(⟨(List.getD (List.getD xs5 (Int.toNat a6) (⟨ByteArray.empty, ByteArray.empty, (0 : Int), (0 : Int), (0 : Int), []⟩ : S104)).f5 (Int.toNat a7) (⟨(0 : Int), false, []⟩ : S211)).f0, (List.getD (List.getD xs5 (Int.toNat a6) (⟨ByteArray.empty, ByteArray.empty, (0 : Int), (0 : Int), (0 : Int), []⟩ : S104)).f5 (Int.toNat a7) (⟨(0 : Int), false, []⟩ : S211)).f1, (([] : List Int) ++ (List.getD (List.getD xs5 (Int.toNat a6) (⟨ByteArray.empty, ByteArray.empty, (0 : Int), (0 : Int), (0 : Int), []⟩ : S104)).f5 (Int.toNat a7) (⟨(0 : Int), false, []⟩ : S211)).f2)⟩ : S211)] : List S211))
                  else none
                else none
              else none
            else none
          else none
        else none
      else
        ret (xs5, a6, xs8, s9, s10, a11, a12, a13, xs14)
    else none
  else none
def f133.l8 (k : Nat) : Nat → (List S104) → Int → Int → (List S104) → ByteArray → ByteArray → Int → Int → Int → (List S211) → Option ((List S104) × Int × (List S104) × ByteArray × ByteArray × Int × Int × Int × (List S211))
  | 0, _, _, _, _, _, _, _, _, _, _ => none
  | j + 1, xs5, a6, a7, xs8, s9, s10, a11, a12, a13, xs14 => f133.l8.step k (fun xs5 a6 a7 xs8 s9 s10 a11 a12 a13 xs14 => f133.l8 k j xs5 a6 a7 xs8 s9 s10 a11 a12 a13 xs14) some xs5 a6 a7 xs8 s9 s10 a11 a12 a13 xs14
def f133.l8.w {R : Type} : ((List S104) × Int × (List S104) × ByteArray × ByteArray × Int × Int × Int × (List S211)) → (Exit → St env → Option R) → Option R := fun t17 K => K (.exit 2) ⟨fullT [0, 3, 4, 5] 0 54 [.v (.c (.imm 104 t17.1)), .v (.c (.row 17)), .v (.c (.s (.int .i64 t17.2.1))), .v (.c (.bp 193 0))], [(17, .row true 104 t17.2.2.1), (193, .box [.s (.string t17.2.2.2.1), .s (.string t17.2.2.2.2.1), .s (.int .i64 t17.2.2.2.2.2.1), .s (.int .i64 t17.2.2.2.2.2.2.1), .s (.int .i64 t17.2.2.2.2.2.2.2.1), .row 273]), (273, .row true 211 t17.2.2.2.2.2.2.2.2)], 833⟩
def f133.l8.st (xs5 : List S104) (a6 : Int) (a7 : Int) (xs8 : List S104) (s9 : ByteArray) (s10 : ByteArray) (a11 : Int) (a12 : Int) (a13 : Int) (xs14 : List S211) : St env := ⟨fullT [0, 3, 4, 5, 6] 0 54 [.v (.c (.imm 104 xs5)), .v (.c (.row 17)), .v (.c (.s (.int .i64 a6))), .v (.c (.bp 193 0)), .v (.c (.s (.int .i64 a7)))], [(17, .row true 104 xs8), (193, .box [.s (.string s9), .s (.string s10), .s (.int .i64 a11), .s (.int .i64 a12), .s (.int .i64 a13), .row 273]), (273, .row true 211 xs14)], 289⟩
def f133.l3.step {R : Type} (k : Nat) (rec_ : (List S104) → Int → (List S104) → Option R) (ret : ((List S104)) → Option R) (xs2 : List S104) (a3 : Int) (xs4 : List S104) : Option R :=
  if (decide (a3 < (((List.length xs2) : Nat) : Int))) = true then
    if (0 : Int) ≤ a3 then
      if a3 < ((List.length xs2 : Nat) : Int) then
        (f133.l8 k k xs2 a3 (0 : Int) xs4 (List.getD xs2 (Int.toNat a3) (⟨ByteArray.empty, ByteArray.empty, (0 : Int), (0 : Int), (0 : Int), []⟩ : S104)).f0 (List.getD xs2 (Int.toNat a3) (⟨ByteArray.empty, ByteArray.empty, (0 : Int), (0 : Int), (0 : Int), []⟩ : S104)).f1 (List.getD xs2 (Int.toNat a3) (⟨ByteArray.empty, ByteArray.empty, (0 : Int), (0 : Int), (0 : Int), []⟩ : S104)).f2 (List.getD xs2 (Int.toNat a3) (⟨ByteArray.empty, ByteArray.empty, (0 : Int), (0 : Int), (0 : Int), []⟩ : S104)).f3 (List.getD xs2 (Int.toNat a3) (⟨ByteArray.empty, ByteArray.empty, (0 : Int), (0 : Int), (0 : Int), []⟩ : S104)).f4 ([] : List S211)).bind fun t15 => if (List.length t15.2.2.1 + List.length ([(⟨t15.2.2.2.1, t15.2.2.2.2.1, t15.2.2.2.2.2.1, t15.2.2.2.2.2.2.1, t15.2.2.2.2.2.2.2.1, t15.2.2.2.2.2.2.2.2⟩ : S104)] : List S104)) * 80 ≤ maxN then
            rec_ t15.1 (IntKind.i64.wrap (t15.2.1 + (1 : Int))) (t15.2.2.1 ++ ([(⟨t15.2.2.2.1, t15.2.2.2.2.1, t15.2.2.2.2.2.1, t15.2.2.2.2.2.2.1, t15.2.2.2.2.2.2.2.1, t15.2.2.2.2.2.2.2.2⟩ : S104)] : List S104))
          else none
      else none
    else none
  else
    ret xs4
def f133.l3 (k : Nat) : Nat → (List S104) → Int → (List S104) → Option ((List S104))
  | 0, _, _, _ => none
  | j + 1, xs2, a3, xs4 => f133.l3.step k (fun xs2 a3 xs4 => f133.l3 k j xs2 a3 xs4) some xs2 a3 xs4
def f133.l3.w {R : Type} : ((List S104)) → (Exit → St env → Option R) → Option R := fun t18 K => K (.exit 0) ⟨fullT [3] 0 54 [.v (.c (.row 17))], [(17, .row true 104 t18)], 961⟩
def f133.l3.st (xs2 : List S104) (a3 : Int) (xs4 : List S104) : St env := ⟨fullT [0, 3, 4] 0 54 [.v (.c (.imm 104 xs2)), .v (.c (.row 17)), .v (.c (.s (.int .i64 a3)))], [(17, .row true 104 xs4)], 65⟩
def f133.l8.hd (k : Nat) (ts_ : List (AV env)) (mm_ : Mem env) (n_ : Nat) : LCl env :=
  gTs LCl.no [0, 3, 4, 5, 6] 54 ts_ fun l_ => gV LCl.no l_ fun a_ l_ => rImm LCl.no 104 a_ fun xs5 => gV LCl.no l_ fun a_ l_ => rRow LCl.no 17 a_ <| gV LCl.no l_ fun a_ l_ => rV LCl.no a_ fun v_ => vI LCl.no .i64 v_ fun a6 => gV LCl.no l_ fun a_ l_ => rBp LCl.no 193 0 a_ <| gV LCl.no l_ fun a_ l_ => rV LCl.no a_ fun v_ => vI LCl.no .i64 v_ fun a7 => gE LCl.no l_ <| mRow LCl.no 17 true 104 mm_ fun xs8 m_ => mBox LCl.no 193 m_ fun c_ m_ => gC LCl.no c_ fun a_ c_ => rV LCl.no a_ fun v_ => vS LCl.no v_ fun s9 => gC LCl.no c_ fun a_ c_ => rV LCl.no a_ fun v_ => vS LCl.no v_ fun s10 => gC LCl.no c_ fun a_ c_ => rV LCl.no a_ fun v_ => vI LCl.no .i64 v_ fun a11 => gC LCl.no c_ fun a_ c_ => rV LCl.no a_ fun v_ => vI LCl.no .i64 v_ fun a12 => gC LCl.no c_ fun a_ c_ => rV LCl.no a_ fun v_ => vI LCl.no .i64 v_ fun a13 => gC LCl.no c_ fun a_ c_ => rRow LCl.no 273 a_ <| gE LCl.no c_ <| mRow LCl.no 273 true 211 m_ fun xs14 m_ => gE LCl.no m_ <| gN LCl.no 289 n_ { α := (List S104) × Int × (List S104) × ByteArray × ByteArray × Int × Int × Int × (List S211), o := f133.l8 k k xs5 a6 a7 xs8 s9 s10 a11 a12 a13 xs14, w := f133.l8.w }
def f133.l3.hd (k : Nat) (ts_ : List (AV env)) (mm_ : Mem env) (n_ : Nat) : LCl env :=
  gTs LCl.no [0, 3, 4] 54 ts_ fun l_ => gV LCl.no l_ fun a_ l_ => rImm LCl.no 104 a_ fun xs2 => gV LCl.no l_ fun a_ l_ => rRow LCl.no 17 a_ <| gV LCl.no l_ fun a_ l_ => rV LCl.no a_ fun v_ => vI LCl.no .i64 v_ fun a3 => gE LCl.no l_ <| mRow LCl.no 17 true 104 mm_ fun xs4 m_ => gE LCl.no m_ <| gN LCl.no 65 n_ { α := (List S104), o := f133.l3 k k xs2 a3 xs4, w := f133.l3.w }
def f133.step {R : Type} (k : Nat) (ret : ((List S104)) → Option R) (xs1 : List S104) : Option R :=
  (f133.l3 k k xs1 (0 : Int) ([] : List S104)).bind fun t16 => ret t16
def f133 (k : Nat) (xs1 : List S104) : Option ((List S104)) := f133.step k some xs1
def f133.w {R : Type} : ((List S104)) → (Res env → Option R) → Option R := fun t19 K => K ⟨.v (.c (.own true 104 t19)), [[]]⟩
theorem f133.wn (x : ((List S104))) : ∃ res, ∀ {R : Type} (K : Res env → Option R), f133.w x K = K res := by
  exact ⟨_, fun _ => rfl⟩
def f133.hd (k : Nat) (ps_ : List (P2 env)) : Cl env :=
  gC Cl.no ps_ fun p_ ps_ => qC Cl.no p_ fun c_ => qSl Cl.no 104 c_ fun xs1 => gE Cl.no ps_ <| { α := (List S104), o := f133 k xs1, w := f133.w, nat := fun x _ => f133.wn x }
def f133.e (k : Nat) : Entry env := ⟨fun ps => f133.hd k (coer [[.rd 104]] ps), []⟩
def f133.X (k : Nat) : Ctx env := { C := lookE [], L := lookE [(8, fun S => f133.l8.hd k S.ts S.m S.n), (3, fun S => f133.l3.hd k S.ts S.m S.n)], J := lookE [], keep := lookD [(8, [0, 3, 4, 5, 6]), (3, [0, 3, 4])], keepX := lookD [(8, [0, 3, 4, 5]), (3, [3])], span := lookN [(8, 544), (3, 896)], eff := fun n => memN n [], prep := lookP [(8, [.nilB 193 5 211])], np := 0 }
theorem f133.l8.nat {R : Type} (k : Nat) (rec_ : (List S104) → Int → Int → (List S104) → ByteArray → ByteArray → Int → Int → Int → (List S211) → Option ((List S104) × Int × (List S104) × ByteArray × ByteArray × Int × Int × Int × (List S211))) (g : ((List S104) × Int × (List S104) × ByteArray × ByteArray × Int × Int × Int × (List S211)) → Option R) (xs5 : List S104) (a6 : Int) (a7 : Int) (xs8 : List S104) (s9 : ByteArray) (s10 : ByteArray) (a11 : Int) (a12 : Int) (a13 : Int) (xs14 : List S211) : (f133.l8.step k rec_ some xs5 a6 a7 xs8 s9 s10 a11 a12 a13 xs14).bind g = f133.l8.step k (fun xs5 a6 a7 xs8 s9 s10 a11 a12 a13 xs14 => (rec_ xs5 a6 a7 xs8 s9 s10 a11 a12 a13 xs14).bind g) g xs5 a6 a7 xs8 s9 s10 a11 a12 a13 xs14 := by
  simp only [f133.l8.step, bind_ite, bind_sum, Option.bind_assoc, Option.bind_some, Option.bind_none]
theorem f133.l8.good (k : Nat) (xs5 : List S104) (a6 : Int) (a7 : Int) (xs8 : List S104) (s9 : ByteArray) (s10 : ByteArray) (a11 : Int) (a12 : Int) (a13 : Int) (xs14 : List S211) : GoodL (f133.X k) (nthC 1 (loopsOf (bodyOf Try.f133))) (f133.l8.st xs5 a6 a7 xs8 s9 s10 a11 a12 a13 xs14) { α := ((List S104) × Int × (List S104) × ByteArray × ByteArray × Int × Int × Int × (List S211)), o := f133.l8 k k xs5 a6 a7 xs8 s9 s10 a11 a12 a13 xs14, w := f133.l8.w } :=
  loop_good (ι := (List S104) × Int × Int × (List S104) × ByteArray × ByteArray × Int × Int × Int × (List S211)) (α := ((List S104) × Int × (List S104) × ByteArray × ByteArray × Int × Int × Int × (List S211))) (fun i => f133.l8.st i.1 i.2.1 i.2.2.1 i.2.2.2.1 i.2.2.2.2.1 i.2.2.2.2.2.1 i.2.2.2.2.2.2.1 i.2.2.2.2.2.2.2.1 i.2.2.2.2.2.2.2.2.1 i.2.2.2.2.2.2.2.2.2) (fun j i => f133.l8 k j i.1 i.2.1 i.2.2.1 i.2.2.2.1 i.2.2.2.2.1 i.2.2.2.2.2.1 i.2.2.2.2.2.2.1 i.2.2.2.2.2.2.2.1 i.2.2.2.2.2.2.2.2.1 i.2.2.2.2.2.2.2.2.2) f133.l8.w (fun rec_ ret i => f133.l8.step k (fun xs5 a6 a7 xs8 s9 s10 a11 a12 a13 xs14 => rec_ (xs5, a6, a7, xs8, s9, s10, a11, a12, a13, xs14)) ret i.1 i.2.1 i.2.2.1 i.2.2.2.1 i.2.2.2.2.1 i.2.2.2.2.2.1 i.2.2.2.2.2.2.1 i.2.2.2.2.2.2.2.1 i.2.2.2.2.2.2.2.2.1 i.2.2.2.2.2.2.2.2.2)
    (fun _ => rfl) (fun _ _ => rfl) (fun rec_ g i => f133.l8.nat k _ g i.1 i.2.1 i.2.2.1 i.2.2.2.1 i.2.2.2.2.1 i.2.2.2.2.2.1 i.2.2.2.2.2.2.1 i.2.2.2.2.2.2.2.1 i.2.2.2.2.2.2.2.2.1 i.2.2.2.2.2.2.2.2.2) (fun {R} i0 i rec_ K => by kernel_rfl) k (xs5, a6, a7, xs8, s9, s10, a11, a12, a13, xs14)
theorem f133.l8.all (k : Nat) (S : St env) : GoodL (f133.X k) (nthC 1 (loopsOf (bodyOf Try.f133))) S (f133.l8.hd k S.ts S.m S.n) := by
  obtain ⟨ts_, m_, n_⟩ := S
  show GoodL _ _ _ (f133.l8.hd k ts_ m_ n_)
  unfold f133.l8.hd
  refine gTs_ok (p := GoodL _ _ _) goodL_no fun _ h => ?_
  subst h
  refine gV_ok (p := GoodL _ _ _) goodL_no fun _ _ h => ?_
  subst h
  refine rImm_ok (p := GoodL _ _ _) goodL_no fun _ h => ?_
  subst h
  refine gV_ok (p := GoodL _ _ _) goodL_no fun _ _ h => ?_
  subst h
  refine rRow_ok (p := GoodL _ _ _) goodL_no fun h => ?_
  subst h
  refine gV_ok (p := GoodL _ _ _) goodL_no fun _ _ h => ?_
  subst h
  refine rV_ok (p := GoodL _ _ _) goodL_no fun _ h => ?_
  subst h
  refine vI_ok (p := GoodL _ _ _) goodL_no fun _ h => ?_
  subst h
  refine gV_ok (p := GoodL _ _ _) goodL_no fun _ _ h => ?_
  subst h
  refine rBp_ok (p := GoodL _ _ _) goodL_no fun h => ?_
  subst h
  refine gV_ok (p := GoodL _ _ _) goodL_no fun _ _ h => ?_
  subst h
  refine rV_ok (p := GoodL _ _ _) goodL_no fun _ h => ?_
  subst h
  refine vI_ok (p := GoodL _ _ _) goodL_no fun _ h => ?_
  subst h
  refine gE_ok (p := GoodL _ _ _) goodL_no fun h => ?_
  subst h
  refine mRow_ok (p := GoodL _ _ _) goodL_no fun _ _ h => ?_
  subst h
  refine mBox_ok (p := GoodL _ _ _) goodL_no fun _ _ h => ?_
  subst h
  refine gC_ok (p := GoodL _ _ _) goodL_no fun _ _ h => ?_
  subst h
  refine rV_ok (p := GoodL _ _ _) goodL_no fun _ h => ?_
  subst h
  refine vS_ok (p := GoodL _ _ _) goodL_no fun _ h => ?_
  subst h
  refine gC_ok (p := GoodL _ _ _) goodL_no fun _ _ h => ?_
  subst h
  refine rV_ok (p := GoodL _ _ _) goodL_no fun _ h => ?_
  subst h
  refine vS_ok (p := GoodL _ _ _) goodL_no fun _ h => ?_
  subst h
  refine gC_ok (p := GoodL _ _ _) goodL_no fun _ _ h => ?_
  subst h
  refine rV_ok (p := GoodL _ _ _) goodL_no fun _ h => ?_
  subst h
  refine vI_ok (p := GoodL _ _ _) goodL_no fun _ h => ?_
  subst h
  refine gC_ok (p := GoodL _ _ _) goodL_no fun _ _ h => ?_
  subst h
  refine rV_ok (p := GoodL _ _ _) goodL_no fun _ h => ?_
  subst h
  refine vI_ok (p := GoodL _ _ _) goodL_no fun _ h => ?_
  subst h
  refine gC_ok (p := GoodL _ _ _) goodL_no fun _ _ h => ?_
  subst h
  refine rV_ok (p := GoodL _ _ _) goodL_no fun _ h => ?_
  subst h
  refine vI_ok (p := GoodL _ _ _) goodL_no fun _ h => ?_
  subst h
  refine gC_ok (p := GoodL _ _ _) goodL_no fun _ _ h => ?_
  subst h
  refine rRow_ok (p := GoodL _ _ _) goodL_no fun h => ?_
  subst h
  refine gE_ok (p := GoodL _ _ _) goodL_no fun h => ?_
  subst h
  refine mRow_ok (p := GoodL _ _ _) goodL_no fun _ _ h => ?_
  subst h
  refine gE_ok (p := GoodL _ _ _) goodL_no fun h => ?_
  subst h
  refine gN_ok (p := GoodL _ _ _) goodL_no fun h => ?_
  subst h
  exact f133.l8.good k _ _ _ _ _ _ _ _ _ _
theorem f133.l3.nat {R : Type} (k : Nat) (rec_ : (List S104) → Int → (List S104) → Option ((List S104))) (g : ((List S104)) → Option R) (xs2 : List S104) (a3 : Int) (xs4 : List S104) : (f133.l3.step k rec_ some xs2 a3 xs4).bind g = f133.l3.step k (fun xs2 a3 xs4 => (rec_ xs2 a3 xs4).bind g) g xs2 a3 xs4 := by
  simp only [f133.l3.step, bind_ite, bind_sum, Option.bind_assoc, Option.bind_some, Option.bind_none]
theorem f133.l3.good (k : Nat) (xs2 : List S104) (a3 : Int) (xs4 : List S104) : GoodL (f133.X k) (nthC 0 (loopsOf (bodyOf Try.f133))) (f133.l3.st xs2 a3 xs4) { α := ((List S104)), o := f133.l3 k k xs2 a3 xs4, w := f133.l3.w } :=
  loop_good (ι := (List S104) × Int × (List S104)) (α := ((List S104))) (fun i => f133.l3.st i.1 i.2.1 i.2.2) (fun j i => f133.l3 k j i.1 i.2.1 i.2.2) f133.l3.w (fun rec_ ret i => f133.l3.step k (fun xs2 a3 xs4 => rec_ (xs2, a3, xs4)) ret i.1 i.2.1 i.2.2)
    (fun _ => rfl) (fun _ _ => rfl) (fun rec_ g i => f133.l3.nat k _ g i.1 i.2.1 i.2.2) (fun {R} i0 i rec_ K => by kernel_rfl) k (xs2, a3, xs4)
theorem f133.l3.all (k : Nat) (S : St env) : GoodL (f133.X k) (nthC 0 (loopsOf (bodyOf Try.f133))) S (f133.l3.hd k S.ts S.m S.n) := by
  obtain ⟨ts_, m_, n_⟩ := S
  show GoodL _ _ _ (f133.l3.hd k ts_ m_ n_)
  unfold f133.l3.hd
  refine gTs_ok (p := GoodL _ _ _) goodL_no fun _ h => ?_
  subst h
  refine gV_ok (p := GoodL _ _ _) goodL_no fun _ _ h => ?_
  subst h
  refine rImm_ok (p := GoodL _ _ _) goodL_no fun _ h => ?_
  subst h
  refine gV_ok (p := GoodL _ _ _) goodL_no fun _ _ h => ?_
  subst h
  refine rRow_ok (p := GoodL _ _ _) goodL_no fun h => ?_
  subst h
  refine gV_ok (p := GoodL _ _ _) goodL_no fun _ _ h => ?_
  subst h
  refine rV_ok (p := GoodL _ _ _) goodL_no fun _ h => ?_
  subst h
  refine vI_ok (p := GoodL _ _ _) goodL_no fun _ h => ?_
  subst h
  refine gE_ok (p := GoodL _ _ _) goodL_no fun h => ?_
  subst h
  refine mRow_ok (p := GoodL _ _ _) goodL_no fun _ _ h => ?_
  subst h
  refine gE_ok (p := GoodL _ _ _) goodL_no fun h => ?_
  subst h
  refine gN_ok (p := GoodL _ _ _) goodL_no fun h => ?_
  subst h
  exact f133.l3.good k _ _ _
theorem f133.nat {R : Type} (k : Nat) (g : ((List S104)) → Option R) (xs1 : List S104) : f133.step k g xs1 = (f133 k xs1).bind g := by
  simp only [f133, f133.step, bind_ite, bind_sum, Option.bind_assoc, Option.bind_some, Option.bind_none]
theorem f133.ev (k : Nat) (xs1 : List S104) : evF (f133.X k) (bodyOf Try.f133) Try.f133.ntmps Try.f133.results.toList [.v (.c (.sl 104 xs1))] = f133.step k (fun x => f133.w x some) xs1 := by kernel_rfl
theorem f133.hok (k : Nat) : HOK (f133.X k) (bodyOf Try.f133) where
  l := allP_mem (by exact ⟨ls_of (h0 := fun S => f133.l3.hd k S.ts S.m S.n) (by kernel_rfl) (f133.l3.all k), ls_of (h0 := fun S => f133.l8.hd k S.ts S.m S.n) (by kernel_rfl) (f133.l8.all k), trivial⟩)
  j := allP_mem (by exact trivial)
theorem f133.sound0 (k : Nat) : SoundC env Try.prog 133 (f133.hd k) := by
  intro ps_
  show GoodC _ _ _ ps_ (f133.hd k ps_)
  unfold f133.hd
  refine gC_ok (p := GoodC env Try.prog 133 _) goodC_no fun _ _ h => ?_
  subst h
  refine qC_ok (p := GoodC env Try.prog 133 _) goodC_no fun _ h => ?_
  subst h
  refine qSl_ok (p := GoodC env Try.prog 133 _) goodC_no fun _ h => ?_
  subst h
  refine gE_ok (p := GoodC env Try.prog 133 _) goodC_no fun h => ?_
  subst h
  exact fun_good (fun_sound envOK (cs_sound _ (by exact trivial)) (f133.hok k) Try.func133 rfl) ((f133.ev k _).trans (f133.nat k _ _))
theorem f133.sound (k : Nat) : SoundC env Try.prog 133 (f133.e k).F := soundC_coer (f133.sound0 k) [[.rd 104]]
theorem f133.says (k : Nat) (xs1 : List S104) (t20 : (List S104)) (h_ : f133 k xs1 = some t20) : SoundAt env Try.prog 133 [.v (.c (.sl 104 xs1))] ⟨.v (.c (.own true 104 t20)), [[]]⟩ :=
  fun_sound envOK (cs_sound _ (by exact trivial)) (f133.hok k) Try.func133 rfl _ _ (((f133.ev k xs1).trans (f133.nat k _ xs1)).trans (by rw [h_]; rfl))
theorem f133.fnok : FnOK Try.prog 133 := fn_ok Try.func133 (by kernel_rfl) rfl
def f70.l9.step {R : Type} (k : Nat) (rec_ : (List S104) → Int → Int → (List S104) → Option R) (ret : ((List S104) × (List S104)) → Option R) (xs5 : List S104) (a6 : Int) (a7 : Int) (xs8 : List S104) : Option R :=
  if (decide (a7 < (((List.length xs5) : Nat) : Int))) = true then
    if (0 : Int) ≤ a7 then
      if a7 < ((List.length xs5 : Nat) : Int) then
        if (decide ((List.getD xs5 (Int.toNat a7) (⟨ByteArray.empty, ByteArray.empty, (0 : Int), (0 : Int), (0 : Int), []⟩ : S104)).f4 > a6)) = true then
          if (0 : Int) ≤ a7 then
            if a7 < ((List.length xs5 : Nat) : Int) then
              if (List.length xs8 + List.length ([(⟨(List.getD xs5 (Int.toNat a7) (⟨ByteArray.empty, ByteArray.empty, (0 : Int), (0 : Int), (0 : Int), []⟩ : S104)).f0, (List.getD xs5 (Int.toNat a7) (⟨ByteArray.empty, ByteArray.empty, (0 : Int), (0 : Int), (0 : Int), []⟩ : S104)).f1, (List.getD xs5 (Int.toNat a7) (⟨ByteArray.empty, ByteArray.empty, (0 : Int), (0 : Int), (0 : Int), []⟩ : S104)).f2, (List.getD xs5 (Int.toNat a7) (⟨ByteArray.empty, ByteArray.empty, (0 : Int), (0 : Int), (0 : Int), []⟩ : S104)).f3, (List.getD xs5 (Int.toNat a7) (⟨ByteArray.empty, ByteArray.empty, (0 : Int), (0 : Int), (0 : Int), []⟩ : S104)).f4, (List.getD xs5 (Int.toNat a7) (⟨ByteArray.empty, ByteArray.empty, (0 : Int), (0 : Int), (0 : Int), []⟩ : S104)).f5⟩ : S104)] : List S104)) * 80 ≤ maxN then
                rec_ xs5 a6 (IntKind.i64.wrap (a7 + (1 : Int))) (xs8 ++ ([(⟨(List.getD xs5 (Int.toNat a7) (⟨ByteArray.empty, ByteArray.empty, (0 : Int), (0 : Int), (0 : Int), []⟩ : S104)).f0, (List.getD xs5 (Int.toNat a7) (⟨ByteArray.empty, ByteArray.empty, (0 : Int), (0 : Int), (0 : Int), []⟩ : S104)).f1, (List.getD xs5 (Int.toNat a7) (⟨ByteArray.empty, ByteArray.empty, (0 : Int), (0 : Int), (0 : Int), []⟩ : S104)).f2, (List.getD xs5 (Int.toNat a7) (⟨ByteArray.empty, ByteArray.empty, (0 : Int), (0 : Int), (0 : Int), []⟩ : S104)).f3, (List.getD xs5 (Int.toNat a7) (⟨ByteArray.empty, ByteArray.empty, (0 : Int), (0 : Int), (0 : Int), []⟩ : S104)).f4, (List.getD xs5 (Int.toNat a7) (⟨ByteArray.empty, ByteArray.empty, (0 : Int), (0 : Int), (0 : Int), []⟩ : S104)).f5⟩ : S104)] : List S104))
              else none
            else none
          else none
        else
          rec_ xs5 a6 (IntKind.i64.wrap (a7 + (1 : Int))) xs8
      else none
    else none
  else
    ret (xs5, xs8)
def f70.l9 (k : Nat) : Nat → (List S104) → Int → Int → (List S104) → Option ((List S104) × (List S104))
  | 0, _, _, _, _ => none
  | j + 1, xs5, a6, a7, xs8 => f70.l9.step k (fun xs5 a6 a7 xs8 => f70.l9 k j xs5 a6 a7 xs8) some xs5 a6 a7 xs8
def f70.l9.w {R : Type} : ((List S104) × (List S104)) → (Exit → St env → Option R) → Option R := fun t11 K => K (.exit 0) ⟨fullT [0, 7] 0 49 [.v (.c (.imm 104 t11.1)), .v (.c (.row 194))], [(194, .row false 104 t11.2)], 594⟩
def f70.l9.st (xs5 : List S104) (a6 : Int) (a7 : Int) (xs8 : List S104) : St env := ⟨fullT [0, 1, 7, 8] 0 49 [.v (.c (.imm 104 xs5)), .v (.c (.s (.int .i64 a6))), .v (.c (.row 194)), .v (.c (.s (.int .i64 a7)))], [(194, .row false 104 xs8)], 242⟩
def f70.l9.hd (k : Nat) (ts_ : List (AV env)) (mm_ : Mem env) (n_ : Nat) : LCl env :=
  gTs LCl.no [0, 1, 7, 8] 49 ts_ fun l_ => gV LCl.no l_ fun a_ l_ => rImm LCl.no 104 a_ fun xs5 => gV LCl.no l_ fun a_ l_ => rV LCl.no a_ fun v_ => vI LCl.no .i64 v_ fun a6 => gV LCl.no l_ fun a_ l_ => rRow LCl.no 194 a_ <| gV LCl.no l_ fun a_ l_ => rV LCl.no a_ fun v_ => vI LCl.no .i64 v_ fun a7 => gE LCl.no l_ <| mRow LCl.no 194 false 104 mm_ fun xs8 m_ => gE LCl.no m_ <| gN LCl.no 242 n_ { α := (List S104) × (List S104), o := f70.l9 k k xs5 a6 a7 xs8, w := f70.l9.w }
def f70.step {R : Type} (k : Nat) (ret : ((List S104) × Int × Int) → Option R) (xs1 : List S104) (a2 : Int) : Option R :=
  if (decide ((((List.length xs1) : Nat) : Int) > (4096 : Int))) = true then
    ret (([] : List S104), (0 : Int), (2 : Int))
  else
    (f137 k xs1).bind fun t3 => if (!t3) = true then
        ret (([] : List S104), (0 : Int), (1 : Int))
      else
        (f86 k a2 (0 : Int) (1000000 : Int)).bind fun t4 => if (!t4) = true then
            ret (([] : List S104), (0 : Int), (4 : Int))
          else
            (f70.l9 k k xs1 a2 (0 : Int) ([] : List S104)).bind fun t9 => (f133 k t9.2).bind fun t10 => ret (t10, (IntKind.i64.wrap ((((List.length t9.1) : Nat) : Int) - (((List.length t9.2) : Nat) : Int))), (0 : Int))
def f70 (k : Nat) (xs1 : List S104) (a2 : Int) : Option ((List S104) × Int × Int) := f70.step k some xs1 a2
def f70.w {R : Type} : ((List S104) × Int × Int) → (Res env → Option R) → Option R := fun t12 K => K ⟨.tup [.c (.own true 104 t12.1), .c (.s (.int .i64 t12.2.1)), .c (.s (.int .i64 t12.2.2))], [[], []]⟩
theorem f70.wn (x : ((List S104) × Int × Int)) : ∃ res, ∀ {R : Type} (K : Res env → Option R), f70.w x K = K res := by
  exact ⟨_, fun _ => rfl⟩
def f70.hd (k : Nat) (ps_ : List (P2 env)) : Cl env :=
  gC Cl.no ps_ fun p_ ps_ => qC Cl.no p_ fun c_ => qSl Cl.no 104 c_ fun xs1 => gC Cl.no ps_ fun p_ ps_ => qC Cl.no p_ fun c_ => qS Cl.no c_ fun v_ => vI Cl.no .i64 v_ fun a2 => gE Cl.no ps_ <| { α := (List S104) × Int × Int, o := f70 k xs1 a2, w := f70.w, nat := fun x _ => f70.wn x }
def f70.e (k : Nat) : Entry env := ⟨fun ps => f70.hd k (coer [[.rd 104], [.no]] ps), []⟩
def f70.X (k : Nat) : Ctx env := { C := lookE [(86, f86.e k), (133, f133.e k), (137, f137.e k)], L := lookE [(9, fun S => f70.l9.hd k S.ts S.m S.n)], J := lookE [], keep := lookD [(9, [0, 1, 7, 8])], keepX := lookD [(9, [0, 7])], span := lookN [(9, 352)], eff := fun n => memN n [], prep := lookP [(9, [.weak 194])], np := 0 }
theorem f70.l9.nat {R : Type} (k : Nat) (rec_ : (List S104) → Int → Int → (List S104) → Option ((List S104) × (List S104))) (g : ((List S104) × (List S104)) → Option R) (xs5 : List S104) (a6 : Int) (a7 : Int) (xs8 : List S104) : (f70.l9.step k rec_ some xs5 a6 a7 xs8).bind g = f70.l9.step k (fun xs5 a6 a7 xs8 => (rec_ xs5 a6 a7 xs8).bind g) g xs5 a6 a7 xs8 := by
  simp only [f70.l9.step, bind_ite, bind_sum, Option.bind_assoc, Option.bind_some, Option.bind_none]
theorem f70.l9.good (k : Nat) (xs5 : List S104) (a6 : Int) (a7 : Int) (xs8 : List S104) : GoodL (f70.X k) (nthC 0 (loopsOf (bodyOf Try.f70))) (f70.l9.st xs5 a6 a7 xs8) { α := ((List S104) × (List S104)), o := f70.l9 k k xs5 a6 a7 xs8, w := f70.l9.w } :=
  loop_good (ι := (List S104) × Int × Int × (List S104)) (α := ((List S104) × (List S104))) (fun i => f70.l9.st i.1 i.2.1 i.2.2.1 i.2.2.2) (fun j i => f70.l9 k j i.1 i.2.1 i.2.2.1 i.2.2.2) f70.l9.w (fun rec_ ret i => f70.l9.step k (fun xs5 a6 a7 xs8 => rec_ (xs5, a6, a7, xs8)) ret i.1 i.2.1 i.2.2.1 i.2.2.2)
    (fun _ => rfl) (fun _ _ => rfl) (fun rec_ g i => f70.l9.nat k _ g i.1 i.2.1 i.2.2.1 i.2.2.2) (fun {R} i0 i rec_ K => by kernel_rfl) k (xs5, a6, a7, xs8)
theorem f70.l9.all (k : Nat) (S : St env) : GoodL (f70.X k) (nthC 0 (loopsOf (bodyOf Try.f70))) S (f70.l9.hd k S.ts S.m S.n) := by
  obtain ⟨ts_, m_, n_⟩ := S
  show GoodL _ _ _ (f70.l9.hd k ts_ m_ n_)
  unfold f70.l9.hd
  refine gTs_ok (p := GoodL _ _ _) goodL_no fun _ h => ?_
  subst h
  refine gV_ok (p := GoodL _ _ _) goodL_no fun _ _ h => ?_
  subst h
  refine rImm_ok (p := GoodL _ _ _) goodL_no fun _ h => ?_
  subst h
  refine gV_ok (p := GoodL _ _ _) goodL_no fun _ _ h => ?_
  subst h
  refine rV_ok (p := GoodL _ _ _) goodL_no fun _ h => ?_
  subst h
  refine vI_ok (p := GoodL _ _ _) goodL_no fun _ h => ?_
  subst h
  refine gV_ok (p := GoodL _ _ _) goodL_no fun _ _ h => ?_
  subst h
  refine rRow_ok (p := GoodL _ _ _) goodL_no fun h => ?_
  subst h
  refine gV_ok (p := GoodL _ _ _) goodL_no fun _ _ h => ?_
  subst h
  refine rV_ok (p := GoodL _ _ _) goodL_no fun _ h => ?_
  subst h
  refine vI_ok (p := GoodL _ _ _) goodL_no fun _ h => ?_
  subst h
  refine gE_ok (p := GoodL _ _ _) goodL_no fun h => ?_
  subst h
  refine mRow_ok (p := GoodL _ _ _) goodL_no fun _ _ h => ?_
  subst h
  refine gE_ok (p := GoodL _ _ _) goodL_no fun h => ?_
  subst h
  refine gN_ok (p := GoodL _ _ _) goodL_no fun h => ?_
  subst h
  exact f70.l9.good k _ _ _ _
theorem f70.nat {R : Type} (k : Nat) (g : ((List S104) × Int × Int) → Option R) (xs1 : List S104) (a2 : Int) : f70.step k g xs1 a2 = (f70 k xs1 a2).bind g := by
  simp only [f70, f70.step, bind_ite, bind_sum, Option.bind_assoc, Option.bind_some, Option.bind_none]
theorem f70.ev (k : Nat) (xs1 : List S104) (a2 : Int) : evF (f70.X k) (bodyOf Try.f70) Try.f70.ntmps Try.f70.results.toList [.v (.c (.sl 104 xs1)), .v (.c (.s (.int .i64 a2)))] = f70.step k (fun x => f70.w x some) xs1 a2 := by kernel_rfl
theorem f70.hok (k : Nat) : HOK (f70.X k) (bodyOf Try.f70) where
  l := allP_mem (by exact ⟨ls_of (h0 := fun S => f70.l9.hd k S.ts S.m S.n) (by kernel_rfl) (f70.l9.all k), trivial⟩)
  j := allP_mem (by exact trivial)
theorem f70.sound0 (k : Nat) : SoundC env Try.prog 70 (f70.hd k) := by
  intro ps_
  show GoodC _ _ _ ps_ (f70.hd k ps_)
  unfold f70.hd
  refine gC_ok (p := GoodC env Try.prog 70 _) goodC_no fun _ _ h => ?_
  subst h
  refine qC_ok (p := GoodC env Try.prog 70 _) goodC_no fun _ h => ?_
  subst h
  refine qSl_ok (p := GoodC env Try.prog 70 _) goodC_no fun _ h => ?_
  subst h
  refine gC_ok (p := GoodC env Try.prog 70 _) goodC_no fun _ _ h => ?_
  subst h
  refine qC_ok (p := GoodC env Try.prog 70 _) goodC_no fun _ h => ?_
  subst h
  refine qS_ok (p := GoodC env Try.prog 70 _) goodC_no fun _ h => ?_
  subst h
  refine vI_ok (p := GoodC env Try.prog 70 _) goodC_no fun _ h => ?_
  subst h
  refine gE_ok (p := GoodC env Try.prog 70 _) goodC_no fun h => ?_
  subst h
  exact fun_good (fun_sound envOK (cs_sound _ (by exact ⟨⟨f86.sound k, f86.fnok⟩, ⟨f133.sound k, f133.fnok⟩, ⟨f137.sound k, f137.fnok⟩, trivial⟩)) (f70.hok k) Try.func70 rfl) ((f70.ev k _ _).trans (f70.nat k _ _ _))
theorem f70.sound (k : Nat) : SoundC env Try.prog 70 (f70.e k).F := soundC_coer (f70.sound0 k) [[.rd 104], [.no]]
theorem f70.says (k : Nat) (xs1 : List S104) (a2 : Int) (t13 : (List S104) × Int × Int) (h_ : f70 k xs1 a2 = some t13) : SoundAt env Try.prog 70 [.v (.c (.sl 104 xs1)), .v (.c (.s (.int .i64 a2)))] ⟨.tup [.c (.own true 104 t13.1), .c (.s (.int .i64 t13.2.1)), .c (.s (.int .i64 t13.2.2))], [[], []]⟩ :=
  fun_sound envOK (cs_sound _ (by exact ⟨⟨f86.sound k, f86.fnok⟩, ⟨f133.sound k, f133.fnok⟩, ⟨f137.sound k, f137.fnok⟩, trivial⟩)) (f70.hok k) Try.func70 rfl _ _ (((f70.ev k xs1 a2).trans (f70.nat k _ xs1 a2)).trans (by rw [h_]; rfl))
theorem f70.fnok : FnOK Try.prog 70 := fn_ok Try.func70 (by kernel_rfl) rfl
def f83.step {R : Type} (k : Nat) (ret : Bool → Option R) (a1 : Int) (a2 : Int) (a3 : Int) : Option R :=
  if (decide (a1 ≥ a2)) = true then
    ret (decide (a1 ≤ a3))
  else
    ret false
def f83 (k : Nat) (a1 : Int) (a2 : Int) (a3 : Int) : Option Bool := f83.step k some a1 a2 a3
def f83.w {R : Type} : Bool → (Res env → Option R) → Option R := fun t4 K => K ⟨.v (.c (.s (.bool t4))), [[], [], []]⟩
theorem f83.wn (x : Bool) : ∃ res, ∀ {R : Type} (K : Res env → Option R), f83.w x K = K res := by
  exact ⟨_, fun _ => rfl⟩
def f83.hd (k : Nat) (ps_ : List (P2 env)) : Cl env :=
  gC Cl.no ps_ fun p_ ps_ => qC Cl.no p_ fun c_ => qS Cl.no c_ fun v_ => vI Cl.no .i64 v_ fun a1 => gC Cl.no ps_ fun p_ ps_ => qC Cl.no p_ fun c_ => qS Cl.no c_ fun v_ => vI Cl.no .i64 v_ fun a2 => gC Cl.no ps_ fun p_ ps_ => qC Cl.no p_ fun c_ => qS Cl.no c_ fun v_ => vI Cl.no .i64 v_ fun a3 => gE Cl.no ps_ <| { α := Bool, o := f83 k a1 a2 a3, w := f83.w, nat := fun x _ => f83.wn x }
def f83.e (k : Nat) : Entry env := ⟨f83.hd k, []⟩
def f83.X (k : Nat) : Ctx env := { C := lookE [], L := lookE [], J := lookE [], keep := lookD [], keepX := lookD [], span := lookN [], eff := fun n => memN n [], prep := lookP [], np := 0 }
theorem f83.nat {R : Type} (k : Nat) (g : Bool → Option R) (a1 : Int) (a2 : Int) (a3 : Int) : f83.step k g a1 a2 a3 = (f83 k a1 a2 a3).bind g := by
  simp only [f83, f83.step, bind_ite, bind_sum, Option.bind_assoc, Option.bind_some, Option.bind_none]
theorem f83.ev (k : Nat) (a1 : Int) (a2 : Int) (a3 : Int) : evF (f83.X k) (bodyOf Try.f83) Try.f83.ntmps Try.f83.results.toList [.v (.c (.s (.int .i64 a1))), .v (.c (.s (.int .i64 a2))), .v (.c (.s (.int .i64 a3)))] = f83.step k (fun x => f83.w x some) a1 a2 a3 := by kernel_rfl
theorem f83.hok (k : Nat) : HOK (f83.X k) (bodyOf Try.f83) where
  l := allP_mem (by exact trivial)
  j := allP_mem (by exact trivial)
theorem f83.sound (k : Nat) : SoundC env Try.prog 83 ((f83.e k).F) := by
  intro ps_
  show GoodC _ _ _ ps_ (f83.hd k ps_)
  unfold f83.hd
  refine gC_ok (p := GoodC env Try.prog 83 _) goodC_no fun _ _ h => ?_
  subst h
  refine qC_ok (p := GoodC env Try.prog 83 _) goodC_no fun _ h => ?_
  subst h
  refine qS_ok (p := GoodC env Try.prog 83 _) goodC_no fun _ h => ?_
  subst h
  refine vI_ok (p := GoodC env Try.prog 83 _) goodC_no fun _ h => ?_
  subst h
  refine gC_ok (p := GoodC env Try.prog 83 _) goodC_no fun _ _ h => ?_
  subst h
  refine qC_ok (p := GoodC env Try.prog 83 _) goodC_no fun _ h => ?_
  subst h
  refine qS_ok (p := GoodC env Try.prog 83 _) goodC_no fun _ h => ?_
  subst h
  refine vI_ok (p := GoodC env Try.prog 83 _) goodC_no fun _ h => ?_
  subst h
  refine gC_ok (p := GoodC env Try.prog 83 _) goodC_no fun _ _ h => ?_
  subst h
  refine qC_ok (p := GoodC env Try.prog 83 _) goodC_no fun _ h => ?_
  subst h
  refine qS_ok (p := GoodC env Try.prog 83 _) goodC_no fun _ h => ?_
  subst h
  refine vI_ok (p := GoodC env Try.prog 83 _) goodC_no fun _ h => ?_
  subst h
  refine gE_ok (p := GoodC env Try.prog 83 _) goodC_no fun h => ?_
  subst h
  exact fun_good (fun_sound envOK (cs_sound _ (by exact trivial)) (f83.hok k) Try.func83 rfl) ((f83.ev k _ _ _).trans (f83.nat k _ _ _ _))
theorem f83.says (k : Nat) (a1 : Int) (a2 : Int) (a3 : Int) (t5 : Bool) (h_ : f83 k a1 a2 a3 = some t5) : SoundAt env Try.prog 83 [.v (.c (.s (.int .i64 a1))), .v (.c (.s (.int .i64 a2))), .v (.c (.s (.int .i64 a3)))] ⟨.v (.c (.s (.bool t5))), [[], [], []]⟩ :=
  fun_sound envOK (cs_sound _ (by exact trivial)) (f83.hok k) Try.func83 rfl _ _ (((f83.ev k a1 a2 a3).trans (f83.nat k _ a1 a2 a3)).trans (by rw [h_]; rfl))
theorem f83.fnok : FnOK Try.prog 83 := fn_ok Try.func83 (by kernel_rfl) rfl
def f196.step {R : Type} (k : Nat) (ret : Bool → Option R) (a1 : Int) (b2 : Bool) (xs3 : List Int) : Option R :=
  (f83 k a1 (0 : Int) (65515 : Int)).bind fun t4 => if (!t4) = false then
      if (decide ((Int.tmod a1 (8 : Int)) ≠ (0 : Int))) = false then
        if (decide ((((List.length xs3) : Nat) : Int) > (1500 : Int))) = false then
          if (decide ((IntKind.i64.wrap (a1 + (((List.length xs3) : Nat) : Int))) > (65515 : Int))) = true then
            ret false
          else
            if b2 = false then
              if (decide ((((List.length xs3) : Nat) : Int) > (0 : Int))) = true then
                ret (decide ((Int.tmod (((List.length xs3) : Nat) : Int) (8 : Int)) = (0 : Int)))
              else
                ret false
            else
              ret true
        else
          ret false
      else
        ret false
    else
      ret false
def f196 (k : Nat) (a1 : Int) (b2 : Bool) (xs3 : List Int) : Option Bool := f196.step k some a1 b2 xs3
def f196.w {R : Type} : Bool → (Res env → Option R) → Option R := fun t5 K => K ⟨.v (.c (.s (.bool t5))), [[]]⟩
theorem f196.wn (x : Bool) : ∃ res, ∀ {R : Type} (K : Res env → Option R), f196.w x K = K res := by
  exact ⟨_, fun _ => rfl⟩
def f196.hd (k : Nat) (ps_ : List (P2 env)) : Cl env :=
  gC Cl.no ps_ fun p_ ps_ => qG Cl.no p_ fun cs_ => gC Cl.no cs_ fun c_ cs_ => qS Cl.no c_ fun v_ => vI Cl.no .i64 v_ fun a1 => gC Cl.no cs_ fun c_ cs_ => qS Cl.no c_ fun v_ => vB Cl.no v_ fun b2 => gC Cl.no cs_ fun c_ cs_ => qSl Cl.no 5 c_ fun xs3 => gE Cl.no cs_ <| gE Cl.no ps_ <| { α := Bool, o := f196 k a1 b2 xs3, w := f196.w, nat := fun x _ => f196.wn x }
def f196.e (k : Nat) : Entry env := ⟨fun ps => f196.hd k (coer [[.no, .no, .rd 5]] ps), []⟩
def f196.X (k : Nat) : Ctx env := { C := lookE [(83, f83.e k)], L := lookE [], J := lookE [], keep := lookD [], keepX := lookD [], span := lookN [], eff := fun n => memN n [], prep := lookP [], np := 0 }
theorem f196.nat {R : Type} (k : Nat) (g : Bool → Option R) (a1 : Int) (b2 : Bool) (xs3 : List Int) : f196.step k g a1 b2 xs3 = (f196 k a1 b2 xs3).bind g := by
  simp only [f196, f196.step, bind_ite, bind_sum, Option.bind_assoc, Option.bind_some, Option.bind_none]
theorem f196.ev (k : Nat) (a1 : Int) (b2 : Bool) (xs3 : List Int) : evF (f196.X k) (bodyOf Try.f196) Try.f196.ntmps Try.f196.results.toList [.g [.s (.int .i64 a1), .s (.bool b2), .sl 5 xs3]] = f196.step k (fun x => f196.w x some) a1 b2 xs3 := by kernel_rfl
theorem f196.hok (k : Nat) : HOK (f196.X k) (bodyOf Try.f196) where
  l := allP_mem (by exact trivial)
  j := allP_mem (by exact trivial)
theorem f196.sound0 (k : Nat) : SoundC env Try.prog 196 (f196.hd k) := by
  intro ps_
  show GoodC _ _ _ ps_ (f196.hd k ps_)
  unfold f196.hd
  refine gC_ok (p := GoodC env Try.prog 196 _) goodC_no fun _ _ h => ?_
  subst h
  refine qG_ok (p := GoodC env Try.prog 196 _) goodC_no fun _ h => ?_
  subst h
  refine gC_ok (p := GoodC env Try.prog 196 _) goodC_no fun _ _ h => ?_
  subst h
  refine qS_ok (p := GoodC env Try.prog 196 _) goodC_no fun _ h => ?_
  subst h
  refine vI_ok (p := GoodC env Try.prog 196 _) goodC_no fun _ h => ?_
  subst h
  refine gC_ok (p := GoodC env Try.prog 196 _) goodC_no fun _ _ h => ?_
  subst h
  refine qS_ok (p := GoodC env Try.prog 196 _) goodC_no fun _ h => ?_
  subst h
  refine vB_ok (p := GoodC env Try.prog 196 _) goodC_no fun _ h => ?_
  subst h
  refine gC_ok (p := GoodC env Try.prog 196 _) goodC_no fun _ _ h => ?_
  subst h
  refine qSl_ok (p := GoodC env Try.prog 196 _) goodC_no fun _ h => ?_
  subst h
  refine gE_ok (p := GoodC env Try.prog 196 _) goodC_no fun h => ?_
  subst h
  refine gE_ok (p := GoodC env Try.prog 196 _) goodC_no fun h => ?_
  subst h
  exact fun_good (fun_sound envOK (cs_sound _ (by exact ⟨⟨f83.sound k, f83.fnok⟩, trivial⟩)) (f196.hok k) Try.func196 rfl) ((f196.ev k _ _ _).trans (f196.nat k _ _ _ _))
theorem f196.sound (k : Nat) : SoundC env Try.prog 196 (f196.e k).F := soundC_coer (f196.sound0 k) [[.no, .no, .rd 5]]
theorem f196.says (k : Nat) (a1 : Int) (b2 : Bool) (xs3 : List Int) (t6 : Bool) (h_ : f196 k a1 b2 xs3 = some t6) : SoundAt env Try.prog 196 [.g [.s (.int .i64 a1), .s (.bool b2), .sl 5 xs3]] ⟨.v (.c (.s (.bool t6))), [[]]⟩ :=
  fun_sound envOK (cs_sound _ (by exact ⟨⟨f83.sound k, f83.fnok⟩, trivial⟩)) (f196.hok k) Try.func196 rfl _ _ (((f196.ev k a1 b2 xs3).trans (f196.nat k _ a1 b2 xs3)).trans (by rw [h_]; rfl))
theorem f196.fnok : FnOK Try.prog 196 := fn_ok Try.func196 (by kernel_rfl) rfl
def f197.step {R : Type} (k : Nat) (ret : Bool → Option R) (a1 : Int) (b2 : Bool) (xs3 : List Int) (a4 : Int) (b5 : Bool) (xs6 : List Int) : Option R :=
  if (decide (a1 < (IntKind.i64.wrap (a4 + (((List.length xs6) : Nat) : Int))))) = true then
    ret (decide (a4 < (IntKind.i64.wrap (a1 + (((List.length xs3) : Nat) : Int)))))
  else
    ret false
def f197 (k : Nat) (a1 : Int) (b2 : Bool) (xs3 : List Int) (a4 : Int) (b5 : Bool) (xs6 : List Int) : Option Bool := f197.step k some a1 b2 xs3 a4 b5 xs6
def f197.w {R : Type} : Bool → (Res env → Option R) → Option R := fun t7 K => K ⟨.v (.c (.s (.bool t7))), [[], []]⟩
theorem f197.wn (x : Bool) : ∃ res, ∀ {R : Type} (K : Res env → Option R), f197.w x K = K res := by
  exact ⟨_, fun _ => rfl⟩
def f197.hd (k : Nat) (ps_ : List (P2 env)) : Cl env :=
  gC Cl.no ps_ fun p_ ps_ => qG Cl.no p_ fun cs_ => gC Cl.no cs_ fun c_ cs_ => qS Cl.no c_ fun v_ => vI Cl.no .i64 v_ fun a1 => gC Cl.no cs_ fun c_ cs_ => qS Cl.no c_ fun v_ => vB Cl.no v_ fun b2 => gC Cl.no cs_ fun c_ cs_ => qSl Cl.no 5 c_ fun xs3 => gE Cl.no cs_ <| gC Cl.no ps_ fun p_ ps_ => qG Cl.no p_ fun cs_ => gC Cl.no cs_ fun c_ cs_ => qS Cl.no c_ fun v_ => vI Cl.no .i64 v_ fun a4 => gC Cl.no cs_ fun c_ cs_ => qS Cl.no c_ fun v_ => vB Cl.no v_ fun b5 => gC Cl.no cs_ fun c_ cs_ => qSl Cl.no 5 c_ fun xs6 => gE Cl.no cs_ <| gE Cl.no ps_ <| { α := Bool, o := f197 k a1 b2 xs3 a4 b5 xs6, w := f197.w, nat := fun x _ => f197.wn x }
def f197.e (k : Nat) : Entry env := ⟨fun ps => f197.hd k (coer [[.no, .no, .rd 5], [.no, .no, .rd 5]] ps), []⟩
def f197.X (k : Nat) : Ctx env := { C := lookE [], L := lookE [], J := lookE [], keep := lookD [], keepX := lookD [], span := lookN [], eff := fun n => memN n [], prep := lookP [], np := 0 }
theorem f197.nat {R : Type} (k : Nat) (g : Bool → Option R) (a1 : Int) (b2 : Bool) (xs3 : List Int) (a4 : Int) (b5 : Bool) (xs6 : List Int) : f197.step k g a1 b2 xs3 a4 b5 xs6 = (f197 k a1 b2 xs3 a4 b5 xs6).bind g := by
  simp only [f197, f197.step, bind_ite, bind_sum, Option.bind_assoc, Option.bind_some, Option.bind_none]
theorem f197.ev (k : Nat) (a1 : Int) (b2 : Bool) (xs3 : List Int) (a4 : Int) (b5 : Bool) (xs6 : List Int) : evF (f197.X k) (bodyOf Try.f197) Try.f197.ntmps Try.f197.results.toList [.g [.s (.int .i64 a1), .s (.bool b2), .sl 5 xs3], .g [.s (.int .i64 a4), .s (.bool b5), .sl 5 xs6]] = f197.step k (fun x => f197.w x some) a1 b2 xs3 a4 b5 xs6 := by kernel_rfl
theorem f197.hok (k : Nat) : HOK (f197.X k) (bodyOf Try.f197) where
  l := allP_mem (by exact trivial)
  j := allP_mem (by exact trivial)
theorem f197.sound0 (k : Nat) : SoundC env Try.prog 197 (f197.hd k) := by
  intro ps_
  show GoodC _ _ _ ps_ (f197.hd k ps_)
  unfold f197.hd
  refine gC_ok (p := GoodC env Try.prog 197 _) goodC_no fun _ _ h => ?_
  subst h
  refine qG_ok (p := GoodC env Try.prog 197 _) goodC_no fun _ h => ?_
  subst h
  refine gC_ok (p := GoodC env Try.prog 197 _) goodC_no fun _ _ h => ?_
  subst h
  refine qS_ok (p := GoodC env Try.prog 197 _) goodC_no fun _ h => ?_
  subst h
  refine vI_ok (p := GoodC env Try.prog 197 _) goodC_no fun _ h => ?_
  subst h
  refine gC_ok (p := GoodC env Try.prog 197 _) goodC_no fun _ _ h => ?_
  subst h
  refine qS_ok (p := GoodC env Try.prog 197 _) goodC_no fun _ h => ?_
  subst h
  refine vB_ok (p := GoodC env Try.prog 197 _) goodC_no fun _ h => ?_
  subst h
  refine gC_ok (p := GoodC env Try.prog 197 _) goodC_no fun _ _ h => ?_
  subst h
  refine qSl_ok (p := GoodC env Try.prog 197 _) goodC_no fun _ h => ?_
  subst h
  refine gE_ok (p := GoodC env Try.prog 197 _) goodC_no fun h => ?_
  subst h
  refine gC_ok (p := GoodC env Try.prog 197 _) goodC_no fun _ _ h => ?_
  subst h
  refine qG_ok (p := GoodC env Try.prog 197 _) goodC_no fun _ h => ?_
  subst h
  refine gC_ok (p := GoodC env Try.prog 197 _) goodC_no fun _ _ h => ?_
  subst h
  refine qS_ok (p := GoodC env Try.prog 197 _) goodC_no fun _ h => ?_
  subst h
  refine vI_ok (p := GoodC env Try.prog 197 _) goodC_no fun _ h => ?_
  subst h
  refine gC_ok (p := GoodC env Try.prog 197 _) goodC_no fun _ _ h => ?_
  subst h
  refine qS_ok (p := GoodC env Try.prog 197 _) goodC_no fun _ h => ?_
  subst h
  refine vB_ok (p := GoodC env Try.prog 197 _) goodC_no fun _ h => ?_
  subst h
  refine gC_ok (p := GoodC env Try.prog 197 _) goodC_no fun _ _ h => ?_
  subst h
  refine qSl_ok (p := GoodC env Try.prog 197 _) goodC_no fun _ h => ?_
  subst h
  refine gE_ok (p := GoodC env Try.prog 197 _) goodC_no fun h => ?_
  subst h
  refine gE_ok (p := GoodC env Try.prog 197 _) goodC_no fun h => ?_
  subst h
  exact fun_good (fun_sound envOK (cs_sound _ (by exact trivial)) (f197.hok k) Try.func197 rfl) ((f197.ev k _ _ _ _ _ _).trans (f197.nat k _ _ _ _ _ _ _))
theorem f197.sound (k : Nat) : SoundC env Try.prog 197 (f197.e k).F := soundC_coer (f197.sound0 k) [[.no, .no, .rd 5], [.no, .no, .rd 5]]
theorem f197.says (k : Nat) (a1 : Int) (b2 : Bool) (xs3 : List Int) (a4 : Int) (b5 : Bool) (xs6 : List Int) (t8 : Bool) (h_ : f197 k a1 b2 xs3 a4 b5 xs6 = some t8) : SoundAt env Try.prog 197 [.g [.s (.int .i64 a1), .s (.bool b2), .sl 5 xs3], .g [.s (.int .i64 a4), .s (.bool b5), .sl 5 xs6]] ⟨.v (.c (.s (.bool t8))), [[], []]⟩ :=
  fun_sound envOK (cs_sound _ (by exact trivial)) (f197.hok k) Try.func197 rfl _ _ (((f197.ev k a1 b2 xs3 a4 b5 xs6).trans (f197.nat k _ a1 b2 xs3 a4 b5 xs6)).trans (by rw [h_]; rfl))
theorem f197.fnok : FnOK Try.prog 197 := fn_ok Try.func197 (by kernel_rfl) rfl
def f198.l3.step {R : Type} (k : Nat) (rec_ : (List S211) → Int → (List S211) → Int → Int → Option R) (ret : (((List S211) × Bool) ⊕ ((List S211))) → Option R) (xs2 : List S211) (a3 : Int) (xs4 : List S211) (a5 : Int) (a6 : Int) : Option R :=
  if (decide (a6 < a5)) = true then
    if (0 : Int) ≤ a6 then
      if a6 < ((List.length xs4 : Nat) : Int) then
        if (decide ((List.getD xs4 (Int.toNat a6) (⟨(0 : Int), false, []⟩ : S211)).f0 ≠ a3)) = true then
          ret (.inl (xs2, false))
        else
          rec_ xs2 (IntKind.i64.wrap (a3 + (((List.length (List.getD xs4 (Int.toNat a6) (⟨(0 : Int), false, []⟩ : S211)).f2) : Nat) : Int))) xs4 a5 (IntKind.i64.wrap (a6 + (1 : Int)))
      else none
    else none
  else
    ret (.inr xs2)
def f198.l3 (k : Nat) : Nat → (List S211) → Int → (List S211) → Int → Int → Option (((List S211) × Bool) ⊕ ((List S211)))
  | 0, _, _, _, _, _ => none
  | j + 1, xs2, a3, xs4, a5, a6 => f198.l3.step k (fun xs2 a3 xs4 a5 a6 => f198.l3 k j xs2 a3 xs4 a5 a6) some xs2 a3 xs4 a5 a6
def f198.l3.w {R : Type} : (((List S211) × Bool) ⊕ ((List S211))) → (Exit → St env → Option R) → Option R := fun x K => Sum.elim (fun t9 => K .ret ⟨fullT [0, 2] 0 34 [.v (.c (.imm 211 t9.1)), .v (.c (.s (.bool t9.2)))], [], 369⟩) (fun t10 => K (.exit 0) ⟨fullT [0] 0 34 [.v (.c (.imm 211 t10))], [], 369⟩) x
def f198.l3.st (xs2 : List S211) (a3 : Int) (xs4 : List S211) (a5 : Int) (a6 : Int) : St env := ⟨fullT [0, 3, 6, 7, 8] 0 34 [.v (.c (.imm 211 xs2)), .v (.c (.s (.int .i64 a3))), .v (.c (.imm 211 xs4)), .v (.c (.s (.int .i64 a5))), .v (.c (.s (.int .i64 a6)))], [], 81⟩
def f198.l3.hd (k : Nat) (ts_ : List (AV env)) (mm_ : Mem env) (n_ : Nat) : LCl env :=
  gTs LCl.no [0, 3, 6, 7, 8] 34 ts_ fun l_ => gV LCl.no l_ fun a_ l_ => rImm LCl.no 211 a_ fun xs2 => gV LCl.no l_ fun a_ l_ => rV LCl.no a_ fun v_ => vI LCl.no .i64 v_ fun a3 => gV LCl.no l_ fun a_ l_ => rImm LCl.no 211 a_ fun xs4 => gV LCl.no l_ fun a_ l_ => rV LCl.no a_ fun v_ => vI LCl.no .i64 v_ fun a5 => gV LCl.no l_ fun a_ l_ => rV LCl.no a_ fun v_ => vI LCl.no .i64 v_ fun a6 => gE LCl.no l_ <| gE LCl.no mm_ <| gN LCl.no 81 n_ { α := ((List S211) × Bool) ⊕ ((List S211)), o := f198.l3 k k xs2 a3 xs4 a5 a6, w := f198.l3.w }
def f198.step {R : Type} (k : Nat) (ret : Bool → Option R) (xs1 : List S211) : Option R :=
  (f198.l3 k k xs1 (0 : Int) xs1 (((List.length xs1) : Nat) : Int) (0 : Int)).bind (Sum.elim (fun t7 => ret t7.2) (fun t8 => if (decide ((((List.length t8) : Nat) : Int) > (0 : Int))) = true then
      if (0 : Int) ≤ (IntKind.i64.wrap ((((List.length t8) : Nat) : Int) - (1 : Int))) then
        if (IntKind.i64.wrap ((((List.length t8) : Nat) : Int) - (1 : Int))) < ((List.length t8 : Nat) : Int) then
          ret (List.getD t8 (Int.toNat (IntKind.i64.wrap ((((List.length t8) : Nat) : Int) - (1 : Int)))) (⟨(0 : Int), false, []⟩ : S211)).f1
        else none
      else none
    else
      ret false))
def f198 (k : Nat) (xs1 : List S211) : Option Bool := f198.step k some xs1
def f198.w {R : Type} : Bool → (Res env → Option R) → Option R := fun t11 K => K ⟨.v (.c (.s (.bool t11))), [[]]⟩
theorem f198.wn (x : Bool) : ∃ res, ∀ {R : Type} (K : Res env → Option R), f198.w x K = K res := by
  exact ⟨_, fun _ => rfl⟩
def f198.hd (k : Nat) (ps_ : List (P2 env)) : Cl env :=
  gC Cl.no ps_ fun p_ ps_ => qC Cl.no p_ fun c_ => qSl Cl.no 211 c_ fun xs1 => gE Cl.no ps_ <| { α := Bool, o := f198 k xs1, w := f198.w, nat := fun x _ => f198.wn x }
def f198.e (k : Nat) : Entry env := ⟨fun ps => f198.hd k (coer [[.rd 211]] ps), []⟩
def f198.X (k : Nat) : Ctx env := { C := lookE [], L := lookE [(3, fun S => f198.l3.hd k S.ts S.m S.n)], J := lookE [], keep := lookD [(3, [0, 3, 6, 7, 8])], keepX := lookD [(3, [0, 2])], span := lookN [(3, 288)], eff := fun n => memN n [], prep := lookP [], np := 0 }
theorem f198.l3.nat {R : Type} (k : Nat) (rec_ : (List S211) → Int → (List S211) → Int → Int → Option (((List S211) × Bool) ⊕ ((List S211)))) (g : (((List S211) × Bool) ⊕ ((List S211))) → Option R) (xs2 : List S211) (a3 : Int) (xs4 : List S211) (a5 : Int) (a6 : Int) : (f198.l3.step k rec_ some xs2 a3 xs4 a5 a6).bind g = f198.l3.step k (fun xs2 a3 xs4 a5 a6 => (rec_ xs2 a3 xs4 a5 a6).bind g) g xs2 a3 xs4 a5 a6 := by
  simp only [f198.l3.step, bind_ite, bind_sum, Option.bind_assoc, Option.bind_some, Option.bind_none]
theorem f198.l3.good (k : Nat) (xs2 : List S211) (a3 : Int) (xs4 : List S211) (a5 : Int) (a6 : Int) : GoodL (f198.X k) (nthC 0 (loopsOf (bodyOf Try.f198))) (f198.l3.st xs2 a3 xs4 a5 a6) { α := (((List S211) × Bool) ⊕ ((List S211))), o := f198.l3 k k xs2 a3 xs4 a5 a6, w := f198.l3.w } :=
  loop_good (ι := (List S211) × Int × (List S211) × Int × Int) (α := (((List S211) × Bool) ⊕ ((List S211)))) (fun i => f198.l3.st i.1 i.2.1 i.2.2.1 i.2.2.2.1 i.2.2.2.2) (fun j i => f198.l3 k j i.1 i.2.1 i.2.2.1 i.2.2.2.1 i.2.2.2.2) f198.l3.w (fun rec_ ret i => f198.l3.step k (fun xs2 a3 xs4 a5 a6 => rec_ (xs2, a3, xs4, a5, a6)) ret i.1 i.2.1 i.2.2.1 i.2.2.2.1 i.2.2.2.2)
    (fun _ => rfl) (fun _ _ => rfl) (fun rec_ g i => f198.l3.nat k _ g i.1 i.2.1 i.2.2.1 i.2.2.2.1 i.2.2.2.2) (fun {R} i0 i rec_ K => by kernel_rfl) k (xs2, a3, xs4, a5, a6)
theorem f198.l3.all (k : Nat) (S : St env) : GoodL (f198.X k) (nthC 0 (loopsOf (bodyOf Try.f198))) S (f198.l3.hd k S.ts S.m S.n) := by
  obtain ⟨ts_, m_, n_⟩ := S
  show GoodL _ _ _ (f198.l3.hd k ts_ m_ n_)
  unfold f198.l3.hd
  refine gTs_ok (p := GoodL _ _ _) goodL_no fun _ h => ?_
  subst h
  refine gV_ok (p := GoodL _ _ _) goodL_no fun _ _ h => ?_
  subst h
  refine rImm_ok (p := GoodL _ _ _) goodL_no fun _ h => ?_
  subst h
  refine gV_ok (p := GoodL _ _ _) goodL_no fun _ _ h => ?_
  subst h
  refine rV_ok (p := GoodL _ _ _) goodL_no fun _ h => ?_
  subst h
  refine vI_ok (p := GoodL _ _ _) goodL_no fun _ h => ?_
  subst h
  refine gV_ok (p := GoodL _ _ _) goodL_no fun _ _ h => ?_
  subst h
  refine rImm_ok (p := GoodL _ _ _) goodL_no fun _ h => ?_
  subst h
  refine gV_ok (p := GoodL _ _ _) goodL_no fun _ _ h => ?_
  subst h
  refine rV_ok (p := GoodL _ _ _) goodL_no fun _ h => ?_
  subst h
  refine vI_ok (p := GoodL _ _ _) goodL_no fun _ h => ?_
  subst h
  refine gV_ok (p := GoodL _ _ _) goodL_no fun _ _ h => ?_
  subst h
  refine rV_ok (p := GoodL _ _ _) goodL_no fun _ h => ?_
  subst h
  refine vI_ok (p := GoodL _ _ _) goodL_no fun _ h => ?_
  subst h
  refine gE_ok (p := GoodL _ _ _) goodL_no fun h => ?_
  subst h
  refine gE_ok (p := GoodL _ _ _) goodL_no fun h => ?_
  subst h
  refine gN_ok (p := GoodL _ _ _) goodL_no fun h => ?_
  subst h
  exact f198.l3.good k _ _ _ _ _
theorem f198.nat {R : Type} (k : Nat) (g : Bool → Option R) (xs1 : List S211) : f198.step k g xs1 = (f198 k xs1).bind g := by
  simp only [f198, f198.step, bind_ite, bind_sum, Option.bind_assoc, Option.bind_some, Option.bind_none]
theorem f198.ev (k : Nat) (xs1 : List S211) : evF (f198.X k) (bodyOf Try.f198) Try.f198.ntmps Try.f198.results.toList [.v (.c (.sl 211 xs1))] = f198.step k (fun x => f198.w x some) xs1 := by kernel_rfl
theorem f198.hok (k : Nat) : HOK (f198.X k) (bodyOf Try.f198) where
  l := allP_mem (by exact ⟨ls_of (h0 := fun S => f198.l3.hd k S.ts S.m S.n) (by kernel_rfl) (f198.l3.all k), trivial⟩)
  j := allP_mem (by exact trivial)
theorem f198.sound0 (k : Nat) : SoundC env Try.prog 198 (f198.hd k) := by
  intro ps_
  show GoodC _ _ _ ps_ (f198.hd k ps_)
  unfold f198.hd
  refine gC_ok (p := GoodC env Try.prog 198 _) goodC_no fun _ _ h => ?_
  subst h
  refine qC_ok (p := GoodC env Try.prog 198 _) goodC_no fun _ h => ?_
  subst h
  refine qSl_ok (p := GoodC env Try.prog 198 _) goodC_no fun _ h => ?_
  subst h
  refine gE_ok (p := GoodC env Try.prog 198 _) goodC_no fun h => ?_
  subst h
  exact fun_good (fun_sound envOK (cs_sound _ (by exact trivial)) (f198.hok k) Try.func198 rfl) ((f198.ev k _).trans (f198.nat k _ _))
theorem f198.sound (k : Nat) : SoundC env Try.prog 198 (f198.e k).F := soundC_coer (f198.sound0 k) [[.rd 211]]
theorem f198.says (k : Nat) (xs1 : List S211) (t12 : Bool) (h_ : f198 k xs1 = some t12) : SoundAt env Try.prog 198 [.v (.c (.sl 211 xs1))] ⟨.v (.c (.s (.bool t12))), [[]]⟩ :=
  fun_sound envOK (cs_sound _ (by exact trivial)) (f198.hok k) Try.func198 rfl _ _ (((f198.ev k xs1).trans (f198.nat k _ xs1)).trans (by rw [h_]; rfl))
theorem f198.fnok : FnOK Try.prog 198 := fn_ok Try.func198 (by kernel_rfl) rfl
def f175.l6.step {R : Type} (k : Nat) (rec_ : (List S211) → Int → Int → ByteArray → ByteArray → Int → Int → Int → (List S211) → Option R) (ret : ((Bool × ByteArray × ByteArray × Int × Int × Int × (List S211)) ⊕ (ByteArray × ByteArray × Int × Int × Int × (List S211))) → Option R) (xs11 : List S211) (a12 : Int) (a13 : Int) (s14 : ByteArray) (s15 : ByteArray) (a16 : Int) (a17 : Int) (a18 : Int) (xs19 : List S211) : Option R :=
  if (decide (a13 < a12)) = true then
    if (0 : Int) ≤ a13 then
      if a13 < ((List.length xs11 : Nat) : Int) then
        (f196 k (List.getD xs11 (Int.toNat a13) (⟨(0 : Int), false, []⟩ : S211)).f0 (List.getD xs11 (Int.toNat a13) (⟨(0 : Int), false, []⟩ : S211)).f1 (List.getD xs11 (Int.toNat a13) (⟨(0 : Int), false, []⟩ : S211)).f2).bind fun t20 => if (!t20) = false then
            if (List.getD xs11 (Int.toNat a13) (⟨(0 : Int), false, []⟩ : S211)).f1 = true then
              if (decide (a13 < (IntKind.i64.wrap ((((List.length xs19) : Nat) : Int) - (1 : Int))))) = true then
                ret (.inl (false, s14, s15, a16, a17, a18, xs19))
              else
                if (decide (a13 > (0 : Int))) = true then
                  if (0 : Int) ≤ (IntKind.i64.wrap (a13 - (1 : Int))) then
                    if (IntKind.i64.wrap (a13 - (1 : Int))) < ((List.length xs19 : Nat) : Int) then
                      if (decide ((List.getD xs11 (Int.toNat a13) (⟨(0 : Int), false, []⟩ : S211)).f0 ≤ (List.getD xs19 (Int.toNat (IntKind.i64.wrap (a13 - (1 : Int)))) (⟨(0 : Int), false, []⟩ : S211)).f0)) = false then
                        if (0 : Int) ≤ (IntKind.i64.wrap (a13 - (1 : Int))) then
                          if (IntKind.i64.wrap (a13 - (1 : Int))) < ((List.length xs19 : Nat) : Int) then
                            (f197 k (List.getD xs19 (Int.toNat (IntKind.i64.wrap (a13 - (1 : Int)))) (⟨(0 : Int), false, []⟩ : S211)).f0 (List.getD xs19 (Int.toNat (IntKind.i64.wrap (a13 - (1 : Int)))) (⟨(0 : Int), false, []⟩ : S211)).f1 (List.getD xs19 (Int.toNat (IntKind.i64.wrap (a13 - (1 : Int)))) (⟨(0 : Int), false, []⟩ : S211)).f2 (List.getD xs11 (Int.toNat a13) (⟨(0 : Int), false, []⟩ : S211)).f0 (List.getD xs11 (Int.toNat a13) (⟨(0 : Int), false, []⟩ : S211)).f1 (List.getD xs11 (Int.toNat a13) (⟨(0 : Int), false, []⟩ : S211)).f2).bind fun t21 => if t21 = true then
                                ret (.inl (false, s14, s15, a16, a17, a18, xs19))
                              else
                                rec_ xs11 a12 (IntKind.i64.wrap (a13 + (1 : Int))) s14 s15 a16 a17 a18 xs19
                          else none
                        else none
                      else
                        ret (.inl (false, s14, s15, a16, a17, a18, xs19))
                    else none
                  else none
                else
                  rec_ xs11 a12 (IntKind.i64.wrap (a13 + (1 : Int))) s14 s15 a16 a17 a18 xs19
            else
              if (decide (a13 > (0 : Int))) = true then
                if (0 : Int) ≤ (IntKind.i64.wrap (a13 - (1 : Int))) then
                  if (IntKind.i64.wrap (a13 - (1 : Int))) < ((List.length xs19 : Nat) : Int) then
                    if (decide ((List.getD xs11 (Int.toNat a13) (⟨(0 : Int), false, []⟩ : S211)).f0 ≤ (List.getD xs19 (Int.toNat (IntKind.i64.wrap (a13 - (1 : Int)))) (⟨(0 : Int), false, []⟩ : S211)).f0)) = false then
                      if (0 : Int) ≤ (IntKind.i64.wrap (a13 - (1 : Int))) then
                        if (IntKind.i64.wrap (a13 - (1 : Int))) < ((List.length xs19 : Nat) : Int) then
                          (f197 k (List.getD xs19 (Int.toNat (IntKind.i64.wrap (a13 - (1 : Int)))) (⟨(0 : Int), false, []⟩ : S211)).f0 (List.getD xs19 (Int.toNat (IntKind.i64.wrap (a13 - (1 : Int)))) (⟨(0 : Int), false, []⟩ : S211)).f1 (List.getD xs19 (Int.toNat (IntKind.i64.wrap (a13 - (1 : Int)))) (⟨(0 : Int), false, []⟩ : S211)).f2 (List.getD xs11 (Int.toNat a13) (⟨(0 : Int), false, []⟩ : S211)).f0 (List.getD xs11 (Int.toNat a13) (⟨(0 : Int), false, []⟩ : S211)).f1 (List.getD xs11 (Int.toNat a13) (⟨(0 : Int), false, []⟩ : S211)).f2).bind fun t22 => if t22 = true then
                              ret (.inl (false, s14, s15, a16, a17, a18, xs19))
                            else
                              rec_ xs11 a12 (IntKind.i64.wrap (a13 + (1 : Int))) s14 s15 a16 a17 a18 xs19
                        else none
                      else none
                    else
                      ret (.inl (false, s14, s15, a16, a17, a18, xs19))
                  else none
                else none
              else
                rec_ xs11 a12 (IntKind.i64.wrap (a13 + (1 : Int))) s14 s15 a16 a17 a18 xs19
          else
            ret (.inl (false, s14, s15, a16, a17, a18, xs19))
      else none
    else none
  else
    ret (.inr (s14, s15, a16, a17, a18, xs19))
def f175.l6 (k : Nat) : Nat → (List S211) → Int → Int → ByteArray → ByteArray → Int → Int → Int → (List S211) → Option ((Bool × ByteArray × ByteArray × Int × Int × Int × (List S211)) ⊕ (ByteArray × ByteArray × Int × Int × Int × (List S211)))
  | 0, _, _, _, _, _, _, _, _, _ => none
  | j + 1, xs11, a12, a13, s14, s15, a16, a17, a18, xs19 => f175.l6.step k (fun xs11 a12 a13 s14 s15 a16 a17 a18 xs19 => f175.l6 k j xs11 a12 a13 s14 s15 a16 a17 a18 xs19) some xs11 a12 a13 s14 s15 a16 a17 a18 xs19
def f175.l6.w {R : Type} : ((Bool × ByteArray × ByteArray × Int × Int × Int × (List S211)) ⊕ (ByteArray × ByteArray × Int × Int × Int × (List S211))) → (Exit → St env → Option R) → Option R := fun x K => Sum.elim (fun t26 => K .ret ⟨fullT [1, 2] 0 90 [.v (.c (.bp 1 0)), .v (.c (.s (.bool t26.1)))], [(1, .box [.s (.string t26.2.1), .s (.string t26.2.2.1), .s (.int .i64 t26.2.2.2.1), .s (.int .i64 t26.2.2.2.2.1), .s (.int .i64 t26.2.2.2.2.2.1), .imm 211 t26.2.2.2.2.2.2])], 1425⟩) (fun t27 => K (.exit 0) ⟨fullT [1] 0 90 [.v (.c (.bp 1 0))], [(1, .box [.s (.string t27.1), .s (.string t27.2.1), .s (.int .i64 t27.2.2.1), .s (.int .i64 t27.2.2.2.1), .s (.int .i64 t27.2.2.2.2.1), .imm 211 t27.2.2.2.2.2])], 1425⟩) x
def f175.l6.st (xs11 : List S211) (a12 : Int) (a13 : Int) (s14 : ByteArray) (s15 : ByteArray) (a16 : Int) (a17 : Int) (a18 : Int) (xs19 : List S211) : St env := ⟨fullT [1, 39, 40, 41] 0 90 [.v (.c (.bp 1 0)), .v (.c (.imm 211 xs11)), .v (.c (.s (.int .i64 a12))), .v (.c (.s (.int .i64 a13)))], [(1, .box [.s (.string s14), .s (.string s15), .s (.int .i64 a16), .s (.int .i64 a17), .s (.int .i64 a18), .imm 211 xs19])], 625⟩
def f175.l6.hd (k : Nat) (ts_ : List (AV env)) (mm_ : Mem env) (n_ : Nat) : LCl env :=
  gTs LCl.no [1, 39, 40, 41] 90 ts_ fun l_ => gV LCl.no l_ fun a_ l_ => rBp LCl.no 1 0 a_ <| gV LCl.no l_ fun a_ l_ => rImm LCl.no 211 a_ fun xs11 => gV LCl.no l_ fun a_ l_ => rV LCl.no a_ fun v_ => vI LCl.no .i64 v_ fun a12 => gV LCl.no l_ fun a_ l_ => rV LCl.no a_ fun v_ => vI LCl.no .i64 v_ fun a13 => gE LCl.no l_ <| mBox LCl.no 1 mm_ fun c_ m_ => gC LCl.no c_ fun a_ c_ => rV LCl.no a_ fun v_ => vS LCl.no v_ fun s14 => gC LCl.no c_ fun a_ c_ => rV LCl.no a_ fun v_ => vS LCl.no v_ fun s15 => gC LCl.no c_ fun a_ c_ => rV LCl.no a_ fun v_ => vI LCl.no .i64 v_ fun a16 => gC LCl.no c_ fun a_ c_ => rV LCl.no a_ fun v_ => vI LCl.no .i64 v_ fun a17 => gC LCl.no c_ fun a_ c_ => rV LCl.no a_ fun v_ => vI LCl.no .i64 v_ fun a18 => gC LCl.no c_ fun a_ c_ => rImm LCl.no 211 a_ fun xs19 => gE LCl.no c_ <| gE LCl.no m_ <| gN LCl.no 625 n_ { α := (Bool × ByteArray × ByteArray × Int × Int × Int × (List S211)) ⊕ (ByteArray × ByteArray × Int × Int × Int × (List S211)), o := f175.l6 k k xs11 a12 a13 s14 s15 a16 a17 a18 xs19, w := f175.l6.w }
def f175.step {R : Type} (k : Nat) (ret : Bool → Option R) (s1 : ByteArray) (s2 : ByteArray) (a3 : Int) (a4 : Int) (a5 : Int) (xs6 : List S211) : Option R :=
  if (decide ((((ByteArray.size s1) : Nat) : Int) ≠ (4 : Int))) = false then
    if (decide ((((ByteArray.size s2) : Nat) : Int) ≠ (4 : Int))) = false then
      (f83 k a3 (0 : Int) (65535 : Int)).bind fun t7 => if (!t7) = false then
          (f83 k a4 (0 : Int) (255 : Int)).bind fun t8 => if (!t8) = true then
              ret false
            else
              (f83 k a5 (0 : Int) (1000030 : Int)).bind fun t9 => if (!t9) = false then
                  (f83 k (((List.length xs6) : Nat) : Int) (1 : Int) (12 : Int)).bind fun t10 => if (!t10) = true then
                      ret false
                    else
                      (f175.l6 k k xs6 (((List.length xs6) : Nat) : Int) (0 : Int) s1 s2 a3 a4 a5 xs6).bind (Sum.elim (fun t23 => ret t23.1) (fun t24 => (f198 k t24.2.2.2.2.2).bind fun t25 => ret (!t25)))
                else
                  ret false
        else
          ret false
    else
      ret false
  else
    ret false
def f175 (k : Nat) (s1 : ByteArray) (s2 : ByteArray) (a3 : Int) (a4 : Int) (a5 : Int) (xs6 : List S211) : Option Bool := f175.step k some s1 s2 a3 a4 a5 xs6
def f175.w {R : Type} : Bool → (Res env → Option R) → Option R := fun t28 K => K ⟨.v (.c (.s (.bool t28))), [[]]⟩
theorem f175.wn (x : Bool) : ∃ res, ∀ {R : Type} (K : Res env → Option R), f175.w x K = K res := by
  exact ⟨_, fun _ => rfl⟩
def f175.hd (k : Nat) (ps_ : List (P2 env)) : Cl env :=
  gC Cl.no ps_ fun p_ ps_ => qG Cl.no p_ fun cs_ => gC Cl.no cs_ fun c_ cs_ => qS Cl.no c_ fun v_ => vS Cl.no v_ fun s1 => gC Cl.no cs_ fun c_ cs_ => qS Cl.no c_ fun v_ => vS Cl.no v_ fun s2 => gC Cl.no cs_ fun c_ cs_ => qS Cl.no c_ fun v_ => vI Cl.no .i64 v_ fun a3 => gC Cl.no cs_ fun c_ cs_ => qS Cl.no c_ fun v_ => vI Cl.no .i64 v_ fun a4 => gC Cl.no cs_ fun c_ cs_ => qS Cl.no c_ fun v_ => vI Cl.no .i64 v_ fun a5 => gC Cl.no cs_ fun c_ cs_ => qSl Cl.no 211 c_ fun xs6 => gE Cl.no cs_ <| gE Cl.no ps_ <| { α := Bool, o := f175 k s1 s2 a3 a4 a5 xs6, w := f175.w, nat := fun x _ => f175.wn x }
def f175.e (k : Nat) : Entry env := ⟨fun ps => f175.hd k (coer [[.no, .no, .no, .no, .no, .rd 211]] ps), []⟩
def f175.X (k : Nat) : Ctx env := { C := lookE [(83, f83.e k), (196, f196.e k), (197, f197.e k), (198, f198.e k)], L := lookE [(6, fun S => f175.l6.hd k S.ts S.m S.n)], J := lookE [], keep := lookD [(6, [1, 39, 40, 41])], keepX := lookD [(6, [1, 2])], span := lookN [(6, 800)], eff := fun n => memN n [], prep := lookP [], np := 0 }
theorem f175.l6.nat {R : Type} (k : Nat) (rec_ : (List S211) → Int → Int → ByteArray → ByteArray → Int → Int → Int → (List S211) → Option ((Bool × ByteArray × ByteArray × Int × Int × Int × (List S211)) ⊕ (ByteArray × ByteArray × Int × Int × Int × (List S211)))) (g : ((Bool × ByteArray × ByteArray × Int × Int × Int × (List S211)) ⊕ (ByteArray × ByteArray × Int × Int × Int × (List S211))) → Option R) (xs11 : List S211) (a12 : Int) (a13 : Int) (s14 : ByteArray) (s15 : ByteArray) (a16 : Int) (a17 : Int) (a18 : Int) (xs19 : List S211) : (f175.l6.step k rec_ some xs11 a12 a13 s14 s15 a16 a17 a18 xs19).bind g = f175.l6.step k (fun xs11 a12 a13 s14 s15 a16 a17 a18 xs19 => (rec_ xs11 a12 a13 s14 s15 a16 a17 a18 xs19).bind g) g xs11 a12 a13 s14 s15 a16 a17 a18 xs19 := by
  simp only [f175.l6.step, bind_ite, bind_sum, Option.bind_assoc, Option.bind_some, Option.bind_none]
theorem f175.l6.good (k : Nat) (xs11 : List S211) (a12 : Int) (a13 : Int) (s14 : ByteArray) (s15 : ByteArray) (a16 : Int) (a17 : Int) (a18 : Int) (xs19 : List S211) : GoodL (f175.X k) (nthC 0 (loopsOf (bodyOf Try.f175))) (f175.l6.st xs11 a12 a13 s14 s15 a16 a17 a18 xs19) { α := ((Bool × ByteArray × ByteArray × Int × Int × Int × (List S211)) ⊕ (ByteArray × ByteArray × Int × Int × Int × (List S211))), o := f175.l6 k k xs11 a12 a13 s14 s15 a16 a17 a18 xs19, w := f175.l6.w } :=
  loop_good (ι := (List S211) × Int × Int × ByteArray × ByteArray × Int × Int × Int × (List S211)) (α := ((Bool × ByteArray × ByteArray × Int × Int × Int × (List S211)) ⊕ (ByteArray × ByteArray × Int × Int × Int × (List S211)))) (fun i => f175.l6.st i.1 i.2.1 i.2.2.1 i.2.2.2.1 i.2.2.2.2.1 i.2.2.2.2.2.1 i.2.2.2.2.2.2.1 i.2.2.2.2.2.2.2.1 i.2.2.2.2.2.2.2.2) (fun j i => f175.l6 k j i.1 i.2.1 i.2.2.1 i.2.2.2.1 i.2.2.2.2.1 i.2.2.2.2.2.1 i.2.2.2.2.2.2.1 i.2.2.2.2.2.2.2.1 i.2.2.2.2.2.2.2.2) f175.l6.w (fun rec_ ret i => f175.l6.step k (fun xs11 a12 a13 s14 s15 a16 a17 a18 xs19 => rec_ (xs11, a12, a13, s14, s15, a16, a17, a18, xs19)) ret i.1 i.2.1 i.2.2.1 i.2.2.2.1 i.2.2.2.2.1 i.2.2.2.2.2.1 i.2.2.2.2.2.2.1 i.2.2.2.2.2.2.2.1 i.2.2.2.2.2.2.2.2)
    (fun _ => rfl) (fun _ _ => rfl) (fun rec_ g i => f175.l6.nat k _ g i.1 i.2.1 i.2.2.1 i.2.2.2.1 i.2.2.2.2.1 i.2.2.2.2.2.1 i.2.2.2.2.2.2.1 i.2.2.2.2.2.2.2.1 i.2.2.2.2.2.2.2.2) (fun {R} i0 i rec_ K => by kernel_rfl) k (xs11, a12, a13, s14, s15, a16, a17, a18, xs19)
theorem f175.l6.all (k : Nat) (S : St env) : GoodL (f175.X k) (nthC 0 (loopsOf (bodyOf Try.f175))) S (f175.l6.hd k S.ts S.m S.n) := by
  obtain ⟨ts_, m_, n_⟩ := S
  show GoodL _ _ _ (f175.l6.hd k ts_ m_ n_)
  unfold f175.l6.hd
  refine gTs_ok (p := GoodL _ _ _) goodL_no fun _ h => ?_
  subst h
  refine gV_ok (p := GoodL _ _ _) goodL_no fun _ _ h => ?_
  subst h
  refine rBp_ok (p := GoodL _ _ _) goodL_no fun h => ?_
  subst h
  refine gV_ok (p := GoodL _ _ _) goodL_no fun _ _ h => ?_
  subst h
  refine rImm_ok (p := GoodL _ _ _) goodL_no fun _ h => ?_
  subst h
  refine gV_ok (p := GoodL _ _ _) goodL_no fun _ _ h => ?_
  subst h
  refine rV_ok (p := GoodL _ _ _) goodL_no fun _ h => ?_
  subst h
  refine vI_ok (p := GoodL _ _ _) goodL_no fun _ h => ?_
  subst h
  refine gV_ok (p := GoodL _ _ _) goodL_no fun _ _ h => ?_
  subst h
  refine rV_ok (p := GoodL _ _ _) goodL_no fun _ h => ?_
  subst h
  refine vI_ok (p := GoodL _ _ _) goodL_no fun _ h => ?_
  subst h
  refine gE_ok (p := GoodL _ _ _) goodL_no fun h => ?_
  subst h
  refine mBox_ok (p := GoodL _ _ _) goodL_no fun _ _ h => ?_
  subst h
  refine gC_ok (p := GoodL _ _ _) goodL_no fun _ _ h => ?_
  subst h
  refine rV_ok (p := GoodL _ _ _) goodL_no fun _ h => ?_
  subst h
  refine vS_ok (p := GoodL _ _ _) goodL_no fun _ h => ?_
  subst h
  refine gC_ok (p := GoodL _ _ _) goodL_no fun _ _ h => ?_
  subst h
  refine rV_ok (p := GoodL _ _ _) goodL_no fun _ h => ?_
  subst h
  refine vS_ok (p := GoodL _ _ _) goodL_no fun _ h => ?_
  subst h
  refine gC_ok (p := GoodL _ _ _) goodL_no fun _ _ h => ?_
  subst h
  refine rV_ok (p := GoodL _ _ _) goodL_no fun _ h => ?_
  subst h
  refine vI_ok (p := GoodL _ _ _) goodL_no fun _ h => ?_
  subst h
  refine gC_ok (p := GoodL _ _ _) goodL_no fun _ _ h => ?_
  subst h
  refine rV_ok (p := GoodL _ _ _) goodL_no fun _ h => ?_
  subst h
  refine vI_ok (p := GoodL _ _ _) goodL_no fun _ h => ?_
  subst h
  refine gC_ok (p := GoodL _ _ _) goodL_no fun _ _ h => ?_
  subst h
  refine rV_ok (p := GoodL _ _ _) goodL_no fun _ h => ?_
  subst h
  refine vI_ok (p := GoodL _ _ _) goodL_no fun _ h => ?_
  subst h
  refine gC_ok (p := GoodL _ _ _) goodL_no fun _ _ h => ?_
  subst h
  refine rImm_ok (p := GoodL _ _ _) goodL_no fun _ h => ?_
  subst h
  refine gE_ok (p := GoodL _ _ _) goodL_no fun h => ?_
  subst h
  refine gE_ok (p := GoodL _ _ _) goodL_no fun h => ?_
  subst h
  refine gN_ok (p := GoodL _ _ _) goodL_no fun h => ?_
  subst h
  exact f175.l6.good k _ _ _ _ _ _ _ _ _
theorem f175.nat {R : Type} (k : Nat) (g : Bool → Option R) (s1 : ByteArray) (s2 : ByteArray) (a3 : Int) (a4 : Int) (a5 : Int) (xs6 : List S211) : f175.step k g s1 s2 a3 a4 a5 xs6 = (f175 k s1 s2 a3 a4 a5 xs6).bind g := by
  simp only [f175, f175.step, bind_ite, bind_sum, Option.bind_assoc, Option.bind_some, Option.bind_none]
theorem f175.ev (k : Nat) (s1 : ByteArray) (s2 : ByteArray) (a3 : Int) (a4 : Int) (a5 : Int) (xs6 : List S211) : evF (f175.X k) (bodyOf Try.f175) Try.f175.ntmps Try.f175.results.toList [.g [.s (.string s1), .s (.string s2), .s (.int .i64 a3), .s (.int .i64 a4), .s (.int .i64 a5), .sl 211 xs6]] = f175.step k (fun x => f175.w x some) s1 s2 a3 a4 a5 xs6 := by kernel_rfl
theorem f175.hok (k : Nat) : HOK (f175.X k) (bodyOf Try.f175) where
  l := allP_mem (by exact ⟨ls_of (h0 := fun S => f175.l6.hd k S.ts S.m S.n) (by kernel_rfl) (f175.l6.all k), trivial⟩)
  j := allP_mem (by exact trivial)
theorem f175.sound0 (k : Nat) : SoundC env Try.prog 175 (f175.hd k) := by
  intro ps_
  show GoodC _ _ _ ps_ (f175.hd k ps_)
  unfold f175.hd
  refine gC_ok (p := GoodC env Try.prog 175 _) goodC_no fun _ _ h => ?_
  subst h
  refine qG_ok (p := GoodC env Try.prog 175 _) goodC_no fun _ h => ?_
  subst h
  refine gC_ok (p := GoodC env Try.prog 175 _) goodC_no fun _ _ h => ?_
  subst h
  refine qS_ok (p := GoodC env Try.prog 175 _) goodC_no fun _ h => ?_
  subst h
  refine vS_ok (p := GoodC env Try.prog 175 _) goodC_no fun _ h => ?_
  subst h
  refine gC_ok (p := GoodC env Try.prog 175 _) goodC_no fun _ _ h => ?_
  subst h
  refine qS_ok (p := GoodC env Try.prog 175 _) goodC_no fun _ h => ?_
  subst h
  refine vS_ok (p := GoodC env Try.prog 175 _) goodC_no fun _ h => ?_
  subst h
  refine gC_ok (p := GoodC env Try.prog 175 _) goodC_no fun _ _ h => ?_
  subst h
  refine qS_ok (p := GoodC env Try.prog 175 _) goodC_no fun _ h => ?_
  subst h
  refine vI_ok (p := GoodC env Try.prog 175 _) goodC_no fun _ h => ?_
  subst h
  refine gC_ok (p := GoodC env Try.prog 175 _) goodC_no fun _ _ h => ?_
  subst h
  refine qS_ok (p := GoodC env Try.prog 175 _) goodC_no fun _ h => ?_
  subst h
  refine vI_ok (p := GoodC env Try.prog 175 _) goodC_no fun _ h => ?_
  subst h
  refine gC_ok (p := GoodC env Try.prog 175 _) goodC_no fun _ _ h => ?_
  subst h
  refine qS_ok (p := GoodC env Try.prog 175 _) goodC_no fun _ h => ?_
  subst h
  refine vI_ok (p := GoodC env Try.prog 175 _) goodC_no fun _ h => ?_
  subst h
  refine gC_ok (p := GoodC env Try.prog 175 _) goodC_no fun _ _ h => ?_
  subst h
  refine qSl_ok (p := GoodC env Try.prog 175 _) goodC_no fun _ h => ?_
  subst h
  refine gE_ok (p := GoodC env Try.prog 175 _) goodC_no fun h => ?_
  subst h
  refine gE_ok (p := GoodC env Try.prog 175 _) goodC_no fun h => ?_
  subst h
  exact fun_good (fun_sound envOK (cs_sound _ (by exact ⟨⟨f83.sound k, f83.fnok⟩, ⟨f196.sound k, f196.fnok⟩, ⟨f197.sound k, f197.fnok⟩, ⟨f198.sound k, f198.fnok⟩, trivial⟩)) (f175.hok k) Try.func175 rfl) ((f175.ev k _ _ _ _ _ _).trans (f175.nat k _ _ _ _ _ _ _))
theorem f175.sound (k : Nat) : SoundC env Try.prog 175 (f175.e k).F := soundC_coer (f175.sound0 k) [[.no, .no, .no, .no, .no, .rd 211]]
theorem f175.says (k : Nat) (s1 : ByteArray) (s2 : ByteArray) (a3 : Int) (a4 : Int) (a5 : Int) (xs6 : List S211) (t29 : Bool) (h_ : f175 k s1 s2 a3 a4 a5 xs6 = some t29) : SoundAt env Try.prog 175 [.g [.s (.string s1), .s (.string s2), .s (.int .i64 a3), .s (.int .i64 a4), .s (.int .i64 a5), .sl 211 xs6]] ⟨.v (.c (.s (.bool t29))), [[]]⟩ :=
  fun_sound envOK (cs_sound _ (by exact ⟨⟨f83.sound k, f83.fnok⟩, ⟨f196.sound k, f196.fnok⟩, ⟨f197.sound k, f197.fnok⟩, ⟨f198.sound k, f198.fnok⟩, trivial⟩)) (f175.hok k) Try.func175 rfl _ _ (((f175.ev k s1 s2 a3 a4 a5 xs6).trans (f175.nat k _ s1 s2 a3 a4 a5 xs6)).trans (by rw [h_]; rfl))
theorem f175.fnok : FnOK Try.prog 175 := fn_ok Try.func175 (by kernel_rfl) rfl
def f176.step {R : Type} (k : Nat) (ret : Bool → Option R) (s1 : ByteArray) (s2 : ByteArray) (a3 : Int) (a4 : Int) (a5 : Int) (xs6 : List S211) (s7 : ByteArray) (s8 : ByteArray) (a9 : Int) (a10 : Int) (a11 : Int) (xs12 : List S211) : Option R :=
  if (decide (ByteArray.toList s1 = ByteArray.toList s7)) = true then
    if (decide (ByteArray.toList s2 = ByteArray.toList s8)) = true then
      if (decide (a3 = a9)) = true then
        ret (decide (a4 = a10))
      else
        ret false
    else
      ret false
  else
    ret false
def f176 (k : Nat) (s1 : ByteArray) (s2 : ByteArray) (a3 : Int) (a4 : Int) (a5 : Int) (xs6 : List S211) (s7 : ByteArray) (s8 : ByteArray) (a9 : Int) (a10 : Int) (a11 : Int) (xs12 : List S211) : Option Bool := f176.step k some s1 s2 a3 a4 a5 xs6 s7 s8 a9 a10 a11 xs12
def f176.w {R : Type} : Bool → (Res env → Option R) → Option R := fun t13 K => K ⟨.v (.c (.s (.bool t13))), [[], []]⟩
theorem f176.wn (x : Bool) : ∃ res, ∀ {R : Type} (K : Res env → Option R), f176.w x K = K res := by
  exact ⟨_, fun _ => rfl⟩
def f176.hd (k : Nat) (ps_ : List (P2 env)) : Cl env :=
  gC Cl.no ps_ fun p_ ps_ => qG Cl.no p_ fun cs_ => gC Cl.no cs_ fun c_ cs_ => qS Cl.no c_ fun v_ => vS Cl.no v_ fun s1 => gC Cl.no cs_ fun c_ cs_ => qS Cl.no c_ fun v_ => vS Cl.no v_ fun s2 => gC Cl.no cs_ fun c_ cs_ => qS Cl.no c_ fun v_ => vI Cl.no .i64 v_ fun a3 => gC Cl.no cs_ fun c_ cs_ => qS Cl.no c_ fun v_ => vI Cl.no .i64 v_ fun a4 => gC Cl.no cs_ fun c_ cs_ => qS Cl.no c_ fun v_ => vI Cl.no .i64 v_ fun a5 => gC Cl.no cs_ fun c_ cs_ => qSl Cl.no 211 c_ fun xs6 => gE Cl.no cs_ <| gC Cl.no ps_ fun p_ ps_ => qG Cl.no p_ fun cs_ => gC Cl.no cs_ fun c_ cs_ => qS Cl.no c_ fun v_ => vS Cl.no v_ fun s7 => gC Cl.no cs_ fun c_ cs_ => qS Cl.no c_ fun v_ => vS Cl.no v_ fun s8 => gC Cl.no cs_ fun c_ cs_ => qS Cl.no c_ fun v_ => vI Cl.no .i64 v_ fun a9 => gC Cl.no cs_ fun c_ cs_ => qS Cl.no c_ fun v_ => vI Cl.no .i64 v_ fun a10 => gC Cl.no cs_ fun c_ cs_ => qS Cl.no c_ fun v_ => vI Cl.no .i64 v_ fun a11 => gC Cl.no cs_ fun c_ cs_ => qSl Cl.no 211 c_ fun xs12 => gE Cl.no cs_ <| gE Cl.no ps_ <| { α := Bool, o := f176 k s1 s2 a3 a4 a5 xs6 s7 s8 a9 a10 a11 xs12, w := f176.w, nat := fun x _ => f176.wn x }
def f176.e (k : Nat) : Entry env := ⟨fun ps => f176.hd k (coer [[.no, .no, .no, .no, .no, .rd 211], [.no, .no, .no, .no, .no, .rd 211]] ps), []⟩
def f176.X (k : Nat) : Ctx env := { C := lookE [], L := lookE [], J := lookE [], keep := lookD [], keepX := lookD [], span := lookN [], eff := fun n => memN n [], prep := lookP [], np := 0 }
theorem f176.nat {R : Type} (k : Nat) (g : Bool → Option R) (s1 : ByteArray) (s2 : ByteArray) (a3 : Int) (a4 : Int) (a5 : Int) (xs6 : List S211) (s7 : ByteArray) (s8 : ByteArray) (a9 : Int) (a10 : Int) (a11 : Int) (xs12 : List S211) : f176.step k g s1 s2 a3 a4 a5 xs6 s7 s8 a9 a10 a11 xs12 = (f176 k s1 s2 a3 a4 a5 xs6 s7 s8 a9 a10 a11 xs12).bind g := by
  simp only [f176, f176.step, bind_ite, bind_sum, Option.bind_assoc, Option.bind_some, Option.bind_none]
theorem f176.ev (k : Nat) (s1 : ByteArray) (s2 : ByteArray) (a3 : Int) (a4 : Int) (a5 : Int) (xs6 : List S211) (s7 : ByteArray) (s8 : ByteArray) (a9 : Int) (a10 : Int) (a11 : Int) (xs12 : List S211) : evF (f176.X k) (bodyOf Try.f176) Try.f176.ntmps Try.f176.results.toList [.g [.s (.string s1), .s (.string s2), .s (.int .i64 a3), .s (.int .i64 a4), .s (.int .i64 a5), .sl 211 xs6], .g [.s (.string s7), .s (.string s8), .s (.int .i64 a9), .s (.int .i64 a10), .s (.int .i64 a11), .sl 211 xs12]] = f176.step k (fun x => f176.w x some) s1 s2 a3 a4 a5 xs6 s7 s8 a9 a10 a11 xs12 := by kernel_rfl
theorem f176.hok (k : Nat) : HOK (f176.X k) (bodyOf Try.f176) where
  l := allP_mem (by exact trivial)
  j := allP_mem (by exact trivial)
theorem f176.sound0 (k : Nat) : SoundC env Try.prog 176 (f176.hd k) := by
  intro ps_
  show GoodC _ _ _ ps_ (f176.hd k ps_)
  unfold f176.hd
  refine gC_ok (p := GoodC env Try.prog 176 _) goodC_no fun _ _ h => ?_
  subst h
  refine qG_ok (p := GoodC env Try.prog 176 _) goodC_no fun _ h => ?_
  subst h
  refine gC_ok (p := GoodC env Try.prog 176 _) goodC_no fun _ _ h => ?_
  subst h
  refine qS_ok (p := GoodC env Try.prog 176 _) goodC_no fun _ h => ?_
  subst h
  refine vS_ok (p := GoodC env Try.prog 176 _) goodC_no fun _ h => ?_
  subst h
  refine gC_ok (p := GoodC env Try.prog 176 _) goodC_no fun _ _ h => ?_
  subst h
  refine qS_ok (p := GoodC env Try.prog 176 _) goodC_no fun _ h => ?_
  subst h
  refine vS_ok (p := GoodC env Try.prog 176 _) goodC_no fun _ h => ?_
  subst h
  refine gC_ok (p := GoodC env Try.prog 176 _) goodC_no fun _ _ h => ?_
  subst h
  refine qS_ok (p := GoodC env Try.prog 176 _) goodC_no fun _ h => ?_
  subst h
  refine vI_ok (p := GoodC env Try.prog 176 _) goodC_no fun _ h => ?_
  subst h
  refine gC_ok (p := GoodC env Try.prog 176 _) goodC_no fun _ _ h => ?_
  subst h
  refine qS_ok (p := GoodC env Try.prog 176 _) goodC_no fun _ h => ?_
  subst h
  refine vI_ok (p := GoodC env Try.prog 176 _) goodC_no fun _ h => ?_
  subst h
  refine gC_ok (p := GoodC env Try.prog 176 _) goodC_no fun _ _ h => ?_
  subst h
  refine qS_ok (p := GoodC env Try.prog 176 _) goodC_no fun _ h => ?_
  subst h
  refine vI_ok (p := GoodC env Try.prog 176 _) goodC_no fun _ h => ?_
  subst h
  refine gC_ok (p := GoodC env Try.prog 176 _) goodC_no fun _ _ h => ?_
  subst h
  refine qSl_ok (p := GoodC env Try.prog 176 _) goodC_no fun _ h => ?_
  subst h
  refine gE_ok (p := GoodC env Try.prog 176 _) goodC_no fun h => ?_
  subst h
  refine gC_ok (p := GoodC env Try.prog 176 _) goodC_no fun _ _ h => ?_
  subst h
  refine qG_ok (p := GoodC env Try.prog 176 _) goodC_no fun _ h => ?_
  subst h
  refine gC_ok (p := GoodC env Try.prog 176 _) goodC_no fun _ _ h => ?_
  subst h
  refine qS_ok (p := GoodC env Try.prog 176 _) goodC_no fun _ h => ?_
  subst h
  refine vS_ok (p := GoodC env Try.prog 176 _) goodC_no fun _ h => ?_
  subst h
  refine gC_ok (p := GoodC env Try.prog 176 _) goodC_no fun _ _ h => ?_
  subst h
  refine qS_ok (p := GoodC env Try.prog 176 _) goodC_no fun _ h => ?_
  subst h
  refine vS_ok (p := GoodC env Try.prog 176 _) goodC_no fun _ h => ?_
  subst h
  refine gC_ok (p := GoodC env Try.prog 176 _) goodC_no fun _ _ h => ?_
  subst h
  refine qS_ok (p := GoodC env Try.prog 176 _) goodC_no fun _ h => ?_
  subst h
  refine vI_ok (p := GoodC env Try.prog 176 _) goodC_no fun _ h => ?_
  subst h
  refine gC_ok (p := GoodC env Try.prog 176 _) goodC_no fun _ _ h => ?_
  subst h
  refine qS_ok (p := GoodC env Try.prog 176 _) goodC_no fun _ h => ?_
  subst h
  refine vI_ok (p := GoodC env Try.prog 176 _) goodC_no fun _ h => ?_
  subst h
  refine gC_ok (p := GoodC env Try.prog 176 _) goodC_no fun _ _ h => ?_
  subst h
  refine qS_ok (p := GoodC env Try.prog 176 _) goodC_no fun _ h => ?_
  subst h
  refine vI_ok (p := GoodC env Try.prog 176 _) goodC_no fun _ h => ?_
  subst h
  refine gC_ok (p := GoodC env Try.prog 176 _) goodC_no fun _ _ h => ?_
  subst h
  refine qSl_ok (p := GoodC env Try.prog 176 _) goodC_no fun _ h => ?_
  subst h
  refine gE_ok (p := GoodC env Try.prog 176 _) goodC_no fun h => ?_
  subst h
  refine gE_ok (p := GoodC env Try.prog 176 _) goodC_no fun h => ?_
  subst h
  exact fun_good (fun_sound envOK (cs_sound _ (by exact trivial)) (f176.hok k) Try.func176 rfl) ((f176.ev k _ _ _ _ _ _ _ _ _ _ _ _).trans (f176.nat k _ _ _ _ _ _ _ _ _ _ _ _ _))
theorem f176.sound (k : Nat) : SoundC env Try.prog 176 (f176.e k).F := soundC_coer (f176.sound0 k) [[.no, .no, .no, .no, .no, .rd 211], [.no, .no, .no, .no, .no, .rd 211]]
theorem f176.says (k : Nat) (s1 : ByteArray) (s2 : ByteArray) (a3 : Int) (a4 : Int) (a5 : Int) (xs6 : List S211) (s7 : ByteArray) (s8 : ByteArray) (a9 : Int) (a10 : Int) (a11 : Int) (xs12 : List S211) (t14 : Bool) (h_ : f176 k s1 s2 a3 a4 a5 xs6 s7 s8 a9 a10 a11 xs12 = some t14) : SoundAt env Try.prog 176 [.g [.s (.string s1), .s (.string s2), .s (.int .i64 a3), .s (.int .i64 a4), .s (.int .i64 a5), .sl 211 xs6], .g [.s (.string s7), .s (.string s8), .s (.int .i64 a9), .s (.int .i64 a10), .s (.int .i64 a11), .sl 211 xs12]] ⟨.v (.c (.s (.bool t14))), [[], []]⟩ :=
  fun_sound envOK (cs_sound _ (by exact trivial)) (f176.hok k) Try.func176 rfl _ _ (((f176.ev k s1 s2 a3 a4 a5 xs6 s7 s8 a9 a10 a11 xs12).trans (f176.nat k _ s1 s2 a3 a4 a5 xs6 s7 s8 a9 a10 a11 xs12)).trans (by rw [h_]; rfl))
theorem f176.fnok : FnOK Try.prog 176 := fn_ok Try.func176 (by kernel_rfl) rfl
def f135.l9.step {R : Type} (k : Nat) (rec_ : (List S104) → (List S104) → Int → Int → (List S104) → Int → Int → ByteArray → ByteArray → Int → Int → Int → (List S211) → Option R) (ret : (((List S104) × Bool × (List S104) × Int × Int) ⊕ ((List S104) × (List S104) × Int × Int)) → Option R) (xs7 : List S104) (xs8 : List S104) (a9 : Int) (a10 : Int) (xs11 : List S104) (a12 : Int) (a13 : Int) (s14 : ByteArray) (s15 : ByteArray) (a16 : Int) (a17 : Int) (a18 : Int) (xs19 : List S211) : Option R :=
  if (decide (a13 < a12)) = true then
    if (0 : Int) ≤ a13 then
      if a13 < ((List.length xs11 : Nat) : Int) then
        (f176 k s14 s15 a16 a17 a18 xs19 (List.getD xs11 (Int.toNat a13) (⟨ByteArray.empty, ByteArray.empty, (0 : Int), (0 : Int), (0 : Int), []⟩ : S104)).f0 (List.getD xs11 (Int.toNat a13) (⟨ByteArray.empty, ByteArray.empty, (0 : Int), (0 : Int), (0 : Int), []⟩ : S104)).f1 (List.getD xs11 (Int.toNat a13) (⟨ByteArray.empty, ByteArray.empty, (0 : Int), (0 : Int), (0 : Int), []⟩ : S104)).f2 (List.getD xs11 (Int.toNat a13) (⟨ByteArray.empty, ByteArray.empty, (0 : Int), (0 : Int), (0 : Int), []⟩ : S104)).f3 (List.getD xs11 (Int.toNat a13) (⟨ByteArray.empty, ByteArray.empty, (0 : Int), (0 : Int), (0 : Int), []⟩ : S104)).f4 (List.getD xs11 (Int.toNat a13) (⟨ByteArray.empty, ByteArray.empty, (0 : Int), (0 : Int), (0 : Int), []⟩ : S104)).f5).bind fun t20 => if t20 = true then
            ret (.inl (xs7, false, xs8, a9, a10))
          else
            rec_ xs7 xs8 a9 a10 xs11 a12 (IntKind.i64.wrap (a13 + (1 : Int))) s14 s15 a16 a17 a18 xs19
      else none
    else none
  else
    ret (.inr (xs7, xs8, a9, a10))
def f135.l9 (k : Nat) : Nat → (List S104) → (List S104) → Int → Int → (List S104) → Int → Int → ByteArray → ByteArray → Int → Int → Int → (List S211) → Option (((List S104) × Bool × (List S104) × Int × Int) ⊕ ((List S104) × (List S104) × Int × Int))
  | 0, _, _, _, _, _, _, _, _, _, _, _, _, _ => none
  | j + 1, xs7, xs8, a9, a10, xs11, a12, a13, s14, s15, a16, a17, a18, xs19 => f135.l9.step k (fun xs7 xs8 a9 a10 xs11 a12 a13 s14 s15 a16 a17 a18 xs19 => f135.l9 k j xs7 xs8 a9 a10 xs11 a12 a13 s14 s15 a16 a17 a18 xs19) some xs7 xs8 a9 a10 xs11 a12 a13 s14 s15 a16 a17 a18 xs19
def f135.l9.w {R : Type} : (((List S104) × Bool × (List S104) × Int × Int) ⊕ ((List S104) × (List S104) × Int × Int)) → (Exit → St env → Option R) → Option R := fun x K => Sum.elim (fun t25 => K .ret ⟨fullT [0, 2, 10, 11, 12] 0 33 [.v (.c (.imm 104 t25.1)), .v (.c (.s (.bool t25.2.1))), .v (.c (.imm 104 t25.2.2.1)), .v (.c (.s (.int .i64 t25.2.2.2.1))), .v (.c (.s (.int .i64 t25.2.2.2.2)))], [], 529⟩) (fun t26 => K (.exit 2) ⟨fullT [0, 10, 11, 12] 0 33 [.v (.c (.imm 104 t26.1)), .v (.c (.imm 104 t26.2.1)), .v (.c (.s (.int .i64 t26.2.2.1))), .v (.c (.s (.int .i64 t26.2.2.2)))], [], 529⟩) x
def f135.l9.st (xs7 : List S104) (xs8 : List S104) (a9 : Int) (a10 : Int) (xs11 : List S104) (a12 : Int) (a13 : Int) (s14 : ByteArray) (s15 : ByteArray) (a16 : Int) (a17 : Int) (a18 : Int) (xs19 : List S211) : St env := ⟨fullT [0, 4, 10, 11, 12, 22, 23, 24] 0 33 [.v (.c (.imm 104 xs7)), .v (.c (.bp 177 0)), .v (.c (.imm 104 xs8)), .v (.c (.s (.int .i64 a9))), .v (.c (.s (.int .i64 a10))), .v (.c (.imm 104 xs11)), .v (.c (.s (.int .i64 a12))), .v (.c (.s (.int .i64 a13)))], [(177, .box [.s (.string s14), .s (.string s15), .s (.int .i64 a16), .s (.int .i64 a17), .s (.int .i64 a18), .imm 211 xs19])], 353⟩
def f135.l4.step {R : Type} (k : Nat) (rec_ : (List S104) → (List S104) → Int → Int → Option R) (ret : (Bool ⊕ (Unit)) → Option R) (xs2 : List S104) (xs3 : List S104) (a4 : Int) (a5 : Int) : Option R :=
  if (decide (a5 < a4)) = true then
    if (0 : Int) ≤ a5 then
      if a5 < ((List.length xs3 : Nat) : Int) then
        (f175 k (List.getD xs3 (Int.toNat a5) (⟨ByteArray.empty, ByteArray.empty, (0 : Int), (0 : Int), (0 : Int), []⟩ : S104)).f0 (List.getD xs3 (Int.toNat a5) (⟨ByteArray.empty, ByteArray.empty, (0 : Int), (0 : Int), (0 : Int), []⟩ : S104)).f1 (List.getD xs3 (Int.toNat a5) (⟨ByteArray.empty, ByteArray.empty, (0 : Int), (0 : Int), (0 : Int), []⟩ : S104)).f2 (List.getD xs3 (Int.toNat a5) (⟨ByteArray.empty, ByteArray.empty, (0 : Int), (0 : Int), (0 : Int), []⟩ : S104)).f3 (List.getD xs3 (Int.toNat a5) (⟨ByteArray.empty, ByteArray.empty, (0 : Int), (0 : Int), (0 : Int), []⟩ : S104)).f4 (List.getD xs3 (Int.toNat a5) (⟨ByteArray.empty, ByteArray.empty, (0 : Int), (0 : Int), (0 : Int), []⟩ : S104)).f5).bind fun t6 => if (!t6) = true then
            ret (.inl false)
          else
            if (0 : Int) ≤ a5 then
              if a5 ≤ ((List.length xs2 : Nat) : Int) then
                (f135.l9 k k xs2 xs3 a4 a5 (List.drop 0 (List.take (Int.toNat a5) xs2)) (((List.length (List.drop 0 (List.take (Int.toNat a5) xs2))) : Nat) : Int) (0 : Int) (List.getD xs3 (Int.toNat a5) (⟨ByteArray.empty, ByteArray.empty, (0 : Int), (0 : Int), (0 : Int), []⟩ : S104)).f0 (List.getD xs3 (Int.toNat a5) (⟨ByteArray.empty, ByteArray.empty, (0 : Int), (0 : Int), (0 : Int), []⟩ : S104)).f1 (List.getD xs3 (Int.toNat a5) (⟨ByteArray.empty, ByteArray.empty, (0 : Int), (0 : Int), (0 : Int), []⟩ : S104)).f2 (List.getD xs3 (Int.toNat a5) (⟨ByteArray.empty, ByteArray.empty, (0 : Int), (0 : Int), (0 : Int), []⟩ : S104)).f3 (List.getD xs3 (Int.toNat a5) (⟨ByteArray.empty, ByteArray.empty, (0 : Int), (0 : Int), (0 : Int), []⟩ : S104)).f4 (List.getD xs3 (Int.toNat a5) (⟨ByteArray.empty, ByteArray.empty, (0 : Int), (0 : Int), (0 : Int), []⟩ : S104)).f5).bind (Sum.elim (fun t21 => ret (.inl t21.2.1)) (fun t22 => rec_ t22.1 t22.2.1 t22.2.2.1 (IntKind.i64.wrap (t22.2.2.2 + (1 : Int)))))
              else none
            else none
      else none
    else none
  else
    ret (.inr ())
def f135.l4 (k : Nat) : Nat → (List S104) → (List S104) → Int → Int → Option (Bool ⊕ (Unit))
  | 0, _, _, _, _ => none
  | j + 1, xs2, xs3, a4, a5 => f135.l4.step k (fun xs2 xs3 a4 a5 => f135.l4 k j xs2 xs3 a4 a5) some xs2 xs3 a4 a5
def f135.l4.w {R : Type} : (Bool ⊕ (Unit)) → (Exit → St env → Option R) → Option R := fun x K => Sum.elim (fun t27 => K .ret ⟨fullT [2] 0 33 [.v (.c (.s (.bool t27)))], [], 577⟩) (fun t28 => K (.exit 0) ⟨fullT [] 0 33 [], [], 577⟩) x
def f135.l4.st (xs2 : List S104) (xs3 : List S104) (a4 : Int) (a5 : Int) : St env := ⟨fullT [0, 10, 11, 12] 0 33 [.v (.c (.imm 104 xs2)), .v (.c (.imm 104 xs3)), .v (.c (.s (.int .i64 a4))), .v (.c (.s (.int .i64 a5)))], [], 113⟩
def f135.l9.hd (k : Nat) (ts_ : List (AV env)) (mm_ : Mem env) (n_ : Nat) : LCl env :=
  gTs LCl.no [0, 4, 10, 11, 12, 22, 23, 24] 33 ts_ fun l_ => gV LCl.no l_ fun a_ l_ => rImm LCl.no 104 a_ fun xs7 => gV LCl.no l_ fun a_ l_ => rBp LCl.no 177 0 a_ <| gV LCl.no l_ fun a_ l_ => rImm LCl.no 104 a_ fun xs8 => gV LCl.no l_ fun a_ l_ => rV LCl.no a_ fun v_ => vI LCl.no .i64 v_ fun a9 => gV LCl.no l_ fun a_ l_ => rV LCl.no a_ fun v_ => vI LCl.no .i64 v_ fun a10 => gV LCl.no l_ fun a_ l_ => rImm LCl.no 104 a_ fun xs11 => gV LCl.no l_ fun a_ l_ => rV LCl.no a_ fun v_ => vI LCl.no .i64 v_ fun a12 => gV LCl.no l_ fun a_ l_ => rV LCl.no a_ fun v_ => vI LCl.no .i64 v_ fun a13 => gE LCl.no l_ <| mBox LCl.no 177 mm_ fun c_ m_ => gC LCl.no c_ fun a_ c_ => rV LCl.no a_ fun v_ => vS LCl.no v_ fun s14 => gC LCl.no c_ fun a_ c_ => rV LCl.no a_ fun v_ => vS LCl.no v_ fun s15 => gC LCl.no c_ fun a_ c_ => rV LCl.no a_ fun v_ => vI LCl.no .i64 v_ fun a16 => gC LCl.no c_ fun a_ c_ => rV LCl.no a_ fun v_ => vI LCl.no .i64 v_ fun a17 => gC LCl.no c_ fun a_ c_ => rV LCl.no a_ fun v_ => vI LCl.no .i64 v_ fun a18 => gC LCl.no c_ fun a_ c_ => rImm LCl.no 211 a_ fun xs19 => gE LCl.no c_ <| gE LCl.no m_ <| gN LCl.no 353 n_ { α := ((List S104) × Bool × (List S104) × Int × Int) ⊕ ((List S104) × (List S104) × Int × Int), o := f135.l9 k k xs7 xs8 a9 a10 xs11 a12 a13 s14 s15 a16 a17 a18 xs19, w := f135.l9.w }
def f135.l4.hd (k : Nat) (ts_ : List (AV env)) (mm_ : Mem env) (n_ : Nat) : LCl env :=
  gTs LCl.no [0, 10, 11, 12] 33 ts_ fun l_ => gV LCl.no l_ fun a_ l_ => rImm LCl.no 104 a_ fun xs2 => gV LCl.no l_ fun a_ l_ => rImm LCl.no 104 a_ fun xs3 => gV LCl.no l_ fun a_ l_ => rV LCl.no a_ fun v_ => vI LCl.no .i64 v_ fun a4 => gV LCl.no l_ fun a_ l_ => rV LCl.no a_ fun v_ => vI LCl.no .i64 v_ fun a5 => gE LCl.no l_ <| gE LCl.no mm_ <| gN LCl.no 113 n_ { α := Bool ⊕ (Unit), o := f135.l4 k k xs2 xs3 a4 a5, w := f135.l4.w }
def f135.step {R : Type} (k : Nat) (ret : Bool → Option R) (xs1 : List S104) : Option R :=
  if (decide ((((List.length xs1) : Nat) : Int) > (6 : Int))) = true then
    ret false
  else
    (f135.l4 k k xs1 xs1 (((List.length xs1) : Nat) : Int) (0 : Int)).bind (Sum.elim (fun t23 => ret t23) (fun t24 => ret true))
def f135 (k : Nat) (xs1 : List S104) : Option Bool := f135.step k some xs1
def f135.w {R : Type} : Bool → (Res env → Option R) → Option R := fun t29 K => K ⟨.v (.c (.s (.bool t29))), [[]]⟩
theorem f135.wn (x : Bool) : ∃ res, ∀ {R : Type} (K : Res env → Option R), f135.w x K = K res := by
  exact ⟨_, fun _ => rfl⟩
def f135.hd (k : Nat) (ps_ : List (P2 env)) : Cl env :=
  gC Cl.no ps_ fun p_ ps_ => qC Cl.no p_ fun c_ => qSl Cl.no 104 c_ fun xs1 => gE Cl.no ps_ <| { α := Bool, o := f135 k xs1, w := f135.w, nat := fun x _ => f135.wn x }
def f135.e (k : Nat) : Entry env := ⟨fun ps => f135.hd k (coer [[.rd 104]] ps), []⟩
def f135.X (k : Nat) : Ctx env := { C := lookE [(175, f175.e k), (176, f176.e k)], L := lookE [(9, fun S => f135.l9.hd k S.ts S.m S.n), (4, fun S => f135.l4.hd k S.ts S.m S.n)], J := lookE [], keep := lookD [(9, [0, 4, 10, 11, 12, 22, 23, 24]), (4, [0, 10, 11, 12])], keepX := lookD [(9, [0, 2, 10, 11, 12]), (4, [2])], span := lookN [(9, 176), (4, 464)], eff := fun n => memN n [], prep := lookP [], np := 0 }
theorem f135.l9.nat {R : Type} (k : Nat) (rec_ : (List S104) → (List S104) → Int → Int → (List S104) → Int → Int → ByteArray → ByteArray → Int → Int → Int → (List S211) → Option (((List S104) × Bool × (List S104) × Int × Int) ⊕ ((List S104) × (List S104) × Int × Int))) (g : (((List S104) × Bool × (List S104) × Int × Int) ⊕ ((List S104) × (List S104) × Int × Int)) → Option R) (xs7 : List S104) (xs8 : List S104) (a9 : Int) (a10 : Int) (xs11 : List S104) (a12 : Int) (a13 : Int) (s14 : ByteArray) (s15 : ByteArray) (a16 : Int) (a17 : Int) (a18 : Int) (xs19 : List S211) : (f135.l9.step k rec_ some xs7 xs8 a9 a10 xs11 a12 a13 s14 s15 a16 a17 a18 xs19).bind g = f135.l9.step k (fun xs7 xs8 a9 a10 xs11 a12 a13 s14 s15 a16 a17 a18 xs19 => (rec_ xs7 xs8 a9 a10 xs11 a12 a13 s14 s15 a16 a17 a18 xs19).bind g) g xs7 xs8 a9 a10 xs11 a12 a13 s14 s15 a16 a17 a18 xs19 := by
  simp only [f135.l9.step, bind_ite, bind_sum, Option.bind_assoc, Option.bind_some, Option.bind_none]
theorem f135.l9.good (k : Nat) (xs7 : List S104) (xs8 : List S104) (a9 : Int) (a10 : Int) (xs11 : List S104) (a12 : Int) (a13 : Int) (s14 : ByteArray) (s15 : ByteArray) (a16 : Int) (a17 : Int) (a18 : Int) (xs19 : List S211) : GoodL (f135.X k) (nthC 1 (loopsOf (bodyOf Try.f135))) (f135.l9.st xs7 xs8 a9 a10 xs11 a12 a13 s14 s15 a16 a17 a18 xs19) { α := (((List S104) × Bool × (List S104) × Int × Int) ⊕ ((List S104) × (List S104) × Int × Int)), o := f135.l9 k k xs7 xs8 a9 a10 xs11 a12 a13 s14 s15 a16 a17 a18 xs19, w := f135.l9.w } :=
  loop_good (ι := (List S104) × (List S104) × Int × Int × (List S104) × Int × Int × ByteArray × ByteArray × Int × Int × Int × (List S211)) (α := (((List S104) × Bool × (List S104) × Int × Int) ⊕ ((List S104) × (List S104) × Int × Int))) (fun i => f135.l9.st i.1 i.2.1 i.2.2.1 i.2.2.2.1 i.2.2.2.2.1 i.2.2.2.2.2.1 i.2.2.2.2.2.2.1 i.2.2.2.2.2.2.2.1 i.2.2.2.2.2.2.2.2.1 i.2.2.2.2.2.2.2.2.2.1 i.2.2.2.2.2.2.2.2.2.2.1 i.2.2.2.2.2.2.2.2.2.2.2.1 i.2.2.2.2.2.2.2.2.2.2.2.2) (fun j i => f135.l9 k j i.1 i.2.1 i.2.2.1 i.2.2.2.1 i.2.2.2.2.1 i.2.2.2.2.2.1 i.2.2.2.2.2.2.1 i.2.2.2.2.2.2.2.1 i.2.2.2.2.2.2.2.2.1 i.2.2.2.2.2.2.2.2.2.1 i.2.2.2.2.2.2.2.2.2.2.1 i.2.2.2.2.2.2.2.2.2.2.2.1 i.2.2.2.2.2.2.2.2.2.2.2.2) f135.l9.w (fun rec_ ret i => f135.l9.step k (fun xs7 xs8 a9 a10 xs11 a12 a13 s14 s15 a16 a17 a18 xs19 => rec_ (xs7, xs8, a9, a10, xs11, a12, a13, s14, s15, a16, a17, a18, xs19)) ret i.1 i.2.1 i.2.2.1 i.2.2.2.1 i.2.2.2.2.1 i.2.2.2.2.2.1 i.2.2.2.2.2.2.1 i.2.2.2.2.2.2.2.1 i.2.2.2.2.2.2.2.2.1 i.2.2.2.2.2.2.2.2.2.1 i.2.2.2.2.2.2.2.2.2.2.1 i.2.2.2.2.2.2.2.2.2.2.2.1 i.2.2.2.2.2.2.2.2.2.2.2.2)
    (fun _ => rfl) (fun _ _ => rfl) (fun rec_ g i => f135.l9.nat k _ g i.1 i.2.1 i.2.2.1 i.2.2.2.1 i.2.2.2.2.1 i.2.2.2.2.2.1 i.2.2.2.2.2.2.1 i.2.2.2.2.2.2.2.1 i.2.2.2.2.2.2.2.2.1 i.2.2.2.2.2.2.2.2.2.1 i.2.2.2.2.2.2.2.2.2.2.1 i.2.2.2.2.2.2.2.2.2.2.2.1 i.2.2.2.2.2.2.2.2.2.2.2.2) (fun {R} i0 i rec_ K => by kernel_rfl) k (xs7, xs8, a9, a10, xs11, a12, a13, s14, s15, a16, a17, a18, xs19)
theorem f135.l9.all (k : Nat) (S : St env) : GoodL (f135.X k) (nthC 1 (loopsOf (bodyOf Try.f135))) S (f135.l9.hd k S.ts S.m S.n) := by
  obtain ⟨ts_, m_, n_⟩ := S
  show GoodL _ _ _ (f135.l9.hd k ts_ m_ n_)
  unfold f135.l9.hd
  refine gTs_ok (p := GoodL _ _ _) goodL_no fun _ h => ?_
  subst h
  refine gV_ok (p := GoodL _ _ _) goodL_no fun _ _ h => ?_
  subst h
  refine rImm_ok (p := GoodL _ _ _) goodL_no fun _ h => ?_
  subst h
  refine gV_ok (p := GoodL _ _ _) goodL_no fun _ _ h => ?_
  subst h
  refine rBp_ok (p := GoodL _ _ _) goodL_no fun h => ?_
  subst h
  refine gV_ok (p := GoodL _ _ _) goodL_no fun _ _ h => ?_
  subst h
  refine rImm_ok (p := GoodL _ _ _) goodL_no fun _ h => ?_
  subst h
  refine gV_ok (p := GoodL _ _ _) goodL_no fun _ _ h => ?_
  subst h
  refine rV_ok (p := GoodL _ _ _) goodL_no fun _ h => ?_
  subst h
  refine vI_ok (p := GoodL _ _ _) goodL_no fun _ h => ?_
  subst h
  refine gV_ok (p := GoodL _ _ _) goodL_no fun _ _ h => ?_
  subst h
  refine rV_ok (p := GoodL _ _ _) goodL_no fun _ h => ?_
  subst h
  refine vI_ok (p := GoodL _ _ _) goodL_no fun _ h => ?_
  subst h
  refine gV_ok (p := GoodL _ _ _) goodL_no fun _ _ h => ?_
  subst h
  refine rImm_ok (p := GoodL _ _ _) goodL_no fun _ h => ?_
  subst h
  refine gV_ok (p := GoodL _ _ _) goodL_no fun _ _ h => ?_
  subst h
  refine rV_ok (p := GoodL _ _ _) goodL_no fun _ h => ?_
  subst h
  refine vI_ok (p := GoodL _ _ _) goodL_no fun _ h => ?_
  subst h
  refine gV_ok (p := GoodL _ _ _) goodL_no fun _ _ h => ?_
  subst h
  refine rV_ok (p := GoodL _ _ _) goodL_no fun _ h => ?_
  subst h
  refine vI_ok (p := GoodL _ _ _) goodL_no fun _ h => ?_
  subst h
  refine gE_ok (p := GoodL _ _ _) goodL_no fun h => ?_
  subst h
  refine mBox_ok (p := GoodL _ _ _) goodL_no fun _ _ h => ?_
  subst h
  refine gC_ok (p := GoodL _ _ _) goodL_no fun _ _ h => ?_
  subst h
  refine rV_ok (p := GoodL _ _ _) goodL_no fun _ h => ?_
  subst h
  refine vS_ok (p := GoodL _ _ _) goodL_no fun _ h => ?_
  subst h
  refine gC_ok (p := GoodL _ _ _) goodL_no fun _ _ h => ?_
  subst h
  refine rV_ok (p := GoodL _ _ _) goodL_no fun _ h => ?_
  subst h
  refine vS_ok (p := GoodL _ _ _) goodL_no fun _ h => ?_
  subst h
  refine gC_ok (p := GoodL _ _ _) goodL_no fun _ _ h => ?_
  subst h
  refine rV_ok (p := GoodL _ _ _) goodL_no fun _ h => ?_
  subst h
  refine vI_ok (p := GoodL _ _ _) goodL_no fun _ h => ?_
  subst h
  refine gC_ok (p := GoodL _ _ _) goodL_no fun _ _ h => ?_
  subst h
  refine rV_ok (p := GoodL _ _ _) goodL_no fun _ h => ?_
  subst h
  refine vI_ok (p := GoodL _ _ _) goodL_no fun _ h => ?_
  subst h
  refine gC_ok (p := GoodL _ _ _) goodL_no fun _ _ h => ?_
  subst h
  refine rV_ok (p := GoodL _ _ _) goodL_no fun _ h => ?_
  subst h
  refine vI_ok (p := GoodL _ _ _) goodL_no fun _ h => ?_
  subst h
  refine gC_ok (p := GoodL _ _ _) goodL_no fun _ _ h => ?_
  subst h
  refine rImm_ok (p := GoodL _ _ _) goodL_no fun _ h => ?_
  subst h
  refine gE_ok (p := GoodL _ _ _) goodL_no fun h => ?_
  subst h
  refine gE_ok (p := GoodL _ _ _) goodL_no fun h => ?_
  subst h
  refine gN_ok (p := GoodL _ _ _) goodL_no fun h => ?_
  subst h
  exact f135.l9.good k _ _ _ _ _ _ _ _ _ _ _ _ _
theorem f135.l4.nat {R : Type} (k : Nat) (rec_ : (List S104) → (List S104) → Int → Int → Option (Bool ⊕ (Unit))) (g : (Bool ⊕ (Unit)) → Option R) (xs2 : List S104) (xs3 : List S104) (a4 : Int) (a5 : Int) : (f135.l4.step k rec_ some xs2 xs3 a4 a5).bind g = f135.l4.step k (fun xs2 xs3 a4 a5 => (rec_ xs2 xs3 a4 a5).bind g) g xs2 xs3 a4 a5 := by
  simp only [f135.l4.step, bind_ite, bind_sum, Option.bind_assoc, Option.bind_some, Option.bind_none]
theorem f135.l4.good (k : Nat) (xs2 : List S104) (xs3 : List S104) (a4 : Int) (a5 : Int) : GoodL (f135.X k) (nthC 0 (loopsOf (bodyOf Try.f135))) (f135.l4.st xs2 xs3 a4 a5) { α := (Bool ⊕ (Unit)), o := f135.l4 k k xs2 xs3 a4 a5, w := f135.l4.w } :=
  loop_good (ι := (List S104) × (List S104) × Int × Int) (α := (Bool ⊕ (Unit))) (fun i => f135.l4.st i.1 i.2.1 i.2.2.1 i.2.2.2) (fun j i => f135.l4 k j i.1 i.2.1 i.2.2.1 i.2.2.2) f135.l4.w (fun rec_ ret i => f135.l4.step k (fun xs2 xs3 a4 a5 => rec_ (xs2, xs3, a4, a5)) ret i.1 i.2.1 i.2.2.1 i.2.2.2)
    (fun _ => rfl) (fun _ _ => rfl) (fun rec_ g i => f135.l4.nat k _ g i.1 i.2.1 i.2.2.1 i.2.2.2) (fun {R} i0 i rec_ K => by kernel_rfl) k (xs2, xs3, a4, a5)
theorem f135.l4.all (k : Nat) (S : St env) : GoodL (f135.X k) (nthC 0 (loopsOf (bodyOf Try.f135))) S (f135.l4.hd k S.ts S.m S.n) := by
  obtain ⟨ts_, m_, n_⟩ := S
  show GoodL _ _ _ (f135.l4.hd k ts_ m_ n_)
  unfold f135.l4.hd
  refine gTs_ok (p := GoodL _ _ _) goodL_no fun _ h => ?_
  subst h
  refine gV_ok (p := GoodL _ _ _) goodL_no fun _ _ h => ?_
  subst h
  refine rImm_ok (p := GoodL _ _ _) goodL_no fun _ h => ?_
  subst h
  refine gV_ok (p := GoodL _ _ _) goodL_no fun _ _ h => ?_
  subst h
  refine rImm_ok (p := GoodL _ _ _) goodL_no fun _ h => ?_
  subst h
  refine gV_ok (p := GoodL _ _ _) goodL_no fun _ _ h => ?_
  subst h
  refine rV_ok (p := GoodL _ _ _) goodL_no fun _ h => ?_
  subst h
  refine vI_ok (p := GoodL _ _ _) goodL_no fun _ h => ?_
  subst h
  refine gV_ok (p := GoodL _ _ _) goodL_no fun _ _ h => ?_
  subst h
  refine rV_ok (p := GoodL _ _ _) goodL_no fun _ h => ?_
  subst h
  refine vI_ok (p := GoodL _ _ _) goodL_no fun _ h => ?_
  subst h
  refine gE_ok (p := GoodL _ _ _) goodL_no fun h => ?_
  subst h
  refine gE_ok (p := GoodL _ _ _) goodL_no fun h => ?_
  subst h
  refine gN_ok (p := GoodL _ _ _) goodL_no fun h => ?_
  subst h
  exact f135.l4.good k _ _ _ _
theorem f135.nat {R : Type} (k : Nat) (g : Bool → Option R) (xs1 : List S104) : f135.step k g xs1 = (f135 k xs1).bind g := by
  simp only [f135, f135.step, bind_ite, bind_sum, Option.bind_assoc, Option.bind_some, Option.bind_none]
theorem f135.ev (k : Nat) (xs1 : List S104) : evF (f135.X k) (bodyOf Try.f135) Try.f135.ntmps Try.f135.results.toList [.v (.c (.sl 104 xs1))] = f135.step k (fun x => f135.w x some) xs1 := by kernel_rfl
theorem f135.hok (k : Nat) : HOK (f135.X k) (bodyOf Try.f135) where
  l := allP_mem (by exact ⟨ls_of (h0 := fun S => f135.l4.hd k S.ts S.m S.n) (by kernel_rfl) (f135.l4.all k), ls_of (h0 := fun S => f135.l9.hd k S.ts S.m S.n) (by kernel_rfl) (f135.l9.all k), trivial⟩)
  j := allP_mem (by exact trivial)
theorem f135.sound0 (k : Nat) : SoundC env Try.prog 135 (f135.hd k) := by
  intro ps_
  show GoodC _ _ _ ps_ (f135.hd k ps_)
  unfold f135.hd
  refine gC_ok (p := GoodC env Try.prog 135 _) goodC_no fun _ _ h => ?_
  subst h
  refine qC_ok (p := GoodC env Try.prog 135 _) goodC_no fun _ h => ?_
  subst h
  refine qSl_ok (p := GoodC env Try.prog 135 _) goodC_no fun _ h => ?_
  subst h
  refine gE_ok (p := GoodC env Try.prog 135 _) goodC_no fun h => ?_
  subst h
  exact fun_good (fun_sound envOK (cs_sound _ (by exact ⟨⟨f175.sound k, f175.fnok⟩, ⟨f176.sound k, f176.fnok⟩, trivial⟩)) (f135.hok k) Try.func135 rfl) ((f135.ev k _).trans (f135.nat k _ _))
theorem f135.sound (k : Nat) : SoundC env Try.prog 135 (f135.e k).F := soundC_coer (f135.sound0 k) [[.rd 104]]
theorem f135.says (k : Nat) (xs1 : List S104) (t30 : Bool) (h_ : f135 k xs1 = some t30) : SoundAt env Try.prog 135 [.v (.c (.sl 104 xs1))] ⟨.v (.c (.s (.bool t30))), [[]]⟩ :=
  fun_sound envOK (cs_sound _ (by exact ⟨⟨f175.sound k, f175.fnok⟩, ⟨f176.sound k, f176.fnok⟩, trivial⟩)) (f135.hok k) Try.func135 rfl _ _ (((f135.ev k xs1).trans (f135.nat k _ xs1)).trans (by rw [h_]; rfl))
theorem f135.fnok : FnOK Try.prog 135 := fn_ok Try.func135 (by kernel_rfl) rfl
def f136.l3.step {R : Type} (k : Nat) (rec_ : (List S211) → Int → Int → ByteArray → ByteArray → Int → Int → Int → (List S211) → ByteArray → ByteArray → Int → Int → Int → (List S211) → Option R) (ret : (ByteArray × ByteArray × Int × Int × Int × (List S211) × ByteArray × ByteArray × Int × Int × Int × (List S211)) → Option R) (xs7 : List S211) (a8 : Int) (a9 : Int) (s10 : ByteArray) (s11 : ByteArray) (a12 : Int) (a13 : Int) (a14 : Int) (xs15 : List S211) (s16 : ByteArray) (s17 : ByteArray) (a18 : Int) (a19 : Int) (a20 : Int) (xs21 : List S211) : Option R :=
  if (decide (a9 < a8)) = true then
    if (0 : Int) ≤ a9 then
      if a9 < ((List.length xs7 : Nat) : Int) then
        if (List.length ([] : List Int) + List.length (List.getD xs7 (Int.toNat a9) (⟨(0 : Int), false, []⟩ : S211)).f2) * 1 ≤ maxN then
          if (0 : Int) ≤ a9 then
            if a9 < ((List.length xs21 : Nat) : Int) then
              rec_ xs7 a8 (IntKind.i64.wrap (a9 + (1 : Int))) s10 s11 a12 a13 a14 xs15 s16 s17 a18 a19 a20 (List.set xs21 (Int.toNat a9) (⟨(List.getD xs7 (Int.toNat a9) (⟨(0 : Int), false, []⟩ : S211)).f0, (List.getD xs7 (Int.toNat a9) (⟨(0 : Int), false, []⟩ : S211)).f1, (([] : List Int) ++ (List.getD xs7 (Int.toNat a9) (⟨(0 : Int), false, []⟩ : S211)).f2)⟩ : S211))
            else none
          else none
        else none
      else none
    else none
  else
    ret (s10, s11, a12, a13, a14, xs15, s16, s17, a18, a19, a20, xs21)
def f136.l3 (k : Nat) : Nat → (List S211) → Int → Int → ByteArray → ByteArray → Int → Int → Int → (List S211) → ByteArray → ByteArray → Int → Int → Int → (List S211) → Option (ByteArray × ByteArray × Int × Int × Int × (List S211) × ByteArray × ByteArray × Int × Int × Int × (List S211))
  | 0, _, _, _, _, _, _, _, _, _, _, _, _, _, _, _ => none
  | j + 1, xs7, a8, a9, s10, s11, a12, a13, a14, xs15, s16, s17, a18, a19, a20, xs21 => f136.l3.step k (fun xs7 a8 a9 s10 s11 a12 a13 a14 xs15 s16 s17 a18 a19 a20 xs21 => f136.l3 k j xs7 a8 a9 s10 s11 a12 a13 a14 xs15 s16 s17 a18 a19 a20 xs21) some xs7 a8 a9 s10 s11 a12 a13 a14 xs15 s16 s17 a18 a19 a20 xs21
def f136.l3.w {R : Type} : (ByteArray × ByteArray × Int × Int × Int × (List S211) × ByteArray × ByteArray × Int × Int × Int × (List S211)) → (Exit → St env → Option R) → Option R := fun t23 K => K (.exit 0) ⟨fullT [1, 2, 3] 0 31 [.v (.c (.bp 1 0)), .v (.c (.bp 17 0)), .v (.c (.row 81))], [(1, .box [.s (.string t23.1), .s (.string t23.2.1), .s (.int .i64 t23.2.2.1), .s (.int .i64 t23.2.2.2.1), .s (.int .i64 t23.2.2.2.2.1), .imm 211 t23.2.2.2.2.2.1]), (17, .box [.s (.string t23.2.2.2.2.2.2.1), .s (.string t23.2.2.2.2.2.2.2.1), .s (.int .i64 t23.2.2.2.2.2.2.2.2.1), .s (.int .i64 t23.2.2.2.2.2.2.2.2.2.1), .s (.int .i64 t23.2.2.2.2.2.2.2.2.2.2.1), .s (.slice none 0 0)]), (81, .row true 211 t23.2.2.2.2.2.2.2.2.2.2.2)], 497⟩
def f136.l3.st (xs7 : List S211) (a8 : Int) (a9 : Int) (s10 : ByteArray) (s11 : ByteArray) (a12 : Int) (a13 : Int) (a14 : Int) (xs15 : List S211) (s16 : ByteArray) (s17 : ByteArray) (a18 : Int) (a19 : Int) (a20 : Int) (xs21 : List S211) : St env := ⟨fullT [1, 2, 3, 11, 12, 13] 0 31 [.v (.c (.bp 1 0)), .v (.c (.bp 17 0)), .v (.c (.row 81)), .v (.c (.imm 211 xs7)), .v (.c (.s (.int .i64 a8))), .v (.c (.s (.int .i64 a9)))], [(1, .box [.s (.string s10), .s (.string s11), .s (.int .i64 a12), .s (.int .i64 a13), .s (.int .i64 a14), .imm 211 xs15]), (17, .box [.s (.string s16), .s (.string s17), .s (.int .i64 a18), .s (.int .i64 a19), .s (.int .i64 a20), .s (.slice none 0 0)]), (81, .row true 211 xs21)], 177⟩
def f136.l3.hd (k : Nat) (ts_ : List (AV env)) (mm_ : Mem env) (n_ : Nat) : LCl env :=
  gTs LCl.no [1, 2, 3, 11, 12, 13] 31 ts_ fun l_ => gV LCl.no l_ fun a_ l_ => rBp LCl.no 1 0 a_ <| gV LCl.no l_ fun a_ l_ => rBp LCl.no 17 0 a_ <| gV LCl.no l_ fun a_ l_ => rRow LCl.no 81 a_ <| gV LCl.no l_ fun a_ l_ => rImm LCl.no 211 a_ fun xs7 => gV LCl.no l_ fun a_ l_ => rV LCl.no a_ fun v_ => vI LCl.no .i64 v_ fun a8 => gV LCl.no l_ fun a_ l_ => rV LCl.no a_ fun v_ => vI LCl.no .i64 v_ fun a9 => gE LCl.no l_ <| mBox LCl.no 1 mm_ fun c_ m_ => gC LCl.no c_ fun a_ c_ => rV LCl.no a_ fun v_ => vS LCl.no v_ fun s10 => gC LCl.no c_ fun a_ c_ => rV LCl.no a_ fun v_ => vS LCl.no v_ fun s11 => gC LCl.no c_ fun a_ c_ => rV LCl.no a_ fun v_ => vI LCl.no .i64 v_ fun a12 => gC LCl.no c_ fun a_ c_ => rV LCl.no a_ fun v_ => vI LCl.no .i64 v_ fun a13 => gC LCl.no c_ fun a_ c_ => rV LCl.no a_ fun v_ => vI LCl.no .i64 v_ fun a14 => gC LCl.no c_ fun a_ c_ => rImm LCl.no 211 a_ fun xs15 => gE LCl.no c_ <| mBox LCl.no 17 m_ fun c_ m_ => gC LCl.no c_ fun a_ c_ => rV LCl.no a_ fun v_ => vS LCl.no v_ fun s16 => gC LCl.no c_ fun a_ c_ => rV LCl.no a_ fun v_ => vS LCl.no v_ fun s17 => gC LCl.no c_ fun a_ c_ => rV LCl.no a_ fun v_ => vI LCl.no .i64 v_ fun a18 => gC LCl.no c_ fun a_ c_ => rV LCl.no a_ fun v_ => vI LCl.no .i64 v_ fun a19 => gC LCl.no c_ fun a_ c_ => rV LCl.no a_ fun v_ => vI LCl.no .i64 v_ fun a20 => gC LCl.no c_ fun a_ c_ => rV LCl.no a_ fun v_ => vNil LCl.no v_ <| gE LCl.no c_ <| mRow LCl.no 81 true 211 m_ fun xs21 m_ => gE LCl.no m_ <| gN LCl.no 177 n_ { α := ByteArray × ByteArray × Int × Int × Int × (List S211) × ByteArray × ByteArray × Int × Int × Int × (List S211), o := f136.l3 k k xs7 a8 a9 s10 s11 a12 a13 a14 xs15 s16 s17 a18 a19 a20 xs21, w := f136.l3.w }
def f136.step {R : Type} (k : Nat) (ret : (ByteArray × ByteArray × Int × Int × Int × (List S211)) → Option R) (s1 : ByteArray) (s2 : ByteArray) (a3 : Int) (a4 : Int) (a5 : Int) (xs6 : List S211) : Option R :=
  if (0 : Int) ≤ (((List.length xs6) : Nat) : Int) then
    if (Int.toNat (((List.length xs6) : Nat) : Int)) * 40 ≤ maxN then
      (f136.l3 k k xs6 (((List.length xs6) : Nat) : Int) (0 : Int) s1 s2 a3 a4 a5 xs6 ByteArray.empty ByteArray.empty (0 : Int) (0 : Int) (0 : Int) (List.replicate (Int.toNat (((List.length xs6) : Nat) : Int)) (⟨(0 : Int), false, []⟩ : S211))).bind fun t22 => ret (t22.1, t22.2.1, t22.2.2.1, t22.2.2.2.1, t22.2.2.2.2.1, t22.2.2.2.2.2.2.2.2.2.2.2)
    else none
  else none
def f136 (k : Nat) (s1 : ByteArray) (s2 : ByteArray) (a3 : Int) (a4 : Int) (a5 : Int) (xs6 : List S211) : Option (ByteArray × ByteArray × Int × Int × Int × (List S211)) := f136.step k some s1 s2 a3 a4 a5 xs6
def f136.w {R : Type} : (ByteArray × ByteArray × Int × Int × Int × (List S211)) → (Res env → Option R) → Option R := fun t24 K => K ⟨.v (.g [.s (.string t24.1), .s (.string t24.2.1), .s (.int .i64 t24.2.2.1), .s (.int .i64 t24.2.2.2.1), .s (.int .i64 t24.2.2.2.2.1), .own true 211 t24.2.2.2.2.2]), [[]]⟩
theorem f136.wn (x : (ByteArray × ByteArray × Int × Int × Int × (List S211))) : ∃ res, ∀ {R : Type} (K : Res env → Option R), f136.w x K = K res := by
  exact ⟨_, fun _ => rfl⟩
def f136.hd (k : Nat) (ps_ : List (P2 env)) : Cl env :=
  gC Cl.no ps_ fun p_ ps_ => qG Cl.no p_ fun cs_ => gC Cl.no cs_ fun c_ cs_ => qS Cl.no c_ fun v_ => vS Cl.no v_ fun s1 => gC Cl.no cs_ fun c_ cs_ => qS Cl.no c_ fun v_ => vS Cl.no v_ fun s2 => gC Cl.no cs_ fun c_ cs_ => qS Cl.no c_ fun v_ => vI Cl.no .i64 v_ fun a3 => gC Cl.no cs_ fun c_ cs_ => qS Cl.no c_ fun v_ => vI Cl.no .i64 v_ fun a4 => gC Cl.no cs_ fun c_ cs_ => qS Cl.no c_ fun v_ => vI Cl.no .i64 v_ fun a5 => gC Cl.no cs_ fun c_ cs_ => qSl Cl.no 211 c_ fun xs6 => gE Cl.no cs_ <| gE Cl.no ps_ <| { α := ByteArray × ByteArray × Int × Int × Int × (List S211), o := f136 k s1 s2 a3 a4 a5 xs6, w := f136.w, nat := fun x _ => f136.wn x }
def f136.e (k : Nat) : Entry env := ⟨fun ps => f136.hd k (coer [[.no, .no, .no, .no, .no, .rd 211]] ps), []⟩
def f136.X (k : Nat) : Ctx env := { C := lookE [], L := lookE [(3, fun S => f136.l3.hd k S.ts S.m S.n)], J := lookE [], keep := lookD [(3, [1, 2, 3, 11, 12, 13])], keepX := lookD [(3, [1, 2, 3])], span := lookN [(3, 320)], eff := fun n => memN n [], prep := lookP [], np := 0 }
theorem f136.l3.nat {R : Type} (k : Nat) (rec_ : (List S211) → Int → Int → ByteArray → ByteArray → Int → Int → Int → (List S211) → ByteArray → ByteArray → Int → Int → Int → (List S211) → Option (ByteArray × ByteArray × Int × Int × Int × (List S211) × ByteArray × ByteArray × Int × Int × Int × (List S211))) (g : (ByteArray × ByteArray × Int × Int × Int × (List S211) × ByteArray × ByteArray × Int × Int × Int × (List S211)) → Option R) (xs7 : List S211) (a8 : Int) (a9 : Int) (s10 : ByteArray) (s11 : ByteArray) (a12 : Int) (a13 : Int) (a14 : Int) (xs15 : List S211) (s16 : ByteArray) (s17 : ByteArray) (a18 : Int) (a19 : Int) (a20 : Int) (xs21 : List S211) : (f136.l3.step k rec_ some xs7 a8 a9 s10 s11 a12 a13 a14 xs15 s16 s17 a18 a19 a20 xs21).bind g = f136.l3.step k (fun xs7 a8 a9 s10 s11 a12 a13 a14 xs15 s16 s17 a18 a19 a20 xs21 => (rec_ xs7 a8 a9 s10 s11 a12 a13 a14 xs15 s16 s17 a18 a19 a20 xs21).bind g) g xs7 a8 a9 s10 s11 a12 a13 a14 xs15 s16 s17 a18 a19 a20 xs21 := by
  simp only [f136.l3.step, bind_ite, bind_sum, Option.bind_assoc, Option.bind_some, Option.bind_none]
theorem f136.l3.good (k : Nat) (xs7 : List S211) (a8 : Int) (a9 : Int) (s10 : ByteArray) (s11 : ByteArray) (a12 : Int) (a13 : Int) (a14 : Int) (xs15 : List S211) (s16 : ByteArray) (s17 : ByteArray) (a18 : Int) (a19 : Int) (a20 : Int) (xs21 : List S211) : GoodL (f136.X k) (nthC 0 (loopsOf (bodyOf Try.f136))) (f136.l3.st xs7 a8 a9 s10 s11 a12 a13 a14 xs15 s16 s17 a18 a19 a20 xs21) { α := (ByteArray × ByteArray × Int × Int × Int × (List S211) × ByteArray × ByteArray × Int × Int × Int × (List S211)), o := f136.l3 k k xs7 a8 a9 s10 s11 a12 a13 a14 xs15 s16 s17 a18 a19 a20 xs21, w := f136.l3.w } :=
  loop_good (ι := (List S211) × Int × Int × ByteArray × ByteArray × Int × Int × Int × (List S211) × ByteArray × ByteArray × Int × Int × Int × (List S211)) (α := (ByteArray × ByteArray × Int × Int × Int × (List S211) × ByteArray × ByteArray × Int × Int × Int × (List S211))) (fun i => f136.l3.st i.1 i.2.1 i.2.2.1 i.2.2.2.1 i.2.2.2.2.1 i.2.2.2.2.2.1 i.2.2.2.2.2.2.1 i.2.2.2.2.2.2.2.1 i.2.2.2.2.2.2.2.2.1 i.2.2.2.2.2.2.2.2.2.1 i.2.2.2.2.2.2.2.2.2.2.1 i.2.2.2.2.2.2.2.2.2.2.2.1 i.2.2.2.2.2.2.2.2.2.2.2.2.1 i.2.2.2.2.2.2.2.2.2.2.2.2.2.1 i.2.2.2.2.2.2.2.2.2.2.2.2.2.2) (fun j i => f136.l3 k j i.1 i.2.1 i.2.2.1 i.2.2.2.1 i.2.2.2.2.1 i.2.2.2.2.2.1 i.2.2.2.2.2.2.1 i.2.2.2.2.2.2.2.1 i.2.2.2.2.2.2.2.2.1 i.2.2.2.2.2.2.2.2.2.1 i.2.2.2.2.2.2.2.2.2.2.1 i.2.2.2.2.2.2.2.2.2.2.2.1 i.2.2.2.2.2.2.2.2.2.2.2.2.1 i.2.2.2.2.2.2.2.2.2.2.2.2.2.1 i.2.2.2.2.2.2.2.2.2.2.2.2.2.2) f136.l3.w (fun rec_ ret i => f136.l3.step k (fun xs7 a8 a9 s10 s11 a12 a13 a14 xs15 s16 s17 a18 a19 a20 xs21 => rec_ (xs7, a8, a9, s10, s11, a12, a13, a14, xs15, s16, s17, a18, a19, a20, xs21)) ret i.1 i.2.1 i.2.2.1 i.2.2.2.1 i.2.2.2.2.1 i.2.2.2.2.2.1 i.2.2.2.2.2.2.1 i.2.2.2.2.2.2.2.1 i.2.2.2.2.2.2.2.2.1 i.2.2.2.2.2.2.2.2.2.1 i.2.2.2.2.2.2.2.2.2.2.1 i.2.2.2.2.2.2.2.2.2.2.2.1 i.2.2.2.2.2.2.2.2.2.2.2.2.1 i.2.2.2.2.2.2.2.2.2.2.2.2.2.1 i.2.2.2.2.2.2.2.2.2.2.2.2.2.2)
    (fun _ => rfl) (fun _ _ => rfl) (fun rec_ g i => f136.l3.nat k _ g i.1 i.2.1 i.2.2.1 i.2.2.2.1 i.2.2.2.2.1 i.2.2.2.2.2.1 i.2.2.2.2.2.2.1 i.2.2.2.2.2.2.2.1 i.2.2.2.2.2.2.2.2.1 i.2.2.2.2.2.2.2.2.2.1 i.2.2.2.2.2.2.2.2.2.2.1 i.2.2.2.2.2.2.2.2.2.2.2.1 i.2.2.2.2.2.2.2.2.2.2.2.2.1 i.2.2.2.2.2.2.2.2.2.2.2.2.2.1 i.2.2.2.2.2.2.2.2.2.2.2.2.2.2) (fun {R} i0 i rec_ K => by kernel_rfl) k (xs7, a8, a9, s10, s11, a12, a13, a14, xs15, s16, s17, a18, a19, a20, xs21)
theorem f136.l3.all (k : Nat) (S : St env) : GoodL (f136.X k) (nthC 0 (loopsOf (bodyOf Try.f136))) S (f136.l3.hd k S.ts S.m S.n) := by
  obtain ⟨ts_, m_, n_⟩ := S
  show GoodL _ _ _ (f136.l3.hd k ts_ m_ n_)
  unfold f136.l3.hd
  refine gTs_ok (p := GoodL _ _ _) goodL_no fun _ h => ?_
  subst h
  refine gV_ok (p := GoodL _ _ _) goodL_no fun _ _ h => ?_
  subst h
  refine rBp_ok (p := GoodL _ _ _) goodL_no fun h => ?_
  subst h
  refine gV_ok (p := GoodL _ _ _) goodL_no fun _ _ h => ?_
  subst h
  refine rBp_ok (p := GoodL _ _ _) goodL_no fun h => ?_
  subst h
  refine gV_ok (p := GoodL _ _ _) goodL_no fun _ _ h => ?_
  subst h
  refine rRow_ok (p := GoodL _ _ _) goodL_no fun h => ?_
  subst h
  refine gV_ok (p := GoodL _ _ _) goodL_no fun _ _ h => ?_
  subst h
  refine rImm_ok (p := GoodL _ _ _) goodL_no fun _ h => ?_
  subst h
  refine gV_ok (p := GoodL _ _ _) goodL_no fun _ _ h => ?_
  subst h
  refine rV_ok (p := GoodL _ _ _) goodL_no fun _ h => ?_
  subst h
  refine vI_ok (p := GoodL _ _ _) goodL_no fun _ h => ?_
  subst h
  refine gV_ok (p := GoodL _ _ _) goodL_no fun _ _ h => ?_
  subst h
  refine rV_ok (p := GoodL _ _ _) goodL_no fun _ h => ?_
  subst h
  refine vI_ok (p := GoodL _ _ _) goodL_no fun _ h => ?_
  subst h
  refine gE_ok (p := GoodL _ _ _) goodL_no fun h => ?_
  subst h
  refine mBox_ok (p := GoodL _ _ _) goodL_no fun _ _ h => ?_
  subst h
  refine gC_ok (p := GoodL _ _ _) goodL_no fun _ _ h => ?_
  subst h
  refine rV_ok (p := GoodL _ _ _) goodL_no fun _ h => ?_
  subst h
  refine vS_ok (p := GoodL _ _ _) goodL_no fun _ h => ?_
  subst h
  refine gC_ok (p := GoodL _ _ _) goodL_no fun _ _ h => ?_
  subst h
  refine rV_ok (p := GoodL _ _ _) goodL_no fun _ h => ?_
  subst h
  refine vS_ok (p := GoodL _ _ _) goodL_no fun _ h => ?_
  subst h
  refine gC_ok (p := GoodL _ _ _) goodL_no fun _ _ h => ?_
  subst h
  refine rV_ok (p := GoodL _ _ _) goodL_no fun _ h => ?_
  subst h
  refine vI_ok (p := GoodL _ _ _) goodL_no fun _ h => ?_
  subst h
  refine gC_ok (p := GoodL _ _ _) goodL_no fun _ _ h => ?_
  subst h
  refine rV_ok (p := GoodL _ _ _) goodL_no fun _ h => ?_
  subst h
  refine vI_ok (p := GoodL _ _ _) goodL_no fun _ h => ?_
  subst h
  refine gC_ok (p := GoodL _ _ _) goodL_no fun _ _ h => ?_
  subst h
  refine rV_ok (p := GoodL _ _ _) goodL_no fun _ h => ?_
  subst h
  refine vI_ok (p := GoodL _ _ _) goodL_no fun _ h => ?_
  subst h
  refine gC_ok (p := GoodL _ _ _) goodL_no fun _ _ h => ?_
  subst h
  refine rImm_ok (p := GoodL _ _ _) goodL_no fun _ h => ?_
  subst h
  refine gE_ok (p := GoodL _ _ _) goodL_no fun h => ?_
  subst h
  refine mBox_ok (p := GoodL _ _ _) goodL_no fun _ _ h => ?_
  subst h
  refine gC_ok (p := GoodL _ _ _) goodL_no fun _ _ h => ?_
  subst h
  refine rV_ok (p := GoodL _ _ _) goodL_no fun _ h => ?_
  subst h
  refine vS_ok (p := GoodL _ _ _) goodL_no fun _ h => ?_
  subst h
  refine gC_ok (p := GoodL _ _ _) goodL_no fun _ _ h => ?_
  subst h
  refine rV_ok (p := GoodL _ _ _) goodL_no fun _ h => ?_
  subst h
  refine vS_ok (p := GoodL _ _ _) goodL_no fun _ h => ?_
  subst h
  refine gC_ok (p := GoodL _ _ _) goodL_no fun _ _ h => ?_
  subst h
  refine rV_ok (p := GoodL _ _ _) goodL_no fun _ h => ?_
  subst h
  refine vI_ok (p := GoodL _ _ _) goodL_no fun _ h => ?_
  subst h
  refine gC_ok (p := GoodL _ _ _) goodL_no fun _ _ h => ?_
  subst h
  refine rV_ok (p := GoodL _ _ _) goodL_no fun _ h => ?_
  subst h
  refine vI_ok (p := GoodL _ _ _) goodL_no fun _ h => ?_
  subst h
  refine gC_ok (p := GoodL _ _ _) goodL_no fun _ _ h => ?_
  subst h
  refine rV_ok (p := GoodL _ _ _) goodL_no fun _ h => ?_
  subst h
  refine vI_ok (p := GoodL _ _ _) goodL_no fun _ h => ?_
  subst h
  refine gC_ok (p := GoodL _ _ _) goodL_no fun _ _ h => ?_
  subst h
  refine rV_ok (p := GoodL _ _ _) goodL_no fun _ h => ?_
  subst h
  refine vNil_ok (p := GoodL _ _ _) goodL_no fun h => ?_
  subst h
  refine gE_ok (p := GoodL _ _ _) goodL_no fun h => ?_
  subst h
  refine mRow_ok (p := GoodL _ _ _) goodL_no fun _ _ h => ?_
  subst h
  refine gE_ok (p := GoodL _ _ _) goodL_no fun h => ?_
  subst h
  refine gN_ok (p := GoodL _ _ _) goodL_no fun h => ?_
  subst h
  exact f136.l3.good k _ _ _ _ _ _ _ _ _ _ _ _ _ _ _
theorem f136.nat {R : Type} (k : Nat) (g : (ByteArray × ByteArray × Int × Int × Int × (List S211)) → Option R) (s1 : ByteArray) (s2 : ByteArray) (a3 : Int) (a4 : Int) (a5 : Int) (xs6 : List S211) : f136.step k g s1 s2 a3 a4 a5 xs6 = (f136 k s1 s2 a3 a4 a5 xs6).bind g := by
  simp only [f136, f136.step, bind_ite, bind_sum, Option.bind_assoc, Option.bind_some, Option.bind_none]
theorem f136.ev (k : Nat) (s1 : ByteArray) (s2 : ByteArray) (a3 : Int) (a4 : Int) (a5 : Int) (xs6 : List S211) : evF (f136.X k) (bodyOf Try.f136) Try.f136.ntmps Try.f136.results.toList [.g [.s (.string s1), .s (.string s2), .s (.int .i64 a3), .s (.int .i64 a4), .s (.int .i64 a5), .sl 211 xs6]] = f136.step k (fun x => f136.w x some) s1 s2 a3 a4 a5 xs6 := by kernel_rfl
theorem f136.hok (k : Nat) : HOK (f136.X k) (bodyOf Try.f136) where
  l := allP_mem (by exact ⟨ls_of (h0 := fun S => f136.l3.hd k S.ts S.m S.n) (by kernel_rfl) (f136.l3.all k), trivial⟩)
  j := allP_mem (by exact trivial)
theorem f136.sound0 (k : Nat) : SoundC env Try.prog 136 (f136.hd k) := by
  intro ps_
  show GoodC _ _ _ ps_ (f136.hd k ps_)
  unfold f136.hd
  refine gC_ok (p := GoodC env Try.prog 136 _) goodC_no fun _ _ h => ?_
  subst h
  refine qG_ok (p := GoodC env Try.prog 136 _) goodC_no fun _ h => ?_
  subst h
  refine gC_ok (p := GoodC env Try.prog 136 _) goodC_no fun _ _ h => ?_
  subst h
  refine qS_ok (p := GoodC env Try.prog 136 _) goodC_no fun _ h => ?_
  subst h
  refine vS_ok (p := GoodC env Try.prog 136 _) goodC_no fun _ h => ?_
  subst h
  refine gC_ok (p := GoodC env Try.prog 136 _) goodC_no fun _ _ h => ?_
  subst h
  refine qS_ok (p := GoodC env Try.prog 136 _) goodC_no fun _ h => ?_
  subst h
  refine vS_ok (p := GoodC env Try.prog 136 _) goodC_no fun _ h => ?_
  subst h
  refine gC_ok (p := GoodC env Try.prog 136 _) goodC_no fun _ _ h => ?_
  subst h
  refine qS_ok (p := GoodC env Try.prog 136 _) goodC_no fun _ h => ?_
  subst h
  refine vI_ok (p := GoodC env Try.prog 136 _) goodC_no fun _ h => ?_
  subst h
  refine gC_ok (p := GoodC env Try.prog 136 _) goodC_no fun _ _ h => ?_
  subst h
  refine qS_ok (p := GoodC env Try.prog 136 _) goodC_no fun _ h => ?_
  subst h
  refine vI_ok (p := GoodC env Try.prog 136 _) goodC_no fun _ h => ?_
  subst h
  refine gC_ok (p := GoodC env Try.prog 136 _) goodC_no fun _ _ h => ?_
  subst h
  refine qS_ok (p := GoodC env Try.prog 136 _) goodC_no fun _ h => ?_
  subst h
  refine vI_ok (p := GoodC env Try.prog 136 _) goodC_no fun _ h => ?_
  subst h
  refine gC_ok (p := GoodC env Try.prog 136 _) goodC_no fun _ _ h => ?_
  subst h
  refine qSl_ok (p := GoodC env Try.prog 136 _) goodC_no fun _ h => ?_
  subst h
  refine gE_ok (p := GoodC env Try.prog 136 _) goodC_no fun h => ?_
  subst h
  refine gE_ok (p := GoodC env Try.prog 136 _) goodC_no fun h => ?_
  subst h
  exact fun_good (fun_sound envOK (cs_sound _ (by exact trivial)) (f136.hok k) Try.func136 rfl) ((f136.ev k _ _ _ _ _ _).trans (f136.nat k _ _ _ _ _ _ _))
theorem f136.sound (k : Nat) : SoundC env Try.prog 136 (f136.e k).F := soundC_coer (f136.sound0 k) [[.no, .no, .no, .no, .no, .rd 211]]
theorem f136.says (k : Nat) (s1 : ByteArray) (s2 : ByteArray) (a3 : Int) (a4 : Int) (a5 : Int) (xs6 : List S211) (t25 : ByteArray × ByteArray × Int × Int × Int × (List S211)) (h_ : f136 k s1 s2 a3 a4 a5 xs6 = some t25) : SoundAt env Try.prog 136 [.g [.s (.string s1), .s (.string s2), .s (.int .i64 a3), .s (.int .i64 a4), .s (.int .i64 a5), .sl 211 xs6]] ⟨.v (.g [.s (.string t25.1), .s (.string t25.2.1), .s (.int .i64 t25.2.2.1), .s (.int .i64 t25.2.2.2.1), .s (.int .i64 t25.2.2.2.2.1), .own true 211 t25.2.2.2.2.2]), [[]]⟩ :=
  fun_sound envOK (cs_sound _ (by exact trivial)) (f136.hok k) Try.func136 rfl _ _ (((f136.ev k s1 s2 a3 a4 a5 xs6).trans (f136.nat k _ s1 s2 a3 a4 a5 xs6)).trans (by rw [h_]; rfl))
theorem f136.fnok : FnOK Try.prog 136 := fn_ok Try.func136 (by kernel_rfl) rfl
def f69.l9.step {R : Type} (k : Nat) (rec_ : (List S104) → Int → (List S104) → Int → Int → (List S104) → Option R) (ret : ((List S104) × (List S104)) → Option R) (xs5 : List S104) (a6 : Int) (xs7 : List S104) (a8 : Int) (a9 : Int) (xs10 : List S104) : Option R :=
  if (decide (a9 < a8)) = true then
    if (0 : Int) ≤ a9 then
      if a9 < ((List.length xs7 : Nat) : Int) then
        if (decide ((List.getD xs7 (Int.toNat a9) (⟨ByteArray.empty, ByteArray.empty, (0 : Int), (0 : Int), (0 : Int), []⟩ : S104)).f4 > a6)) = true then
          (f136 k (List.getD xs7 (Int.toNat a9) (⟨ByteArray.empty, ByteArray.empty, (0 : Int), (0 : Int), (0 : Int), []⟩ : S104)).f0 (List.getD xs7 (Int.toNat a9) (⟨ByteArray.empty, ByteArray.empty, (0 : Int), (0 : Int), (0 : Int), []⟩ : S104)).f1 (List.getD xs7 (Int.toNat a9) (⟨ByteArray.empty, ByteArray.empty, (0 : Int), (0 : Int), (0 : Int), []⟩ : S104)).f2 (List.getD xs7 (Int.toNat a9) (⟨ByteArray.empty, ByteArray.empty, (0 : Int), (0 : Int), (0 : Int), []⟩ : S104)).f3 (List.getD xs7 (Int.toNat a9) (⟨ByteArray.empty, ByteArray.empty, (0 : Int), (0 : Int), (0 : Int), []⟩ : S104)).f4 (List.getD xs7 (Int.toNat a9) (⟨ByteArray.empty, ByteArray.empty, (0 : Int), (0 : Int), (0 : Int), []⟩ : S104)).f5).bind fun t11 => if (List.length xs10 + List.length ([(⟨t11.1, t11.2.1, t11.2.2.1, t11.2.2.2.1, t11.2.2.2.2.1, t11.2.2.2.2.2⟩ : S104)] : List S104)) * 80 ≤ maxN then
              rec_ xs5 a6 xs7 a8 (IntKind.i64.wrap (a9 + (1 : Int))) (xs10 ++ ([(⟨t11.1, t11.2.1, t11.2.2.1, t11.2.2.2.1, t11.2.2.2.2.1, t11.2.2.2.2.2⟩ : S104)] : List S104))
            else none
        else
          rec_ xs5 a6 xs7 a8 (IntKind.i64.wrap (a9 + (1 : Int))) xs10
      else none
    else none
  else
    ret (xs5, xs10)
def f69.l9 (k : Nat) : Nat → (List S104) → Int → (List S104) → Int → Int → (List S104) → Option ((List S104) × (List S104))
  | 0, _, _, _, _, _, _ => none
  | j + 1, xs5, a6, xs7, a8, a9, xs10 => f69.l9.step k (fun xs5 a6 xs7 a8 a9 xs10 => f69.l9 k j xs5 a6 xs7 a8 a9 xs10) some xs5 a6 xs7 a8 a9 xs10
def f69.l9.w {R : Type} : ((List S104) × (List S104)) → (Exit → St env → Option R) → Option R := fun t13 K => K (.exit 0) ⟨fullT [0, 7] 0 42 [.v (.c (.imm 104 t13.1)), .v (.c (.row 194))], [(194, .row true 104 t13.2)], 546⟩
def f69.l9.st (xs5 : List S104) (a6 : Int) (xs7 : List S104) (a8 : Int) (a9 : Int) (xs10 : List S104) : St env := ⟨fullT [0, 1, 7, 20, 21, 22] 0 42 [.v (.c (.imm 104 xs5)), .v (.c (.s (.int .i64 a6))), .v (.c (.row 194)), .v (.c (.imm 104 xs7)), .v (.c (.s (.int .i64 a8))), .v (.c (.s (.int .i64 a9)))], [(194, .row true 104 xs10)], 274⟩
def f69.l9.hd (k : Nat) (ts_ : List (AV env)) (mm_ : Mem env) (n_ : Nat) : LCl env :=
  gTs LCl.no [0, 1, 7, 20, 21, 22] 42 ts_ fun l_ => gV LCl.no l_ fun a_ l_ => rImm LCl.no 104 a_ fun xs5 => gV LCl.no l_ fun a_ l_ => rV LCl.no a_ fun v_ => vI LCl.no .i64 v_ fun a6 => gV LCl.no l_ fun a_ l_ => rRow LCl.no 194 a_ <| gV LCl.no l_ fun a_ l_ => rImm LCl.no 104 a_ fun xs7 => gV LCl.no l_ fun a_ l_ => rV LCl.no a_ fun v_ => vI LCl.no .i64 v_ fun a8 => gV LCl.no l_ fun a_ l_ => rV LCl.no a_ fun v_ => vI LCl.no .i64 v_ fun a9 => gE LCl.no l_ <| mRow LCl.no 194 true 104 mm_ fun xs10 m_ => gE LCl.no m_ <| gN LCl.no 274 n_ { α := (List S104) × (List S104), o := f69.l9 k k xs5 a6 xs7 a8 a9 xs10, w := f69.l9.w }
def f69.step {R : Type} (k : Nat) (ret : ((Int × Int) ⊕ ((List S104) × Int × Int)) → Option R) (xs1 : List S104) (a2 : Int) : Option R :=
  if (decide ((((List.length xs1) : Nat) : Int) > (4096 : Int))) = true then
    ret (.inl ((0 : Int), (2 : Int)))
  else
    (f135 k xs1).bind fun t3 => if (!t3) = true then
        ret (.inl ((0 : Int), (1 : Int)))
      else
        (f83 k a2 (0 : Int) (1000000 : Int)).bind fun t4 => if (!t4) = true then
            ret (.inl ((0 : Int), (4 : Int)))
          else
            (f69.l9 k k xs1 a2 xs1 (((List.length xs1) : Nat) : Int) (0 : Int) ([] : List S104)).bind fun t12 => ret (.inr (t12.2, (IntKind.i64.wrap ((((List.length t12.1) : Nat) : Int) - (((List.length t12.2) : Nat) : Int))), (0 : Int)))
def f69 (k : Nat) (xs1 : List S104) (a2 : Int) : Option ((Int × Int) ⊕ ((List S104) × Int × Int)) := f69.step k some xs1 a2
def f69.w {R : Type} : ((Int × Int) ⊕ ((List S104) × Int × Int)) → (Res env → Option R) → Option R := fun x K => Sum.elim (fun t14 => K ⟨.tup [.c (.s (.slice none 0 0)), .c (.s (.int .i64 t14.1)), .c (.s (.int .i64 t14.2))], [[], []]⟩) (fun t15 => K ⟨.tup [.c (.own true 104 t15.1), .c (.s (.int .i64 t15.2.1)), .c (.s (.int .i64 t15.2.2))], [[], []]⟩) x
theorem f69.wn (x : ((Int × Int) ⊕ ((List S104) × Int × Int))) : ∃ res, ∀ {R : Type} (K : Res env → Option R), f69.w x K = K res := by
  rcases x with x | x <;> exact ⟨_, fun _ => rfl⟩
def f69.hd (k : Nat) (ps_ : List (P2 env)) : Cl env :=
  gC Cl.no ps_ fun p_ ps_ => qC Cl.no p_ fun c_ => qSl Cl.no 104 c_ fun xs1 => gC Cl.no ps_ fun p_ ps_ => qC Cl.no p_ fun c_ => qS Cl.no c_ fun v_ => vI Cl.no .i64 v_ fun a2 => gE Cl.no ps_ <| { α := (Int × Int) ⊕ ((List S104) × Int × Int), o := f69 k xs1 a2, w := f69.w, nat := fun x _ => f69.wn x }
def f69.e (k : Nat) : Entry env := ⟨fun ps => f69.hd k (coer [[.rd 104], [.no]] ps), []⟩
def f69.X (k : Nat) : Ctx env := { C := lookE [(83, f83.e k), (135, f135.e k), (136, f136.e k)], L := lookE [(9, fun S => f69.l9.hd k S.ts S.m S.n)], J := lookE [], keep := lookD [(9, [0, 1, 7, 20, 21, 22])], keepX := lookD [(9, [0, 7])], span := lookN [(9, 272)], eff := fun n => memN n [], prep := lookP [], np := 0 }
theorem f69.l9.nat {R : Type} (k : Nat) (rec_ : (List S104) → Int → (List S104) → Int → Int → (List S104) → Option ((List S104) × (List S104))) (g : ((List S104) × (List S104)) → Option R) (xs5 : List S104) (a6 : Int) (xs7 : List S104) (a8 : Int) (a9 : Int) (xs10 : List S104) : (f69.l9.step k rec_ some xs5 a6 xs7 a8 a9 xs10).bind g = f69.l9.step k (fun xs5 a6 xs7 a8 a9 xs10 => (rec_ xs5 a6 xs7 a8 a9 xs10).bind g) g xs5 a6 xs7 a8 a9 xs10 := by
  simp only [f69.l9.step, bind_ite, bind_sum, Option.bind_assoc, Option.bind_some, Option.bind_none]
theorem f69.l9.good (k : Nat) (xs5 : List S104) (a6 : Int) (xs7 : List S104) (a8 : Int) (a9 : Int) (xs10 : List S104) : GoodL (f69.X k) (nthC 0 (loopsOf (bodyOf Try.f69))) (f69.l9.st xs5 a6 xs7 a8 a9 xs10) { α := ((List S104) × (List S104)), o := f69.l9 k k xs5 a6 xs7 a8 a9 xs10, w := f69.l9.w } :=
  loop_good (ι := (List S104) × Int × (List S104) × Int × Int × (List S104)) (α := ((List S104) × (List S104))) (fun i => f69.l9.st i.1 i.2.1 i.2.2.1 i.2.2.2.1 i.2.2.2.2.1 i.2.2.2.2.2) (fun j i => f69.l9 k j i.1 i.2.1 i.2.2.1 i.2.2.2.1 i.2.2.2.2.1 i.2.2.2.2.2) f69.l9.w (fun rec_ ret i => f69.l9.step k (fun xs5 a6 xs7 a8 a9 xs10 => rec_ (xs5, a6, xs7, a8, a9, xs10)) ret i.1 i.2.1 i.2.2.1 i.2.2.2.1 i.2.2.2.2.1 i.2.2.2.2.2)
    (fun _ => rfl) (fun _ _ => rfl) (fun rec_ g i => f69.l9.nat k _ g i.1 i.2.1 i.2.2.1 i.2.2.2.1 i.2.2.2.2.1 i.2.2.2.2.2) (fun {R} i0 i rec_ K => by kernel_rfl) k (xs5, a6, xs7, a8, a9, xs10)
theorem f69.l9.all (k : Nat) (S : St env) : GoodL (f69.X k) (nthC 0 (loopsOf (bodyOf Try.f69))) S (f69.l9.hd k S.ts S.m S.n) := by
  obtain ⟨ts_, m_, n_⟩ := S
  show GoodL _ _ _ (f69.l9.hd k ts_ m_ n_)
  unfold f69.l9.hd
  refine gTs_ok (p := GoodL _ _ _) goodL_no fun _ h => ?_
  subst h
  refine gV_ok (p := GoodL _ _ _) goodL_no fun _ _ h => ?_
  subst h
  refine rImm_ok (p := GoodL _ _ _) goodL_no fun _ h => ?_
  subst h
  refine gV_ok (p := GoodL _ _ _) goodL_no fun _ _ h => ?_
  subst h
  refine rV_ok (p := GoodL _ _ _) goodL_no fun _ h => ?_
  subst h
  refine vI_ok (p := GoodL _ _ _) goodL_no fun _ h => ?_
  subst h
  refine gV_ok (p := GoodL _ _ _) goodL_no fun _ _ h => ?_
  subst h
  refine rRow_ok (p := GoodL _ _ _) goodL_no fun h => ?_
  subst h
  refine gV_ok (p := GoodL _ _ _) goodL_no fun _ _ h => ?_
  subst h
  refine rImm_ok (p := GoodL _ _ _) goodL_no fun _ h => ?_
  subst h
  refine gV_ok (p := GoodL _ _ _) goodL_no fun _ _ h => ?_
  subst h
  refine rV_ok (p := GoodL _ _ _) goodL_no fun _ h => ?_
  subst h
  refine vI_ok (p := GoodL _ _ _) goodL_no fun _ h => ?_
  subst h
  refine gV_ok (p := GoodL _ _ _) goodL_no fun _ _ h => ?_
  subst h
  refine rV_ok (p := GoodL _ _ _) goodL_no fun _ h => ?_
  subst h
  refine vI_ok (p := GoodL _ _ _) goodL_no fun _ h => ?_
  subst h
  refine gE_ok (p := GoodL _ _ _) goodL_no fun h => ?_
  subst h
  refine mRow_ok (p := GoodL _ _ _) goodL_no fun _ _ h => ?_
  subst h
  refine gE_ok (p := GoodL _ _ _) goodL_no fun h => ?_
  subst h
  refine gN_ok (p := GoodL _ _ _) goodL_no fun h => ?_
  subst h
  exact f69.l9.good k _ _ _ _ _ _
theorem f69.nat {R : Type} (k : Nat) (g : ((Int × Int) ⊕ ((List S104) × Int × Int)) → Option R) (xs1 : List S104) (a2 : Int) : f69.step k g xs1 a2 = (f69 k xs1 a2).bind g := by
  simp only [f69, f69.step, bind_ite, bind_sum, Option.bind_assoc, Option.bind_some, Option.bind_none]
theorem f69.ev (k : Nat) (xs1 : List S104) (a2 : Int) : evF (f69.X k) (bodyOf Try.f69) Try.f69.ntmps Try.f69.results.toList [.v (.c (.sl 104 xs1)), .v (.c (.s (.int .i64 a2)))] = f69.step k (fun x => f69.w x some) xs1 a2 := by kernel_rfl
theorem f69.hok (k : Nat) : HOK (f69.X k) (bodyOf Try.f69) where
  l := allP_mem (by exact ⟨ls_of (h0 := fun S => f69.l9.hd k S.ts S.m S.n) (by kernel_rfl) (f69.l9.all k), trivial⟩)
  j := allP_mem (by exact trivial)
theorem f69.sound0 (k : Nat) : SoundC env Try.prog 69 (f69.hd k) := by
  intro ps_
  show GoodC _ _ _ ps_ (f69.hd k ps_)
  unfold f69.hd
  refine gC_ok (p := GoodC env Try.prog 69 _) goodC_no fun _ _ h => ?_
  subst h
  refine qC_ok (p := GoodC env Try.prog 69 _) goodC_no fun _ h => ?_
  subst h
  refine qSl_ok (p := GoodC env Try.prog 69 _) goodC_no fun _ h => ?_
  subst h
  refine gC_ok (p := GoodC env Try.prog 69 _) goodC_no fun _ _ h => ?_
  subst h
  refine qC_ok (p := GoodC env Try.prog 69 _) goodC_no fun _ h => ?_
  subst h
  refine qS_ok (p := GoodC env Try.prog 69 _) goodC_no fun _ h => ?_
  subst h
  refine vI_ok (p := GoodC env Try.prog 69 _) goodC_no fun _ h => ?_
  subst h
  refine gE_ok (p := GoodC env Try.prog 69 _) goodC_no fun h => ?_
  subst h
  exact fun_good (fun_sound envOK (cs_sound _ (by exact ⟨⟨f83.sound k, f83.fnok⟩, ⟨f135.sound k, f135.fnok⟩, ⟨f136.sound k, f136.fnok⟩, trivial⟩)) (f69.hok k) Try.func69 rfl) ((f69.ev k _ _).trans (f69.nat k _ _ _))
theorem f69.sound (k : Nat) : SoundC env Try.prog 69 (f69.e k).F := soundC_coer (f69.sound0 k) [[.rd 104], [.no]]
theorem f69.fnok : FnOK Try.prog 69 := fn_ok Try.func69 (by kernel_rfl) rfl
def f33.l4.step {R : Type} (k : Nat) (rec_ : (List Int) → (List Int) → Int → Option R) (ret : (Bool ⊕ (Unit)) → Option R) (xs3 : List Int) (xs4 : List Int) (a5 : Int) : Option R :=
  if (decide (a5 < (((List.length xs3) : Nat) : Int))) = true then
    if (0 : Int) ≤ a5 then
      if a5 < ((List.length xs3 : Nat) : Int) then
        if (0 : Int) ≤ a5 then
          if a5 < ((List.length xs4 : Nat) : Int) then
            if (decide ((List.getD xs3 (Int.toNat a5) (0 : Int)) ≠ (List.getD xs4 (Int.toNat a5) (0 : Int)))) = true then
              ret (.inl false)
            else
              rec_ xs3 xs4 (IntKind.i64.wrap (a5 + (1 : Int)))
          else none
        else none
      else none
    else none
  else
    ret (.inr ())
def f33.l4 (k : Nat) : Nat → (List Int) → (List Int) → Int → Option (Bool ⊕ (Unit))
  | 0, _, _, _ => none
  | j + 1, xs3, xs4, a5 => f33.l4.step k (fun xs3 xs4 a5 => f33.l4 k j xs3 xs4 a5) some xs3 xs4 a5
def f33.l4.w {R : Type} : (Bool ⊕ (Unit)) → (Exit → St env → Option R) → Option R := fun x K => Sum.elim (fun t8 => K .ret ⟨fullT [4] 0 26 [.v (.c (.s (.bool t8)))], [], 386⟩) (fun t9 => K (.exit 0) ⟨fullT [] 0 26 [], [], 386⟩) x
def f33.l4.st (xs3 : List Int) (xs4 : List Int) (a5 : Int) : St env := ⟨fullT [0, 1, 5] 0 26 [.v (.c (.imm 5 xs3)), .v (.c (.imm 5 xs4)), .v (.c (.s (.int .i64 a5)))], [], 114⟩
def f33.l4.hd (k : Nat) (ts_ : List (AV env)) (mm_ : Mem env) (n_ : Nat) : LCl env :=
  gTs LCl.no [0, 1, 5] 26 ts_ fun l_ => gV LCl.no l_ fun a_ l_ => rImm LCl.no 5 a_ fun xs3 => gV LCl.no l_ fun a_ l_ => rImm LCl.no 5 a_ fun xs4 => gV LCl.no l_ fun a_ l_ => rV LCl.no a_ fun v_ => vI LCl.no .i64 v_ fun a5 => gE LCl.no l_ <| gE LCl.no mm_ <| gN LCl.no 114 n_ { α := Bool ⊕ (Unit), o := f33.l4 k k xs3 xs4 a5, w := f33.l4.w }
def f33.step {R : Type} (k : Nat) (ret : Bool → Option R) (xs1 : List Int) (xs2 : List Int) : Option R :=
  if (decide ((((List.length xs1) : Nat) : Int) ≠ (((List.length xs2) : Nat) : Int))) = true then
    ret false
  else
    (f33.l4 k k xs1 xs2 (0 : Int)).bind (Sum.elim (fun t6 => ret t6) (fun t7 => ret true))
def f33 (k : Nat) (xs1 : List Int) (xs2 : List Int) : Option Bool := f33.step k some xs1 xs2
def f33.w {R : Type} : Bool → (Res env → Option R) → Option R := fun t10 K => K ⟨.v (.c (.s (.bool t10))), [[], []]⟩
theorem f33.wn (x : Bool) : ∃ res, ∀ {R : Type} (K : Res env → Option R), f33.w x K = K res := by
  exact ⟨_, fun _ => rfl⟩
def f33.hd (k : Nat) (ps_ : List (P2 env)) : Cl env :=
  gC Cl.no ps_ fun p_ ps_ => qC Cl.no p_ fun c_ => qSl Cl.no 5 c_ fun xs1 => gC Cl.no ps_ fun p_ ps_ => qC Cl.no p_ fun c_ => qSl Cl.no 5 c_ fun xs2 => gE Cl.no ps_ <| { α := Bool, o := f33 k xs1 xs2, w := f33.w, nat := fun x _ => f33.wn x }
def f33.e (k : Nat) : Entry env := ⟨fun ps => f33.hd k (coer [[.rd 5], [.rd 5]] ps), []⟩
def f33.X (k : Nat) : Ctx env := { C := lookE [], L := lookE [(4, fun S => f33.l4.hd k S.ts S.m S.n)], J := lookE [], keep := lookD [(4, [0, 1, 5])], keepX := lookD [(4, [4])], span := lookN [(4, 272)], eff := fun n => memN n [], prep := lookP [], np := 0 }
theorem f33.l4.nat {R : Type} (k : Nat) (rec_ : (List Int) → (List Int) → Int → Option (Bool ⊕ (Unit))) (g : (Bool ⊕ (Unit)) → Option R) (xs3 : List Int) (xs4 : List Int) (a5 : Int) : (f33.l4.step k rec_ some xs3 xs4 a5).bind g = f33.l4.step k (fun xs3 xs4 a5 => (rec_ xs3 xs4 a5).bind g) g xs3 xs4 a5 := by
  simp only [f33.l4.step, bind_ite, bind_sum, Option.bind_assoc, Option.bind_some, Option.bind_none]
theorem f33.l4.good (k : Nat) (xs3 : List Int) (xs4 : List Int) (a5 : Int) : GoodL (f33.X k) (nthC 0 (loopsOf (bodyOf Try.f33))) (f33.l4.st xs3 xs4 a5) { α := (Bool ⊕ (Unit)), o := f33.l4 k k xs3 xs4 a5, w := f33.l4.w } :=
  loop_good (ι := (List Int) × (List Int) × Int) (α := (Bool ⊕ (Unit))) (fun i => f33.l4.st i.1 i.2.1 i.2.2) (fun j i => f33.l4 k j i.1 i.2.1 i.2.2) f33.l4.w (fun rec_ ret i => f33.l4.step k (fun xs3 xs4 a5 => rec_ (xs3, xs4, a5)) ret i.1 i.2.1 i.2.2)
    (fun _ => rfl) (fun _ _ => rfl) (fun rec_ g i => f33.l4.nat k _ g i.1 i.2.1 i.2.2) (fun {R} i0 i rec_ K => by kernel_rfl) k (xs3, xs4, a5)
theorem f33.l4.all (k : Nat) (S : St env) : GoodL (f33.X k) (nthC 0 (loopsOf (bodyOf Try.f33))) S (f33.l4.hd k S.ts S.m S.n) := by
  obtain ⟨ts_, m_, n_⟩ := S
  show GoodL _ _ _ (f33.l4.hd k ts_ m_ n_)
  unfold f33.l4.hd
  refine gTs_ok (p := GoodL _ _ _) goodL_no fun _ h => ?_
  subst h
  refine gV_ok (p := GoodL _ _ _) goodL_no fun _ _ h => ?_
  subst h
  refine rImm_ok (p := GoodL _ _ _) goodL_no fun _ h => ?_
  subst h
  refine gV_ok (p := GoodL _ _ _) goodL_no fun _ _ h => ?_
  subst h
  refine rImm_ok (p := GoodL _ _ _) goodL_no fun _ h => ?_
  subst h
  refine gV_ok (p := GoodL _ _ _) goodL_no fun _ _ h => ?_
  subst h
  refine rV_ok (p := GoodL _ _ _) goodL_no fun _ h => ?_
  subst h
  refine vI_ok (p := GoodL _ _ _) goodL_no fun _ h => ?_
  subst h
  refine gE_ok (p := GoodL _ _ _) goodL_no fun h => ?_
  subst h
  refine gE_ok (p := GoodL _ _ _) goodL_no fun h => ?_
  subst h
  refine gN_ok (p := GoodL _ _ _) goodL_no fun h => ?_
  subst h
  exact f33.l4.good k _ _ _
theorem f33.nat {R : Type} (k : Nat) (g : Bool → Option R) (xs1 : List Int) (xs2 : List Int) : f33.step k g xs1 xs2 = (f33 k xs1 xs2).bind g := by
  simp only [f33, f33.step, bind_ite, bind_sum, Option.bind_assoc, Option.bind_some, Option.bind_none]
theorem f33.ev (k : Nat) (xs1 : List Int) (xs2 : List Int) : evF (f33.X k) (bodyOf Try.f33) Try.f33.ntmps Try.f33.results.toList [.v (.c (.sl 5 xs1)), .v (.c (.sl 5 xs2))] = f33.step k (fun x => f33.w x some) xs1 xs2 := by kernel_rfl
theorem f33.hok (k : Nat) : HOK (f33.X k) (bodyOf Try.f33) where
  l := allP_mem (by exact ⟨ls_of (h0 := fun S => f33.l4.hd k S.ts S.m S.n) (by kernel_rfl) (f33.l4.all k), trivial⟩)
  j := allP_mem (by exact trivial)
theorem f33.sound0 (k : Nat) : SoundC env Try.prog 33 (f33.hd k) := by
  intro ps_
  show GoodC _ _ _ ps_ (f33.hd k ps_)
  unfold f33.hd
  refine gC_ok (p := GoodC env Try.prog 33 _) goodC_no fun _ _ h => ?_
  subst h
  refine qC_ok (p := GoodC env Try.prog 33 _) goodC_no fun _ h => ?_
  subst h
  refine qSl_ok (p := GoodC env Try.prog 33 _) goodC_no fun _ h => ?_
  subst h
  refine gC_ok (p := GoodC env Try.prog 33 _) goodC_no fun _ _ h => ?_
  subst h
  refine qC_ok (p := GoodC env Try.prog 33 _) goodC_no fun _ h => ?_
  subst h
  refine qSl_ok (p := GoodC env Try.prog 33 _) goodC_no fun _ h => ?_
  subst h
  refine gE_ok (p := GoodC env Try.prog 33 _) goodC_no fun h => ?_
  subst h
  exact fun_good (fun_sound envOK (cs_sound _ (by exact trivial)) (f33.hok k) Try.func33 rfl) ((f33.ev k _ _).trans (f33.nat k _ _ _))
theorem f33.sound (k : Nat) : SoundC env Try.prog 33 (f33.e k).F := soundC_coer (f33.sound0 k) [[.rd 5], [.rd 5]]
theorem f33.says (k : Nat) (xs1 : List Int) (xs2 : List Int) (t11 : Bool) (h_ : f33 k xs1 xs2 = some t11) : SoundAt env Try.prog 33 [.v (.c (.sl 5 xs1)), .v (.c (.sl 5 xs2))] ⟨.v (.c (.s (.bool t11))), [[], []]⟩ :=
  fun_sound envOK (cs_sound _ (by exact trivial)) (f33.hok k) Try.func33 rfl _ _ (((f33.ev k xs1 xs2).trans (f33.nat k _ xs1 xs2)).trans (by rw [h_]; rfl))
theorem f33.fnok : FnOK Try.prog 33 := fn_ok Try.func33 (by kernel_rfl) rfl
def f201.step {R : Type} (k : Nat) (ret : Bool → Option R) (a1 : Int) (b2 : Bool) (xs3 : List Int) (a4 : Int) (b5 : Bool) (xs6 : List Int) : Option R :=
  if (decide (a1 ≠ a4)) = true then
    ret false
  else
    if (!(b2 == b5)) = true then
      ret false
    else
      (f33 k xs3 xs6).bind fun t7 => if (!t7) = true then
          ret false
        else
          ret true
def f201 (k : Nat) (a1 : Int) (b2 : Bool) (xs3 : List Int) (a4 : Int) (b5 : Bool) (xs6 : List Int) : Option Bool := f201.step k some a1 b2 xs3 a4 b5 xs6
def f201.w {R : Type} : Bool → (Res env → Option R) → Option R := fun t8 K => K ⟨.v (.c (.s (.bool t8))), [[], []]⟩
theorem f201.wn (x : Bool) : ∃ res, ∀ {R : Type} (K : Res env → Option R), f201.w x K = K res := by
  exact ⟨_, fun _ => rfl⟩
def f201.hd (k : Nat) (ps_ : List (P2 env)) : Cl env :=
  gC Cl.no ps_ fun p_ ps_ => qG Cl.no p_ fun cs_ => gC Cl.no cs_ fun c_ cs_ => qS Cl.no c_ fun v_ => vI Cl.no .i64 v_ fun a1 => gC Cl.no cs_ fun c_ cs_ => qS Cl.no c_ fun v_ => vB Cl.no v_ fun b2 => gC Cl.no cs_ fun c_ cs_ => qSl Cl.no 5 c_ fun xs3 => gE Cl.no cs_ <| gC Cl.no ps_ fun p_ ps_ => qG Cl.no p_ fun cs_ => gC Cl.no cs_ fun c_ cs_ => qS Cl.no c_ fun v_ => vI Cl.no .i64 v_ fun a4 => gC Cl.no cs_ fun c_ cs_ => qS Cl.no c_ fun v_ => vB Cl.no v_ fun b5 => gC Cl.no cs_ fun c_ cs_ => qSl Cl.no 5 c_ fun xs6 => gE Cl.no cs_ <| gE Cl.no ps_ <| { α := Bool, o := f201 k a1 b2 xs3 a4 b5 xs6, w := f201.w, nat := fun x _ => f201.wn x }
def f201.e (k : Nat) : Entry env := ⟨fun ps => f201.hd k (coer [[.no, .no, .rd 5], [.no, .no, .rd 5]] ps), []⟩
def f201.X (k : Nat) : Ctx env := { C := lookE [(33, f33.e k)], L := lookE [], J := lookE [], keep := lookD [], keepX := lookD [], span := lookN [], eff := fun n => memN n [], prep := lookP [], np := 0 }
theorem f201.nat {R : Type} (k : Nat) (g : Bool → Option R) (a1 : Int) (b2 : Bool) (xs3 : List Int) (a4 : Int) (b5 : Bool) (xs6 : List Int) : f201.step k g a1 b2 xs3 a4 b5 xs6 = (f201 k a1 b2 xs3 a4 b5 xs6).bind g := by
  simp only [f201, f201.step, bind_ite, bind_sum, Option.bind_assoc, Option.bind_some, Option.bind_none]
theorem f201.ev (k : Nat) (a1 : Int) (b2 : Bool) (xs3 : List Int) (a4 : Int) (b5 : Bool) (xs6 : List Int) : evF (f201.X k) (bodyOf Try.f201) Try.f201.ntmps Try.f201.results.toList [.g [.s (.int .i64 a1), .s (.bool b2), .sl 5 xs3], .g [.s (.int .i64 a4), .s (.bool b5), .sl 5 xs6]] = f201.step k (fun x => f201.w x some) a1 b2 xs3 a4 b5 xs6 := by kernel_rfl
theorem f201.hok (k : Nat) : HOK (f201.X k) (bodyOf Try.f201) where
  l := allP_mem (by exact trivial)
  j := allP_mem (by exact trivial)
theorem f201.sound0 (k : Nat) : SoundC env Try.prog 201 (f201.hd k) := by
  intro ps_
  show GoodC _ _ _ ps_ (f201.hd k ps_)
  unfold f201.hd
  refine gC_ok (p := GoodC env Try.prog 201 _) goodC_no fun _ _ h => ?_
  subst h
  refine qG_ok (p := GoodC env Try.prog 201 _) goodC_no fun _ h => ?_
  subst h
  refine gC_ok (p := GoodC env Try.prog 201 _) goodC_no fun _ _ h => ?_
  subst h
  refine qS_ok (p := GoodC env Try.prog 201 _) goodC_no fun _ h => ?_
  subst h
  refine vI_ok (p := GoodC env Try.prog 201 _) goodC_no fun _ h => ?_
  subst h
  refine gC_ok (p := GoodC env Try.prog 201 _) goodC_no fun _ _ h => ?_
  subst h
  refine qS_ok (p := GoodC env Try.prog 201 _) goodC_no fun _ h => ?_
  subst h
  refine vB_ok (p := GoodC env Try.prog 201 _) goodC_no fun _ h => ?_
  subst h
  refine gC_ok (p := GoodC env Try.prog 201 _) goodC_no fun _ _ h => ?_
  subst h
  refine qSl_ok (p := GoodC env Try.prog 201 _) goodC_no fun _ h => ?_
  subst h
  refine gE_ok (p := GoodC env Try.prog 201 _) goodC_no fun h => ?_
  subst h
  refine gC_ok (p := GoodC env Try.prog 201 _) goodC_no fun _ _ h => ?_
  subst h
  refine qG_ok (p := GoodC env Try.prog 201 _) goodC_no fun _ h => ?_
  subst h
  refine gC_ok (p := GoodC env Try.prog 201 _) goodC_no fun _ _ h => ?_
  subst h
  refine qS_ok (p := GoodC env Try.prog 201 _) goodC_no fun _ h => ?_
  subst h
  refine vI_ok (p := GoodC env Try.prog 201 _) goodC_no fun _ h => ?_
  subst h
  refine gC_ok (p := GoodC env Try.prog 201 _) goodC_no fun _ _ h => ?_
  subst h
  refine qS_ok (p := GoodC env Try.prog 201 _) goodC_no fun _ h => ?_
  subst h
  refine vB_ok (p := GoodC env Try.prog 201 _) goodC_no fun _ h => ?_
  subst h
  refine gC_ok (p := GoodC env Try.prog 201 _) goodC_no fun _ _ h => ?_
  subst h
  refine qSl_ok (p := GoodC env Try.prog 201 _) goodC_no fun _ h => ?_
  subst h
  refine gE_ok (p := GoodC env Try.prog 201 _) goodC_no fun h => ?_
  subst h
  refine gE_ok (p := GoodC env Try.prog 201 _) goodC_no fun h => ?_
  subst h
  exact fun_good (fun_sound envOK (cs_sound _ (by exact ⟨⟨f33.sound k, f33.fnok⟩, trivial⟩)) (f201.hok k) Try.func201 rfl) ((f201.ev k _ _ _ _ _ _).trans (f201.nat k _ _ _ _ _ _ _))
theorem f201.sound (k : Nat) : SoundC env Try.prog 201 (f201.e k).F := soundC_coer (f201.sound0 k) [[.no, .no, .rd 5], [.no, .no, .rd 5]]
theorem f201.says (k : Nat) (a1 : Int) (b2 : Bool) (xs3 : List Int) (a4 : Int) (b5 : Bool) (xs6 : List Int) (t9 : Bool) (h_ : f201 k a1 b2 xs3 a4 b5 xs6 = some t9) : SoundAt env Try.prog 201 [.g [.s (.int .i64 a1), .s (.bool b2), .sl 5 xs3], .g [.s (.int .i64 a4), .s (.bool b5), .sl 5 xs6]] ⟨.v (.c (.s (.bool t9))), [[], []]⟩ :=
  fun_sound envOK (cs_sound _ (by exact ⟨⟨f33.sound k, f33.fnok⟩, trivial⟩)) (f201.hok k) Try.func201 rfl _ _ (((f201.ev k a1 b2 xs3 a4 b5 xs6).trans (f201.nat k _ a1 b2 xs3 a4 b5 xs6)).trans (by rw [h_]; rfl))
theorem f201.fnok : FnOK Try.prog 201 := fn_ok Try.func201 (by kernel_rfl) rfl
def f181.l4.step {R : Type} (k : Nat) (rec_ : (List S211) → (List S211) → Int → Option R) (ret : (Bool ⊕ (Unit)) → Option R) (xs3 : List S211) (xs4 : List S211) (a5 : Int) : Option R :=
  if (decide (a5 < (((List.length xs3) : Nat) : Int))) = true then
    if (0 : Int) ≤ a5 then
      if a5 < ((List.length xs3 : Nat) : Int) then
        if (0 : Int) ≤ a5 then
          if a5 < ((List.length xs4 : Nat) : Int) then
            (f201 k (List.getD xs3 (Int.toNat a5) (⟨(0 : Int), false, []⟩ : S211)).f0 (List.getD xs3 (Int.toNat a5) (⟨(0 : Int), false, []⟩ : S211)).f1 (List.getD xs3 (Int.toNat a5) (⟨(0 : Int), false, []⟩ : S211)).f2 (List.getD xs4 (Int.toNat a5) (⟨(0 : Int), false, []⟩ : S211)).f0 (List.getD xs4 (Int.toNat a5) (⟨(0 : Int), false, []⟩ : S211)).f1 (List.getD xs4 (Int.toNat a5) (⟨(0 : Int), false, []⟩ : S211)).f2).bind fun t6 => if (!t6) = true then
                ret (.inl false)
              else
                rec_ xs3 xs4 (IntKind.i64.wrap (a5 + (1 : Int)))
          else none
        else none
      else none
    else none
  else
    ret (.inr ())
def f181.l4 (k : Nat) : Nat → (List S211) → (List S211) → Int → Option (Bool ⊕ (Unit))
  | 0, _, _, _ => none
  | j + 1, xs3, xs4, a5 => f181.l4.step k (fun xs3 xs4 a5 => f181.l4 k j xs3 xs4 a5) some xs3 xs4 a5
def f181.l4.w {R : Type} : (Bool ⊕ (Unit)) → (Exit → St env → Option R) → Option R := fun x K => Sum.elim (fun t9 => K .ret ⟨fullT [4] 0 27 [.v (.c (.s (.bool t9)))], [], 402⟩) (fun t10 => K (.exit 0) ⟨fullT [] 0 27 [], [], 402⟩) x
def f181.l4.st (xs3 : List S211) (xs4 : List S211) (a5 : Int) : St env := ⟨fullT [0, 1, 5] 0 27 [.v (.c (.imm 211 xs3)), .v (.c (.imm 211 xs4)), .v (.c (.s (.int .i64 a5)))], [], 114⟩
def f181.l4.hd (k : Nat) (ts_ : List (AV env)) (mm_ : Mem env) (n_ : Nat) : LCl env :=
  gTs LCl.no [0, 1, 5] 27 ts_ fun l_ => gV LCl.no l_ fun a_ l_ => rImm LCl.no 211 a_ fun xs3 => gV LCl.no l_ fun a_ l_ => rImm LCl.no 211 a_ fun xs4 => gV LCl.no l_ fun a_ l_ => rV LCl.no a_ fun v_ => vI LCl.no .i64 v_ fun a5 => gE LCl.no l_ <| gE LCl.no mm_ <| gN LCl.no 114 n_ { α := Bool ⊕ (Unit), o := f181.l4 k k xs3 xs4 a5, w := f181.l4.w }
def f181.step {R : Type} (k : Nat) (ret : Bool → Option R) (xs1 : List S211) (xs2 : List S211) : Option R :=
  if (decide ((((List.length xs1) : Nat) : Int) ≠ (((List.length xs2) : Nat) : Int))) = true then
    ret false
  else
    (f181.l4 k k xs1 xs2 (0 : Int)).bind (Sum.elim (fun t7 => ret t7) (fun t8 => ret true))
def f181 (k : Nat) (xs1 : List S211) (xs2 : List S211) : Option Bool := f181.step k some xs1 xs2
def f181.w {R : Type} : Bool → (Res env → Option R) → Option R := fun t11 K => K ⟨.v (.c (.s (.bool t11))), [[], []]⟩
theorem f181.wn (x : Bool) : ∃ res, ∀ {R : Type} (K : Res env → Option R), f181.w x K = K res := by
  exact ⟨_, fun _ => rfl⟩
def f181.hd (k : Nat) (ps_ : List (P2 env)) : Cl env :=
  gC Cl.no ps_ fun p_ ps_ => qC Cl.no p_ fun c_ => qSl Cl.no 211 c_ fun xs1 => gC Cl.no ps_ fun p_ ps_ => qC Cl.no p_ fun c_ => qSl Cl.no 211 c_ fun xs2 => gE Cl.no ps_ <| { α := Bool, o := f181 k xs1 xs2, w := f181.w, nat := fun x _ => f181.wn x }
def f181.e (k : Nat) : Entry env := ⟨fun ps => f181.hd k (coer [[.rd 211], [.rd 211]] ps), []⟩
def f181.X (k : Nat) : Ctx env := { C := lookE [(201, f201.e k)], L := lookE [(4, fun S => f181.l4.hd k S.ts S.m S.n)], J := lookE [], keep := lookD [(4, [0, 1, 5])], keepX := lookD [(4, [4])], span := lookN [(4, 288)], eff := fun n => memN n [], prep := lookP [], np := 0 }
theorem f181.l4.nat {R : Type} (k : Nat) (rec_ : (List S211) → (List S211) → Int → Option (Bool ⊕ (Unit))) (g : (Bool ⊕ (Unit)) → Option R) (xs3 : List S211) (xs4 : List S211) (a5 : Int) : (f181.l4.step k rec_ some xs3 xs4 a5).bind g = f181.l4.step k (fun xs3 xs4 a5 => (rec_ xs3 xs4 a5).bind g) g xs3 xs4 a5 := by
  simp only [f181.l4.step, bind_ite, bind_sum, Option.bind_assoc, Option.bind_some, Option.bind_none]
theorem f181.l4.good (k : Nat) (xs3 : List S211) (xs4 : List S211) (a5 : Int) : GoodL (f181.X k) (nthC 0 (loopsOf (bodyOf Try.f181))) (f181.l4.st xs3 xs4 a5) { α := (Bool ⊕ (Unit)), o := f181.l4 k k xs3 xs4 a5, w := f181.l4.w } :=
  loop_good (ι := (List S211) × (List S211) × Int) (α := (Bool ⊕ (Unit))) (fun i => f181.l4.st i.1 i.2.1 i.2.2) (fun j i => f181.l4 k j i.1 i.2.1 i.2.2) f181.l4.w (fun rec_ ret i => f181.l4.step k (fun xs3 xs4 a5 => rec_ (xs3, xs4, a5)) ret i.1 i.2.1 i.2.2)
    (fun _ => rfl) (fun _ _ => rfl) (fun rec_ g i => f181.l4.nat k _ g i.1 i.2.1 i.2.2) (fun {R} i0 i rec_ K => by kernel_rfl) k (xs3, xs4, a5)
theorem f181.l4.all (k : Nat) (S : St env) : GoodL (f181.X k) (nthC 0 (loopsOf (bodyOf Try.f181))) S (f181.l4.hd k S.ts S.m S.n) := by
  obtain ⟨ts_, m_, n_⟩ := S
  show GoodL _ _ _ (f181.l4.hd k ts_ m_ n_)
  unfold f181.l4.hd
  refine gTs_ok (p := GoodL _ _ _) goodL_no fun _ h => ?_
  subst h
  refine gV_ok (p := GoodL _ _ _) goodL_no fun _ _ h => ?_
  subst h
  refine rImm_ok (p := GoodL _ _ _) goodL_no fun _ h => ?_
  subst h
  refine gV_ok (p := GoodL _ _ _) goodL_no fun _ _ h => ?_
  subst h
  refine rImm_ok (p := GoodL _ _ _) goodL_no fun _ h => ?_
  subst h
  refine gV_ok (p := GoodL _ _ _) goodL_no fun _ _ h => ?_
  subst h
  refine rV_ok (p := GoodL _ _ _) goodL_no fun _ h => ?_
  subst h
  refine vI_ok (p := GoodL _ _ _) goodL_no fun _ h => ?_
  subst h
  refine gE_ok (p := GoodL _ _ _) goodL_no fun h => ?_
  subst h
  refine gE_ok (p := GoodL _ _ _) goodL_no fun h => ?_
  subst h
  refine gN_ok (p := GoodL _ _ _) goodL_no fun h => ?_
  subst h
  exact f181.l4.good k _ _ _
theorem f181.nat {R : Type} (k : Nat) (g : Bool → Option R) (xs1 : List S211) (xs2 : List S211) : f181.step k g xs1 xs2 = (f181 k xs1 xs2).bind g := by
  simp only [f181, f181.step, bind_ite, bind_sum, Option.bind_assoc, Option.bind_some, Option.bind_none]
theorem f181.ev (k : Nat) (xs1 : List S211) (xs2 : List S211) : evF (f181.X k) (bodyOf Try.f181) Try.f181.ntmps Try.f181.results.toList [.v (.c (.sl 211 xs1)), .v (.c (.sl 211 xs2))] = f181.step k (fun x => f181.w x some) xs1 xs2 := by kernel_rfl
theorem f181.hok (k : Nat) : HOK (f181.X k) (bodyOf Try.f181) where
  l := allP_mem (by exact ⟨ls_of (h0 := fun S => f181.l4.hd k S.ts S.m S.n) (by kernel_rfl) (f181.l4.all k), trivial⟩)
  j := allP_mem (by exact trivial)
theorem f181.sound0 (k : Nat) : SoundC env Try.prog 181 (f181.hd k) := by
  intro ps_
  show GoodC _ _ _ ps_ (f181.hd k ps_)
  unfold f181.hd
  refine gC_ok (p := GoodC env Try.prog 181 _) goodC_no fun _ _ h => ?_
  subst h
  refine qC_ok (p := GoodC env Try.prog 181 _) goodC_no fun _ h => ?_
  subst h
  refine qSl_ok (p := GoodC env Try.prog 181 _) goodC_no fun _ h => ?_
  subst h
  refine gC_ok (p := GoodC env Try.prog 181 _) goodC_no fun _ _ h => ?_
  subst h
  refine qC_ok (p := GoodC env Try.prog 181 _) goodC_no fun _ h => ?_
  subst h
  refine qSl_ok (p := GoodC env Try.prog 181 _) goodC_no fun _ h => ?_
  subst h
  refine gE_ok (p := GoodC env Try.prog 181 _) goodC_no fun h => ?_
  subst h
  exact fun_good (fun_sound envOK (cs_sound _ (by exact ⟨⟨f201.sound k, f201.fnok⟩, trivial⟩)) (f181.hok k) Try.func181 rfl) ((f181.ev k _ _).trans (f181.nat k _ _ _))
theorem f181.sound (k : Nat) : SoundC env Try.prog 181 (f181.e k).F := soundC_coer (f181.sound0 k) [[.rd 211], [.rd 211]]
theorem f181.says (k : Nat) (xs1 : List S211) (xs2 : List S211) (t12 : Bool) (h_ : f181 k xs1 xs2 = some t12) : SoundAt env Try.prog 181 [.v (.c (.sl 211 xs1)), .v (.c (.sl 211 xs2))] ⟨.v (.c (.s (.bool t12))), [[], []]⟩ :=
  fun_sound envOK (cs_sound _ (by exact ⟨⟨f201.sound k, f201.fnok⟩, trivial⟩)) (f181.hok k) Try.func181 rfl _ _ (((f181.ev k xs1 xs2).trans (f181.nat k _ xs1 xs2)).trans (by rw [h_]; rfl))
theorem f181.fnok : FnOK Try.prog 181 := fn_ok Try.func181 (by kernel_rfl) rfl
def f141.step {R : Type} (k : Nat) (ret : Bool → Option R) (s1 : ByteArray) (s2 : ByteArray) (a3 : Int) (a4 : Int) (a5 : Int) (xs6 : List S211) (s7 : ByteArray) (s8 : ByteArray) (a9 : Int) (a10 : Int) (a11 : Int) (xs12 : List S211) : Option R :=
  if (decide (ByteArray.toList s1 ≠ ByteArray.toList s7)) = true then
    ret false
  else
    if (decide (ByteArray.toList s2 ≠ ByteArray.toList s8)) = true then
      ret false
    else
      if (decide (a3 ≠ a9)) = true then
        ret false
      else
        if (decide (a4 ≠ a10)) = true then
          ret false
        else
          if (decide (a5 ≠ a11)) = true then
            ret false
          else
            (f181 k xs6 xs12).bind fun t13 => if (!t13) = true then
                ret false
              else
                ret true
def f141 (k : Nat) (s1 : ByteArray) (s2 : ByteArray) (a3 : Int) (a4 : Int) (a5 : Int) (xs6 : List S211) (s7 : ByteArray) (s8 : ByteArray) (a9 : Int) (a10 : Int) (a11 : Int) (xs12 : List S211) : Option Bool := f141.step k some s1 s2 a3 a4 a5 xs6 s7 s8 a9 a10 a11 xs12
def f141.w {R : Type} : Bool → (Res env → Option R) → Option R := fun t14 K => K ⟨.v (.c (.s (.bool t14))), [[], []]⟩
theorem f141.wn (x : Bool) : ∃ res, ∀ {R : Type} (K : Res env → Option R), f141.w x K = K res := by
  exact ⟨_, fun _ => rfl⟩
def f141.hd (k : Nat) (ps_ : List (P2 env)) : Cl env :=
  gC Cl.no ps_ fun p_ ps_ => qG Cl.no p_ fun cs_ => gC Cl.no cs_ fun c_ cs_ => qS Cl.no c_ fun v_ => vS Cl.no v_ fun s1 => gC Cl.no cs_ fun c_ cs_ => qS Cl.no c_ fun v_ => vS Cl.no v_ fun s2 => gC Cl.no cs_ fun c_ cs_ => qS Cl.no c_ fun v_ => vI Cl.no .i64 v_ fun a3 => gC Cl.no cs_ fun c_ cs_ => qS Cl.no c_ fun v_ => vI Cl.no .i64 v_ fun a4 => gC Cl.no cs_ fun c_ cs_ => qS Cl.no c_ fun v_ => vI Cl.no .i64 v_ fun a5 => gC Cl.no cs_ fun c_ cs_ => qSl Cl.no 211 c_ fun xs6 => gE Cl.no cs_ <| gC Cl.no ps_ fun p_ ps_ => qG Cl.no p_ fun cs_ => gC Cl.no cs_ fun c_ cs_ => qS Cl.no c_ fun v_ => vS Cl.no v_ fun s7 => gC Cl.no cs_ fun c_ cs_ => qS Cl.no c_ fun v_ => vS Cl.no v_ fun s8 => gC Cl.no cs_ fun c_ cs_ => qS Cl.no c_ fun v_ => vI Cl.no .i64 v_ fun a9 => gC Cl.no cs_ fun c_ cs_ => qS Cl.no c_ fun v_ => vI Cl.no .i64 v_ fun a10 => gC Cl.no cs_ fun c_ cs_ => qS Cl.no c_ fun v_ => vI Cl.no .i64 v_ fun a11 => gC Cl.no cs_ fun c_ cs_ => qSl Cl.no 211 c_ fun xs12 => gE Cl.no cs_ <| gE Cl.no ps_ <| { α := Bool, o := f141 k s1 s2 a3 a4 a5 xs6 s7 s8 a9 a10 a11 xs12, w := f141.w, nat := fun x _ => f141.wn x }
def f141.e (k : Nat) : Entry env := ⟨fun ps => f141.hd k (coer [[.no, .no, .no, .no, .no, .rd 211], [.no, .no, .no, .no, .no, .rd 211]] ps), []⟩
def f141.X (k : Nat) : Ctx env := { C := lookE [(181, f181.e k)], L := lookE [], J := lookE [], keep := lookD [], keepX := lookD [], span := lookN [], eff := fun n => memN n [], prep := lookP [], np := 0 }
theorem f141.nat {R : Type} (k : Nat) (g : Bool → Option R) (s1 : ByteArray) (s2 : ByteArray) (a3 : Int) (a4 : Int) (a5 : Int) (xs6 : List S211) (s7 : ByteArray) (s8 : ByteArray) (a9 : Int) (a10 : Int) (a11 : Int) (xs12 : List S211) : f141.step k g s1 s2 a3 a4 a5 xs6 s7 s8 a9 a10 a11 xs12 = (f141 k s1 s2 a3 a4 a5 xs6 s7 s8 a9 a10 a11 xs12).bind g := by
  simp only [f141, f141.step, bind_ite, bind_sum, Option.bind_assoc, Option.bind_some, Option.bind_none]
theorem f141.ev (k : Nat) (s1 : ByteArray) (s2 : ByteArray) (a3 : Int) (a4 : Int) (a5 : Int) (xs6 : List S211) (s7 : ByteArray) (s8 : ByteArray) (a9 : Int) (a10 : Int) (a11 : Int) (xs12 : List S211) : evF (f141.X k) (bodyOf Try.f141) Try.f141.ntmps Try.f141.results.toList [.g [.s (.string s1), .s (.string s2), .s (.int .i64 a3), .s (.int .i64 a4), .s (.int .i64 a5), .sl 211 xs6], .g [.s (.string s7), .s (.string s8), .s (.int .i64 a9), .s (.int .i64 a10), .s (.int .i64 a11), .sl 211 xs12]] = f141.step k (fun x => f141.w x some) s1 s2 a3 a4 a5 xs6 s7 s8 a9 a10 a11 xs12 := by kernel_rfl
theorem f141.hok (k : Nat) : HOK (f141.X k) (bodyOf Try.f141) where
  l := allP_mem (by exact trivial)
  j := allP_mem (by exact trivial)
theorem f141.sound0 (k : Nat) : SoundC env Try.prog 141 (f141.hd k) := by
  intro ps_
  show GoodC _ _ _ ps_ (f141.hd k ps_)
  unfold f141.hd
  refine gC_ok (p := GoodC env Try.prog 141 _) goodC_no fun _ _ h => ?_
  subst h
  refine qG_ok (p := GoodC env Try.prog 141 _) goodC_no fun _ h => ?_
  subst h
  refine gC_ok (p := GoodC env Try.prog 141 _) goodC_no fun _ _ h => ?_
  subst h
  refine qS_ok (p := GoodC env Try.prog 141 _) goodC_no fun _ h => ?_
  subst h
  refine vS_ok (p := GoodC env Try.prog 141 _) goodC_no fun _ h => ?_
  subst h
  refine gC_ok (p := GoodC env Try.prog 141 _) goodC_no fun _ _ h => ?_
  subst h
  refine qS_ok (p := GoodC env Try.prog 141 _) goodC_no fun _ h => ?_
  subst h
  refine vS_ok (p := GoodC env Try.prog 141 _) goodC_no fun _ h => ?_
  subst h
  refine gC_ok (p := GoodC env Try.prog 141 _) goodC_no fun _ _ h => ?_
  subst h
  refine qS_ok (p := GoodC env Try.prog 141 _) goodC_no fun _ h => ?_
  subst h
  refine vI_ok (p := GoodC env Try.prog 141 _) goodC_no fun _ h => ?_
  subst h
  refine gC_ok (p := GoodC env Try.prog 141 _) goodC_no fun _ _ h => ?_
  subst h
  refine qS_ok (p := GoodC env Try.prog 141 _) goodC_no fun _ h => ?_
  subst h
  refine vI_ok (p := GoodC env Try.prog 141 _) goodC_no fun _ h => ?_
  subst h
  refine gC_ok (p := GoodC env Try.prog 141 _) goodC_no fun _ _ h => ?_
  subst h
  refine qS_ok (p := GoodC env Try.prog 141 _) goodC_no fun _ h => ?_
  subst h
  refine vI_ok (p := GoodC env Try.prog 141 _) goodC_no fun _ h => ?_
  subst h
  refine gC_ok (p := GoodC env Try.prog 141 _) goodC_no fun _ _ h => ?_
  subst h
  refine qSl_ok (p := GoodC env Try.prog 141 _) goodC_no fun _ h => ?_
  subst h
  refine gE_ok (p := GoodC env Try.prog 141 _) goodC_no fun h => ?_
  subst h
  refine gC_ok (p := GoodC env Try.prog 141 _) goodC_no fun _ _ h => ?_
  subst h
  refine qG_ok (p := GoodC env Try.prog 141 _) goodC_no fun _ h => ?_
  subst h
  refine gC_ok (p := GoodC env Try.prog 141 _) goodC_no fun _ _ h => ?_
  subst h
  refine qS_ok (p := GoodC env Try.prog 141 _) goodC_no fun _ h => ?_
  subst h
  refine vS_ok (p := GoodC env Try.prog 141 _) goodC_no fun _ h => ?_
  subst h
  refine gC_ok (p := GoodC env Try.prog 141 _) goodC_no fun _ _ h => ?_
  subst h
  refine qS_ok (p := GoodC env Try.prog 141 _) goodC_no fun _ h => ?_
  subst h
  refine vS_ok (p := GoodC env Try.prog 141 _) goodC_no fun _ h => ?_
  subst h
  refine gC_ok (p := GoodC env Try.prog 141 _) goodC_no fun _ _ h => ?_
  subst h
  refine qS_ok (p := GoodC env Try.prog 141 _) goodC_no fun _ h => ?_
  subst h
  refine vI_ok (p := GoodC env Try.prog 141 _) goodC_no fun _ h => ?_
  subst h
  refine gC_ok (p := GoodC env Try.prog 141 _) goodC_no fun _ _ h => ?_
  subst h
  refine qS_ok (p := GoodC env Try.prog 141 _) goodC_no fun _ h => ?_
  subst h
  refine vI_ok (p := GoodC env Try.prog 141 _) goodC_no fun _ h => ?_
  subst h
  refine gC_ok (p := GoodC env Try.prog 141 _) goodC_no fun _ _ h => ?_
  subst h
  refine qS_ok (p := GoodC env Try.prog 141 _) goodC_no fun _ h => ?_
  subst h
  refine vI_ok (p := GoodC env Try.prog 141 _) goodC_no fun _ h => ?_
  subst h
  refine gC_ok (p := GoodC env Try.prog 141 _) goodC_no fun _ _ h => ?_
  subst h
  refine qSl_ok (p := GoodC env Try.prog 141 _) goodC_no fun _ h => ?_
  subst h
  refine gE_ok (p := GoodC env Try.prog 141 _) goodC_no fun h => ?_
  subst h
  refine gE_ok (p := GoodC env Try.prog 141 _) goodC_no fun h => ?_
  subst h
  exact fun_good (fun_sound envOK (cs_sound _ (by exact ⟨⟨f181.sound k, f181.fnok⟩, trivial⟩)) (f141.hok k) Try.func141 rfl) ((f141.ev k _ _ _ _ _ _ _ _ _ _ _ _).trans (f141.nat k _ _ _ _ _ _ _ _ _ _ _ _ _))
theorem f141.sound (k : Nat) : SoundC env Try.prog 141 (f141.e k).F := soundC_coer (f141.sound0 k) [[.no, .no, .no, .no, .no, .rd 211], [.no, .no, .no, .no, .no, .rd 211]]
theorem f141.says (k : Nat) (s1 : ByteArray) (s2 : ByteArray) (a3 : Int) (a4 : Int) (a5 : Int) (xs6 : List S211) (s7 : ByteArray) (s8 : ByteArray) (a9 : Int) (a10 : Int) (a11 : Int) (xs12 : List S211) (t15 : Bool) (h_ : f141 k s1 s2 a3 a4 a5 xs6 s7 s8 a9 a10 a11 xs12 = some t15) : SoundAt env Try.prog 141 [.g [.s (.string s1), .s (.string s2), .s (.int .i64 a3), .s (.int .i64 a4), .s (.int .i64 a5), .sl 211 xs6], .g [.s (.string s7), .s (.string s8), .s (.int .i64 a9), .s (.int .i64 a10), .s (.int .i64 a11), .sl 211 xs12]] ⟨.v (.c (.s (.bool t15))), [[], []]⟩ :=
  fun_sound envOK (cs_sound _ (by exact ⟨⟨f181.sound k, f181.fnok⟩, trivial⟩)) (f141.hok k) Try.func141 rfl _ _ (((f141.ev k s1 s2 a3 a4 a5 xs6 s7 s8 a9 a10 a11 xs12).trans (f141.nat k _ s1 s2 a3 a4 a5 xs6 s7 s8 a9 a10 a11 xs12)).trans (by rw [h_]; rfl))
theorem f141.fnok : FnOK Try.prog 141 := fn_ok Try.func141 (by kernel_rfl) rfl
end Go.Proofs.Ytildepkogbcdpaa.B

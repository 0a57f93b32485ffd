/- Written by a program of this session. -/
import Derived.Test.YtildepkogbcdpaaBEnv
import Derived.Test.YtildepkogbcdpaaBHd
namespace Go.Proofs.Ytildepkogbcdpaa.B
open Go Go.B
set_option linter.unusedVariables false
set_option linter.unusedSimpArgs false
def f46i.w {R : Type} : Int → (Res env → Option R) → Option R := fun t8 K => K ⟨.v (.c (.s (.int .i64 t8))), [[], []]⟩
theorem f46i.wn (x : Int) : ∃ res, ∀ {R : Type} (K : Res env → Option R), f46i.w x K = K res := by
  exact ⟨_, fun _ => rfl⟩
def f46i.hdG (G_ : ByteArray → Bool → Int → Int → (List S72) → Int → Option Int) (ps_ : List (P2 env)) : Cl env :=
  gC Cl.no ps_ fun p_ ps_ => qG Cl.no p_ fun cs_ => gC Cl.no cs_ fun c_ cs_ => qS Cl.no c_ fun v_ => vS Cl.no v_ fun s1 => gC Cl.no cs_ fun c_ cs_ => qS Cl.no c_ fun v_ => vB Cl.no v_ fun b2 => gC Cl.no cs_ fun c_ cs_ => qS Cl.no c_ fun v_ => vI Cl.no .i64 v_ fun a3 => gC Cl.no cs_ fun c_ cs_ => qS Cl.no c_ fun v_ => vI Cl.no .i64 v_ fun a4 => gC Cl.no cs_ fun c_ cs_ => qSl Cl.no 72 c_ fun xs5 => gE Cl.no cs_ <| gC Cl.no ps_ fun p_ ps_ => qC Cl.no p_ fun c_ => qS Cl.no c_ fun v_ => vI Cl.no .i64 v_ fun a6 => gE Cl.no ps_ <| { α := Int, o := G_ s1 b2 a3 a4 xs5 a6, w := f46i.w, nat := fun x _ => f46i.wn x }
def f46i.eG (G_ : ByteArray → Bool → Int → Int → (List S72) → Int → Option Int) : Entry env := ⟨fun ps => f46i.hdG G_ (coer [[.no, .no, .no, .no, .rd 72], [.no]] ps), [], []⟩
theorem f46i.none_ : SoundC env Try.prog 46 (f46i.eG (fun _ _ _ _ _ _ => none)).F := by
  refine soundC_coer (F := f46i.hdG (fun _ _ _ _ _ _ => none)) ?_ [[.no, .no, .no, .no, .rd 72], [.no]]
  intro ps_
  show GoodC _ _ _ ps_ (f46i.hdG (fun _ _ _ _ _ _ => none) ps_)
  unfold f46i.hdG
  refine gC_ok (p := GoodC env Try.prog 46 _) goodC_no fun _ _ h => ?_
  subst h
  refine qG_ok (p := GoodC env Try.prog 46 _) goodC_no fun _ h => ?_
  subst h
  refine gC_ok (p := GoodC env Try.prog 46 _) goodC_no fun _ _ h => ?_
  subst h
  refine qS_ok (p := GoodC env Try.prog 46 _) goodC_no fun _ h => ?_
  subst h
  refine vS_ok (p := GoodC env Try.prog 46 _) goodC_no fun _ h => ?_
  subst h
  refine gC_ok (p := GoodC env Try.prog 46 _) goodC_no fun _ _ h => ?_
  subst h
  refine qS_ok (p := GoodC env Try.prog 46 _) goodC_no fun _ h => ?_
  subst h
  refine vB_ok (p := GoodC env Try.prog 46 _) goodC_no fun _ h => ?_
  subst h
  refine gC_ok (p := GoodC env Try.prog 46 _) goodC_no fun _ _ h => ?_
  subst h
  refine qS_ok (p := GoodC env Try.prog 46 _) goodC_no fun _ h => ?_
  subst h
  refine vI_ok (p := GoodC env Try.prog 46 _) goodC_no fun _ h => ?_
  subst h
  refine gC_ok (p := GoodC env Try.prog 46 _) goodC_no fun _ _ h => ?_
  subst h
  refine qS_ok (p := GoodC env Try.prog 46 _) goodC_no fun _ h => ?_
  subst h
  refine vI_ok (p := GoodC env Try.prog 46 _) goodC_no fun _ h => ?_
  subst h
  refine gC_ok (p := GoodC env Try.prog 46 _) goodC_no fun _ _ h => ?_
  subst h
  refine qSl_ok (p := GoodC env Try.prog 46 _) goodC_no fun _ h => ?_
  subst h
  refine gE_ok (p := GoodC env Try.prog 46 _) goodC_no fun h => ?_
  subst h
  refine gC_ok (p := GoodC env Try.prog 46 _) goodC_no fun _ _ h => ?_
  subst h
  refine qC_ok (p := GoodC env Try.prog 46 _) goodC_no fun _ h => ?_
  subst h
  refine qS_ok (p := GoodC env Try.prog 46 _) goodC_no fun _ h => ?_
  subst h
  refine vI_ok (p := GoodC env Try.prog 46 _) goodC_no fun _ h => ?_
  subst h
  refine gE_ok (p := GoodC env Try.prog 46 _) goodC_no fun h => ?_
  subst h
  intro x h; cases h
theorem f46.fnok : FnOK Try.prog 46 := fn_ok Try.func46 (by kernel_rfl) rfl
def f113i.l5.step {R : Type} (g46 : ByteArray → Bool → Int → Int → (List S72) → Int → Option Int) (k : Nat) (rec_ : (List S72) → Int → Int → Option R) (ret : ((Int × Int) ⊕ (Int)) → Option R) (xs3 : List S72) (a4 : Int) (a5 : Int) : Option R :=
  if (decide (a5 < (((List.length xs3) : Nat) : Int))) = true then
    if (0 : Int) ≤ a5 then
      if a5 < ((List.length xs3 : Nat) : Int) then
        (g46 (List.getD xs3 (Int.toNat a5) (⟨ByteArray.empty, false, (0 : Int), (0 : Int), []⟩ : S72)).f0 (List.getD xs3 (Int.toNat a5) (⟨ByteArray.empty, false, (0 : Int), (0 : Int), []⟩ : S72)).f1 (List.getD xs3 (Int.toNat a5) (⟨ByteArray.empty, false, (0 : Int), (0 : Int), []⟩ : S72)).f2 (List.getD xs3 (Int.toNat a5) (⟨ByteArray.empty, false, (0 : Int), (0 : Int), []⟩ : S72)).f3 (List.getD xs3 (Int.toNat a5) (⟨ByteArray.empty, false, (0 : Int), (0 : Int), []⟩ : S72)).f4 a4).bind fun t6 => if (decide (t6 < (0 : Int))) = true then
            ret (.inl (t6, (-1 : Int)))
          else
            rec_ xs3 t6 (IntKind.i64.wrap (a5 + (1 : Int)))
      else none
    else none
  else
    ret (.inr a4)
def f113i.l5 (g46 : ByteArray → Bool → Int → Int → (List S72) → Int → Option Int) (k : Nat) : Nat → (List S72) → Int → Int → Option ((Int × Int) ⊕ (Int))
  | 0, _, _, _ => none
  | j + 1, xs3, a4, a5 => f113i.l5.step g46 k (fun xs3 a4 a5 => f113i.l5 g46 k j xs3 a4 a5) some xs3 a4 a5
def f113i.l5.w {R : Type} : ((Int × Int) ⊕ (Int)) → (Exit → St env → Option R) → Option R := fun x K => Sum.elim (fun t9 => K .ret ⟨fullT [1, 4] 0 27 [.v (.c (.s (.int .i64 t9.1))), .v (.c (.s (.int .i64 t9.2)))], [], 418⟩) (fun t10 => K (.exit 0) ⟨fullT [1] 0 27 [.v (.c (.s (.int .i64 t10)))], [], 418⟩) x
def f113i.l5.st (xs3 : List S72) (a4 : Int) (a5 : Int) : St env := ⟨fullT [0, 1, 5] 0 27 [.v (.c (.imm 72 xs3)), .v (.c (.s (.int .i64 a4))), .v (.c (.s (.int .i64 a5)))], [], 146⟩
def f113i.l5.hd (g46 : ByteArray → Bool → Int → Int → (List S72) → Int → Option Int) (k : Nat) (ts_ : List (AV env)) (mm_ : Mem env) (n_ : Nat) : LCl env :=
  gTs LCl.no [0, 1, 5] 27 ts_ fun l_ => gV LCl.no l_ fun a_ l_ => rImm LCl.no 72 a_ fun xs3 => gV LCl.no l_ fun a_ l_ => rV LCl.no a_ fun v_ => vI LCl.no .i64 v_ fun a4 => gV LCl.no l_ fun a_ l_ => rV LCl.no a_ fun v_ => vI LCl.no .i64 v_ fun a5 => gE LCl.no l_ <| gE LCl.no mm_ <| gN LCl.no 146 n_ { α := (Int × Int) ⊕ (Int), o := f113i.l5 g46 k k xs3 a4 a5, w := f113i.l5.w }
def f113i.step {R : Type} (g46 : ByteArray → Bool → Int → Int → (List S72) → Int → Option Int) (k : Nat) (ret : Int → Option R) (xs1 : List S72) (a2 : Int) : Option R :=
  if (decide ((IntKind.i64.wrap (a2 - (((List.length xs1) : Nat) : Int))) < (0 : Int))) = true then
    ret (-1 : Int)
  else
    (f113i.l5 g46 k k xs1 (IntKind.i64.wrap (a2 - (((List.length xs1) : Nat) : Int))) (0 : Int)).bind (Sum.elim (fun t7 => ret t7.2) (fun t8 => ret t8))
def f113i (g46 : ByteArray → Bool → Int → Int → (List S72) → Int → Option Int) (k : Nat) (xs1 : List S72) (a2 : Int) : Option Int := f113i.step g46 k some xs1 a2
def f113i.w {R : Type} : Int → (Res env → Option R) → Option R := fun t11 K => K ⟨.v (.c (.s (.int .i64 t11))), [[], []]⟩
theorem f113i.wn (x : Int) : ∃ res, ∀ {R : Type} (K : Res env → Option R), f113i.w x K = K res := by
  exact ⟨_, fun _ => rfl⟩
def f113i.hd (g46 : ByteArray → Bool → Int → Int → (List S72) → Int → Option Int) (k : Nat) (ps_ : List (P2 env)) : Cl env :=
  gC Cl.no ps_ fun p_ ps_ => qC Cl.no p_ fun c_ => qSl Cl.no 72 c_ fun xs1 => gC Cl.no ps_ fun p_ ps_ => qC Cl.no p_ fun c_ => qS Cl.no c_ fun v_ => vI Cl.no .i64 v_ fun a2 => gE Cl.no ps_ <| { α := Int, o := f113i g46 k xs1 a2, w := f113i.w, nat := fun x _ => f113i.wn x }
def f113i.e (g46 : ByteArray → Bool → Int → Int → (List S72) → Int → Option Int) (k : Nat) : Entry env := ⟨fun ps => f113i.hd g46 k (coer [[.rd 72], [.no]] ps), [], []⟩
def f113i.X (g46 : ByteArray → Bool → Int → Int → (List S72) → Int → Option Int) (k : Nat) : Ctx env := { C := lookE [(46, f46i.eG g46)], L := lookE [(5, fun S => f113i.l5.hd g46 k S.ts S.m S.n)], J := lookE [], keep := lookD [(5, [0, 1, 5])], keepX := lookD [(5, [1, 4])], span := lookN [(5, 272)], eff := fun n => memN n [], prep := lookP [], np := 0 }
theorem f113i.l5.nat {R : Type} (g46 : ByteArray → Bool → Int → Int → (List S72) → Int → Option Int) (k : Nat) (rec_ : (List S72) → Int → Int → Option ((Int × Int) ⊕ (Int))) (g : ((Int × Int) ⊕ (Int)) → Option R) (xs3 : List S72) (a4 : Int) (a5 : Int) : (f113i.l5.step g46 k rec_ some xs3 a4 a5).bind g = f113i.l5.step g46 k (fun xs3 a4 a5 => (rec_ xs3 a4 a5).bind g) g xs3 a4 a5 := by
  simp only [f113i.l5.step, bind_ite, bind_sum, Option.bind_assoc, Option.bind_some, Option.bind_none]
theorem f113i.l5.good (g46 : ByteArray → Bool → Int → Int → (List S72) → Int → Option Int) (k : Nat) (xs3 : List S72) (a4 : Int) (a5 : Int) : GoodL (f113i.X g46 k) (nthC 0 (loopsOf (bodyOf Try.f113))) (f113i.l5.st xs3 a4 a5) { α := ((Int × Int) ⊕ (Int)), o := f113i.l5 g46 k k xs3 a4 a5, w := f113i.l5.w } :=
  loop_good (ι := (List S72) × Int × Int) (α := ((Int × Int) ⊕ (Int))) (fun i => f113i.l5.st i.1 i.2.1 i.2.2) (fun j i => f113i.l5 g46 k j i.1 i.2.1 i.2.2) f113i.l5.w (fun rec_ ret i => f113i.l5.step g46 k (fun xs3 a4 a5 => rec_ (xs3, a4, a5)) ret i.1 i.2.1 i.2.2)
    (fun _ => rfl) (fun _ _ => rfl) (fun rec_ g i => f113i.l5.nat g46 k _ g i.1 i.2.1 i.2.2) (fun {R} i0 i rec_ K => by kernel_rfl) k (xs3, a4, a5)
theorem f113i.l5.all (g46 : ByteArray → Bool → Int → Int → (List S72) → Int → Option Int) (k : Nat) (S : St env) : GoodL (f113i.X g46 k) (nthC 0 (loopsOf (bodyOf Try.f113))) S (f113i.l5.hd g46 k S.ts S.m S.n) := by
  obtain ⟨ts_, m_, n_⟩ := S
  show GoodL _ _ _ (f113i.l5.hd g46 k ts_ m_ n_)
  unfold f113i.l5.hd
  refine gTs_ok (p := GoodL _ _ _) goodL_no fun _ h => ?_
  subst h
  refine gV_ok (p := GoodL _ _ _) goodL_no fun _ _ h => ?_
  subst h
  refine rImm_ok (p := GoodL _ _ _) goodL_no fun _ h => ?_
  subst h
  refine gV_ok (p := GoodL _ _ _) goodL_no fun _ _ h => ?_
  subst h
  refine rV_ok (p := GoodL _ _ _) goodL_no fun _ h => ?_
  subst h
  refine vI_ok (p := GoodL _ _ _) goodL_no fun _ h => ?_
  subst h
  refine gV_ok (p := GoodL _ _ _) goodL_no fun _ _ h => ?_
  subst h
  refine rV_ok (p := GoodL _ _ _) goodL_no fun _ h => ?_
  subst h
  refine vI_ok (p := GoodL _ _ _) goodL_no fun _ h => ?_
  subst h
  refine gE_ok (p := GoodL _ _ _) goodL_no fun h => ?_
  subst h
  refine gE_ok (p := GoodL _ _ _) goodL_no fun h => ?_
  subst h
  refine gN_ok (p := GoodL _ _ _) goodL_no fun h => ?_
  subst h
  exact f113i.l5.good g46 k _ _ _
theorem f113i.nat {R : Type} (g46 : ByteArray → Bool → Int → Int → (List S72) → Int → Option Int) (k : Nat) (g : Int → Option R) (xs1 : List S72) (a2 : Int) : f113i.step g46 k g xs1 a2 = (f113i g46 k xs1 a2).bind g := by
  simp only [f113i, f113i.step, bind_ite, bind_sum, Option.bind_assoc, Option.bind_some, Option.bind_none]
theorem f113i.ev (g46 : ByteArray → Bool → Int → Int → (List S72) → Int → Option Int) (k : Nat) (xs1 : List S72) (a2 : Int) : evF (f113i.X g46 k) (bodyOf Try.f113) Try.f113.ntmps Try.f113.results.toList [.v (.c (.sl 72 xs1)), .v (.c (.s (.int .i64 a2)))] = f113i.step g46 k (fun x => f113i.w x some) xs1 a2 := by kernel_rfl
theorem f113i.hok (g46 : ByteArray → Bool → Int → Int → (List S72) → Int → Option Int) (k : Nat) : HOK (f113i.X g46 k) (bodyOf Try.f113) where
  l := allP_mem (by exact ⟨ls_of (h0 := fun S => f113i.l5.hd g46 k S.ts S.m S.n) (by kernel_rfl) (f113i.l5.all g46 k), trivial⟩)
  j := allP_mem (by exact trivial)
theorem f113i.sound0 (g46 : ByteArray → Bool → Int → Int → (List S72) → Int → Option Int) (hg_ : SoundC env Try.prog 46 (f46i.eG g46).F) (k : Nat) : SoundC env Try.prog 113 (f113i.hd g46 k) := by
  intro ps_
  show GoodC _ _ _ ps_ (f113i.hd g46 k ps_)
  unfold f113i.hd
  refine gC_ok (p := GoodC env Try.prog 113 _) goodC_no fun _ _ h => ?_
  subst h
  refine qC_ok (p := GoodC env Try.prog 113 _) goodC_no fun _ h => ?_
  subst h
  refine qSl_ok (p := GoodC env Try.prog 113 _) goodC_no fun _ h => ?_
  subst h
  refine gC_ok (p := GoodC env Try.prog 113 _) goodC_no fun _ _ h => ?_
  subst h
  refine qC_ok (p := GoodC env Try.prog 113 _) goodC_no fun _ h => ?_
  subst h
  refine qS_ok (p := GoodC env Try.prog 113 _) goodC_no fun _ h => ?_
  subst h
  refine vI_ok (p := GoodC env Try.prog 113 _) goodC_no fun _ h => ?_
  subst h
  refine gE_ok (p := GoodC env Try.prog 113 _) goodC_no fun h => ?_
  subst h
  exact fun_good (fun_sound envOK (cs_sound _ (by exact ⟨⟨hg_, f46.fnok⟩, trivial⟩)) (f113i.hok g46 k) Try.func113 rfl) ((f113i.ev g46 k _ _).trans (f113i.nat g46 k _ _ _))
theorem f113i.sound (g46 : ByteArray → Bool → Int → Int → (List S72) → Int → Option Int) (hg_ : SoundC env Try.prog 46 (f46i.eG g46).F) (k : Nat) : SoundC env Try.prog 113 (f113i.e g46 k).F := soundC_coer (f113i.sound0 g46 hg_ k) [[.rd 72], [.no]]
theorem f113.fnok : FnOK Try.prog 113 := fn_ok Try.func113 (by kernel_rfl) rfl
def f46i.step {R : Type} (g46 : ByteArray → Bool → Int → Int → (List S72) → Int → Option Int) (k : Nat) (ret : Int → Option R) (s1 : ByteArray) (b2 : Bool) (a3 : Int) (a4 : Int) (xs5 : List S72) (a6 : Int) : Option R :=
  if (decide ((IntKind.i64.wrap (a6 - (((ByteArray.size s1) : Nat) : Int))) < (0 : Int))) = true then
    ret (-1 : Int)
  else
    (f113i g46 k xs5 (IntKind.i64.wrap (a6 - (((ByteArray.size s1) : Nat) : Int)))).bind fun t7 => if (decide (t7 < (0 : Int))) = true then
        ret (-1 : Int)
      else
        ret t7
def f46i (g46 : ByteArray → Bool → Int → Int → (List S72) → Int → Option Int) (k : Nat) (s1 : ByteArray) (b2 : Bool) (a3 : Int) (a4 : Int) (xs5 : List S72) (a6 : Int) : Option Int := f46i.step g46 k some s1 b2 a3 a4 xs5 a6
def f46i.hd (g46 : ByteArray → Bool → Int → Int → (List S72) → Int → Option Int) (k : Nat) (ps_ : List (P2 env)) : Cl env := f46i.hdG (f46i g46 k) ps_
def f46i.e (g46 : ByteArray → Bool → Int → Int → (List S72) → Int → Option Int) (k : Nat) : Entry env := f46i.eG (f46i g46 k)
def f46i.X (g46 : ByteArray → Bool → Int → Int → (List S72) → Int → Option Int) (k : Nat) : Ctx env := { C := lookE [(113, f113i.e g46 k)], L := lookE [], J := lookE [], keep := lookD [], keepX := lookD [], span := lookN [], eff := fun n => memN n [], prep := lookP [], np := 0 }
theorem f46i.nat {R : Type} (g46 : ByteArray → Bool → Int → Int → (List S72) → Int → Option Int) (k : Nat) (g : Int → Option R) (s1 : ByteArray) (b2 : Bool) (a3 : Int) (a4 : Int) (xs5 : List S72) (a6 : Int) : f46i.step g46 k g s1 b2 a3 a4 xs5 a6 = (f46i g46 k s1 b2 a3 a4 xs5 a6).bind g := by
  simp only [f46i, f46i.step, bind_ite, bind_sum, Option.bind_assoc, Option.bind_some, Option.bind_none]
theorem f46i.ev (g46 : ByteArray → Bool → Int → Int → (List S72) → Int → Option Int) (k : Nat) (s1 : ByteArray) (b2 : Bool) (a3 : Int) (a4 : Int) (xs5 : List S72) (a6 : Int) : evF (f46i.X g46 k) (bodyOf Try.f46) Try.f46.ntmps Try.f46.results.toList [.g [.s (.string s1), .s (.bool b2), .s (.int .i64 a3), .s (.int .i64 a4), .sl 72 xs5], .v (.c (.s (.int .i64 a6)))] = f46i.step g46 k (fun x => f46i.w x some) s1 b2 a3 a4 xs5 a6 := by kernel_rfl
theorem f46i.hok (g46 : ByteArray → Bool → Int → Int → (List S72) → Int → Option Int) (k : Nat) : HOK (f46i.X g46 k) (bodyOf Try.f46) where
  l := allP_mem (by exact trivial)
  j := allP_mem (by exact trivial)
theorem f46i.sound0 (g46 : ByteArray → Bool → Int → Int → (List S72) → Int → Option Int) (hg_ : SoundC env Try.prog 46 (f46i.eG g46).F) (k : Nat) : SoundC env Try.prog 46 (f46i.hd g46 k) := by
  intro ps_
  show GoodC _ _ _ ps_ (f46i.hd g46 k ps_)
  unfold f46i.hd f46i.hdG
  refine gC_ok (p := GoodC env Try.prog 46 _) goodC_no fun _ _ h => ?_
  subst h
  refine qG_ok (p := GoodC env Try.prog 46 _) goodC_no fun _ h => ?_
  subst h
  refine gC_ok (p := GoodC env Try.prog 46 _) goodC_no fun _ _ h => ?_
  subst h
  refine qS_ok (p := GoodC env Try.prog 46 _) goodC_no fun _ h => ?_
  subst h
  refine vS_ok (p := GoodC env Try.prog 46 _) goodC_no fun _ h => ?_
  subst h
  refine gC_ok (p := GoodC env Try.prog 46 _) goodC_no fun _ _ h => ?_
  subst h
  refine qS_ok (p := GoodC env Try.prog 46 _) goodC_no fun _ h => ?_
  subst h
  refine vB_ok (p := GoodC env Try.prog 46 _) goodC_no fun _ h => ?_
  subst h
  refine gC_ok (p := GoodC env Try.prog 46 _) goodC_no fun _ _ h => ?_
  subst h
  refine qS_ok (p := GoodC env Try.prog 46 _) goodC_no fun _ h => ?_
  subst h
  refine vI_ok (p := GoodC env Try.prog 46 _) goodC_no fun _ h => ?_
  subst h
  refine gC_ok (p := GoodC env Try.prog 46 _) goodC_no fun _ _ h => ?_
  subst h
  refine qS_ok (p := GoodC env Try.prog 46 _) goodC_no fun _ h => ?_
  subst h
  refine vI_ok (p := GoodC env Try.prog 46 _) goodC_no fun _ h => ?_
  subst h
  refine gC_ok (p := GoodC env Try.prog 46 _) goodC_no fun _ _ h => ?_
  subst h
  refine qSl_ok (p := GoodC env Try.prog 46 _) goodC_no fun _ h => ?_
  subst h
  refine gE_ok (p := GoodC env Try.prog 46 _) goodC_no fun h => ?_
  subst h
  refine gC_ok (p := GoodC env Try.prog 46 _) goodC_no fun _ _ h => ?_
  subst h
  refine qC_ok (p := GoodC env Try.prog 46 _) goodC_no fun _ h => ?_
  subst h
  refine qS_ok (p := GoodC env Try.prog 46 _) goodC_no fun _ h => ?_
  subst h
  refine vI_ok (p := GoodC env Try.prog 46 _) goodC_no fun _ h => ?_
  subst h
  refine gE_ok (p := GoodC env Try.prog 46 _) goodC_no fun h => ?_
  subst h
  exact fun_good (fun_sound envOK (cs_sound _ (by exact ⟨⟨f113i.sound g46 hg_ k, f113.fnok⟩, trivial⟩)) (f46i.hok g46 k) Try.func46 rfl) ((f46i.ev g46 k _ _ _ _ _ _).trans (f46i.nat g46 k _ _ _ _ _ _ _))
theorem f46i.sound (g46 : ByteArray → Bool → Int → Int → (List S72) → Int → Option Int) (hg_ : SoundC env Try.prog 46 (f46i.eG g46).F) (k : Nat) : SoundC env Try.prog 46 (f46i.e g46 k).F := soundC_coer (f46i.sound0 g46 hg_ k) [[.no, .no, .no, .no, .rd 72], [.no]]
def f46i.r (k : Nat) : Nat → ByteArray → Bool → Int → Int → (List S72) → Int → Option Int
  | 0 => fun _ _ _ _ _ _ => none
  | j + 1 => fun s1 b2 a3 a4 xs5 a6 => f46i (f46i.r k j) k s1 b2 a3 a4 xs5 a6
theorem f46i.all_ (k : Nat) : ∀ j, SoundC env Try.prog 46 (f46i.eG (f46i.r k j)).F
  | 0 => f46i.none_
  | j + 1 => f46i.sound (f46i.r k j) (f46i.all_ k j) k
def f46 (k : Nat) (s1 : ByteArray) (b2 : Bool) (a3 : Int) (a4 : Int) (xs5 : List S72) (a6 : Int) : Option Int := f46i.r k k s1 b2 a3 a4 xs5 a6
def f46.e (k : Nat) : Entry env := f46i.eG (f46 k)
theorem f46.sound (k : Nat) : SoundC env Try.prog 46 (f46.e k).F := f46i.all_ k k
def f113 (k : Nat) (xs1 : List S72) (a2 : Int) : Option Int := f113i (f46 k) k xs1 a2
def f113.e (k : Nat) : Entry env := f113i.e (f46 k) k
theorem f113.sound (k : Nat) : SoundC env Try.prog 113 (f113.e k).F := f113i.sound (f46 k) (f46.sound k) k
def f48i.w {R : Type} : (ByteArray × Bool × Int × Int × (List S79)) → (Res env → Option R) → Option R := fun t7 K => K ⟨.v (.g [.s (.string t7.1), .s (.bool t7.2.1), .s (.int .i64 t7.2.2.1), .s (.int .i64 t7.2.2.2.1), .own true 79 t7.2.2.2.2]), [[]]⟩
theorem f48i.wn (x : (ByteArray × Bool × Int × Int × (List S79))) : ∃ res, ∀ {R : Type} (K : Res env → Option R), f48i.w x K = K res := by
  exact ⟨_, fun _ => rfl⟩
def f48i.hdG (G_ : ByteArray → Bool → Int → Int → (List S72) → Option (ByteArray × Bool × Int × Int × (List S79))) (ps_ : List (P2 env)) : Cl env :=
  gC Cl.no ps_ fun p_ ps_ => qG Cl.no p_ fun cs_ => gC Cl.no cs_ fun c_ cs_ => qS Cl.no c_ fun v_ => vS Cl.no v_ fun s1 => gC Cl.no cs_ fun c_ cs_ => qS Cl.no c_ fun v_ => vB Cl.no v_ fun b2 => gC Cl.no cs_ fun c_ cs_ => qS Cl.no c_ fun v_ => vI Cl.no .i64 v_ fun a3 => gC Cl.no cs_ fun c_ cs_ => qS Cl.no c_ fun v_ => vI Cl.no .i64 v_ fun a4 => gC Cl.no cs_ fun c_ cs_ => qSl Cl.no 72 c_ fun xs5 => gE Cl.no cs_ <| gE Cl.no ps_ <| { α := ByteArray × Bool × Int × Int × (List S79), o := G_ s1 b2 a3 a4 xs5, w := f48i.w, nat := fun x _ => f48i.wn x }
def f48i.eG (G_ : ByteArray → Bool → Int → Int → (List S72) → Option (ByteArray × Bool × Int × Int × (List S79))) : Entry env := ⟨fun ps => f48i.hdG G_ (coer [[.no, .no, .no, .no, .rd 72]] ps), [], []⟩
theorem f48i.none_ : SoundC env Try.prog 48 (f48i.eG (fun _ _ _ _ _ => none)).F := by
  refine soundC_coer (F := f48i.hdG (fun _ _ _ _ _ => none)) ?_ [[.no, .no, .no, .no, .rd 72]]
  intro ps_
  show GoodC _ _ _ ps_ (f48i.hdG (fun _ _ _ _ _ => none) ps_)
  unfold f48i.hdG
  refine gC_ok (p := GoodC env Try.prog 48 _) goodC_no fun _ _ h => ?_
  subst h
  refine qG_ok (p := GoodC env Try.prog 48 _) goodC_no fun _ h => ?_
  subst h
  refine gC_ok (p := GoodC env Try.prog 48 _) goodC_no fun _ _ h => ?_
  subst h
  refine qS_ok (p := GoodC env Try.prog 48 _) goodC_no fun _ h => ?_
  subst h
  refine vS_ok (p := GoodC env Try.prog 48 _) goodC_no fun _ h => ?_
  subst h
  refine gC_ok (p := GoodC env Try.prog 48 _) goodC_no fun _ _ h => ?_
  subst h
  refine qS_ok (p := GoodC env Try.prog 48 _) goodC_no fun _ h => ?_
  subst h
  refine vB_ok (p := GoodC env Try.prog 48 _) goodC_no fun _ h => ?_
  subst h
  refine gC_ok (p := GoodC env Try.prog 48 _) goodC_no fun _ _ h => ?_
  subst h
  refine qS_ok (p := GoodC env Try.prog 48 _) goodC_no fun _ h => ?_
  subst h
  refine vI_ok (p := GoodC env Try.prog 48 _) goodC_no fun _ h => ?_
  subst h
  refine gC_ok (p := GoodC env Try.prog 48 _) goodC_no fun _ _ h => ?_
  subst h
  refine qS_ok (p := GoodC env Try.prog 48 _) goodC_no fun _ h => ?_
  subst h
  refine vI_ok (p := GoodC env Try.prog 48 _) goodC_no fun _ h => ?_
  subst h
  refine gC_ok (p := GoodC env Try.prog 48 _) goodC_no fun _ _ h => ?_
  subst h
  refine qSl_ok (p := GoodC env Try.prog 48 _) goodC_no fun _ h => ?_
  subst h
  refine gE_ok (p := GoodC env Try.prog 48 _) goodC_no fun h => ?_
  subst h
  refine gE_ok (p := GoodC env Try.prog 48 _) goodC_no fun h => ?_
  subst h
  intro x h; cases h
theorem f48.fnok : FnOK Try.prog 48 := fn_ok Try.func48 (by kernel_rfl) rfl
def f116i.l3.step {R : Type} (g48 : ByteArray → Bool → Int → Int → (List S72) → Option (ByteArray × Bool × Int × Int × (List S79))) (k : Nat) (rec_ : (List S72) → Int → (List S79) → Option R) (ret : ((List S79)) → Option R) (xs2 : List S72) (a3 : Int) (xs4 : List S79) : Option R :=
  if (decide (a3 < (((List.length xs2) : Nat) : Int))) = true then
    if (0 : Int) ≤ a3 then
      if a3 < ((List.length xs2 : Nat) : Int) then
        (g48 (List.getD xs2 (Int.toNat a3) (⟨ByteArray.empty, false, (0 : Int), (0 : Int), []⟩ : S72)).f0 (List.getD xs2 (Int.toNat a3) (⟨ByteArray.empty, false, (0 : Int), (0 : Int), []⟩ : S72)).f1 (List.getD xs2 (Int.toNat a3) (⟨ByteArray.empty, false, (0 : Int), (0 : Int), []⟩ : S72)).f2 (List.getD xs2 (Int.toNat a3) (⟨ByteArray.empty, false, (0 : Int), (0 : Int), []⟩ : S72)).f3 (List.getD xs2 (Int.toNat a3) (⟨ByteArray.empty, false, (0 : Int), (0 : Int), []⟩ : S72)).f4).bind fun t5 => if (0 : Int) ≤ a3 then
            if a3 < ((List.length xs4 : Nat) : Int) then
              rec_ xs2 (IntKind.i64.wrap (a3 + (1 : Int))) (List.set xs4 (Int.toNat a3) (⟨t5.1, t5.2.1, t5.2.2.1, t5.2.2.2.1, t5.2.2.2.2⟩ : S79))
            else none
          else none
      else none
    else none
  else
    ret xs4
def f116i.l3 (g48 : ByteArray → Bool → Int → Int → (List S72) → Option (ByteArray × Bool × Int × Int × (List S79))) (k : Nat) : Nat → (List S72) → Int → (List S79) → Option ((List S79))
  | 0, _, _, _ => none
  | j + 1, xs2, a3, xs4 => f116i.l3.step g48 k (fun xs2 a3 xs4 => f116i.l3 g48 k j xs2 a3 xs4) some xs2 a3 xs4
def f116i.l3.w {R : Type} : ((List S79)) → (Exit → St env → Option R) → Option R := fun t7 K => K (.exit 0) ⟨fullT [3] 0 23 [.v (.c (.row 49))], [(49, .row true 79 t7)], 353⟩
def f116i.l3.st (xs2 : List S72) (a3 : Int) (xs4 : List S79) : St env := ⟨fullT [0, 3, 4] 0 23 [.v (.c (.imm 72 xs2)), .v (.c (.row 49)), .v (.c (.s (.int .i64 a3)))], [(49, .row true 79 xs4)], 97⟩
def f116i.l3.hd (g48 : ByteArray → Bool → Int → Int → (List S72) → Option (ByteArray × Bool × Int × Int × (List S79))) (k : Nat) (ts_ : List (AV env)) (mm_ : Mem env) (n_ : Nat) : LCl env :=
  gTs LCl.no [0, 3, 4] 23 ts_ fun l_ => gV LCl.no l_ fun a_ l_ => rImm LCl.no 72 a_ fun xs2 => gV LCl.no l_ fun a_ l_ => rRow LCl.no 49 a_ <| gV LCl.no l_ fun a_ l_ => rV LCl.no a_ fun v_ => vI LCl.no .i64 v_ fun a3 => gE LCl.no l_ <| mRow LCl.no 49 true 79 mm_ fun xs4 m_ => gE LCl.no m_ <| gN LCl.no 97 n_ { α := (List S79), o := f116i.l3 g48 k k xs2 a3 xs4, w := f116i.l3.w }
def f116i.step {R : Type} (g48 : ByteArray → Bool → Int → Int → (List S72) → Option (ByteArray × Bool × Int × Int × (List S79))) (k : Nat) (ret : ((List S79)) → Option R) (xs1 : List S72) : Option R :=
  if (0 : Int) ≤ (((List.length xs1) : Nat) : Int) then
    if (Int.toNat (((List.length xs1) : Nat) : Int)) * 64 ≤ maxN then
      (f116i.l3 g48 k k xs1 (0 : Int) (List.replicate (Int.toNat (((List.length xs1) : Nat) : Int)) (⟨ByteArray.empty, false, (0 : Int), (0 : Int), []⟩ : S79))).bind fun t6 => ret t6
    else none
  else none
def f116i (g48 : ByteArray → Bool → Int → Int → (List S72) → Option (ByteArray × Bool × Int × Int × (List S79))) (k : Nat) (xs1 : List S72) : Option ((List S79)) := f116i.step g48 k some xs1
def f116i.w {R : Type} : ((List S79)) → (Res env → Option R) → Option R := fun t8 K => K ⟨.v (.c (.own true 79 t8)), [[]]⟩
theorem f116i.wn (x : ((List S79))) : ∃ res, ∀ {R : Type} (K : Res env → Option R), f116i.w x K = K res := by
  exact ⟨_, fun _ => rfl⟩
def f116i.hd (g48 : ByteArray → Bool → Int → Int → (List S72) → Option (ByteArray × Bool × Int × Int × (List S79))) (k : Nat) (ps_ : List (P2 env)) : Cl env :=
  gC Cl.no ps_ fun p_ ps_ => qC Cl.no p_ fun c_ => qSl Cl.no 72 c_ fun xs1 => gE Cl.no ps_ <| { α := (List S79), o := f116i g48 k xs1, w := f116i.w, nat := fun x _ => f116i.wn x }
def f116i.e (g48 : ByteArray → Bool → Int → Int → (List S72) → Option (ByteArray × Bool × Int × Int × (List S79))) (k : Nat) : Entry env := ⟨fun ps => f116i.hd g48 k (coer [[.rd 72]] ps), [], []⟩
def f116i.X (g48 : ByteArray → Bool → Int → Int → (List S72) → Option (ByteArray × Bool × Int × Int × (List S79))) (k : Nat) : Ctx env := { C := lookE [(48, f48i.eG g48)], L := lookE [(3, fun S => f116i.l3.hd g48 k S.ts S.m S.n)], J := lookE [], keep := lookD [(3, [0, 3, 4])], keepX := lookD [(3, [3])], span := lookN [(3, 256)], eff := fun n => memN n [], prep := lookP [], np := 0 }
theorem f116i.l3.nat {R : Type} (g48 : ByteArray → Bool → Int → Int → (List S72) → Option (ByteArray × Bool × Int × Int × (List S79))) (k : Nat) (rec_ : (List S72) → Int → (List S79) → Option ((List S79))) (g : ((List S79)) → Option R) (xs2 : List S72) (a3 : Int) (xs4 : List S79) : (f116i.l3.step g48 k rec_ some xs2 a3 xs4).bind g = f116i.l3.step g48 k (fun xs2 a3 xs4 => (rec_ xs2 a3 xs4).bind g) g xs2 a3 xs4 := by
  simp only [f116i.l3.step, bind_ite, bind_sum, Option.bind_assoc, Option.bind_some, Option.bind_none]
theorem f116i.l3.good (g48 : ByteArray → Bool → Int → Int → (List S72) → Option (ByteArray × Bool × Int × Int × (List S79))) (k : Nat) (xs2 : List S72) (a3 : Int) (xs4 : List S79) : GoodL (f116i.X g48 k) (nthC 0 (loopsOf (bodyOf Try.f116))) (f116i.l3.st xs2 a3 xs4) { α := ((List S79)), o := f116i.l3 g48 k k xs2 a3 xs4, w := f116i.l3.w } :=
  loop_good (ι := (List S72) × Int × (List S79)) (α := ((List S79))) (fun i => f116i.l3.st i.1 i.2.1 i.2.2) (fun j i => f116i.l3 g48 k j i.1 i.2.1 i.2.2) f116i.l3.w (fun rec_ ret i => f116i.l3.step g48 k (fun xs2 a3 xs4 => rec_ (xs2, a3, xs4)) ret i.1 i.2.1 i.2.2)
    (fun _ => rfl) (fun _ _ => rfl) (fun rec_ g i => f116i.l3.nat g48 k _ g i.1 i.2.1 i.2.2) (fun {R} i0 i rec_ K => by kernel_rfl) k (xs2, a3, xs4)
theorem f116i.l3.all (g48 : ByteArray → Bool → Int → Int → (List S72) → Option (ByteArray × Bool × Int × Int × (List S79))) (k : Nat) (S : St env) : GoodL (f116i.X g48 k) (nthC 0 (loopsOf (bodyOf Try.f116))) S (f116i.l3.hd g48 k S.ts S.m S.n) := by
  obtain ⟨ts_, m_, n_⟩ := S
  show GoodL _ _ _ (f116i.l3.hd g48 k ts_ m_ n_)
  unfold f116i.l3.hd
  refine gTs_ok (p := GoodL _ _ _) goodL_no fun _ h => ?_
  subst h
  refine gV_ok (p := GoodL _ _ _) goodL_no fun _ _ h => ?_
  subst h
  refine rImm_ok (p := GoodL _ _ _) goodL_no fun _ h => ?_
  subst h
  refine gV_ok (p := GoodL _ _ _) goodL_no fun _ _ h => ?_
  subst h
  refine rRow_ok (p := GoodL _ _ _) goodL_no fun h => ?_
  subst h
  refine gV_ok (p := GoodL _ _ _) goodL_no fun _ _ h => ?_
  subst h
  refine rV_ok (p := GoodL _ _ _) goodL_no fun _ h => ?_
  subst h
  refine vI_ok (p := GoodL _ _ _) goodL_no fun _ h => ?_
  subst h
  refine gE_ok (p := GoodL _ _ _) goodL_no fun h => ?_
  subst h
  refine mRow_ok (p := GoodL _ _ _) goodL_no fun _ _ h => ?_
  subst h
  refine gE_ok (p := GoodL _ _ _) goodL_no fun h => ?_
  subst h
  refine gN_ok (p := GoodL _ _ _) goodL_no fun h => ?_
  subst h
  exact f116i.l3.good g48 k _ _ _
theorem f116i.nat {R : Type} (g48 : ByteArray → Bool → Int → Int → (List S72) → Option (ByteArray × Bool × Int × Int × (List S79))) (k : Nat) (g : ((List S79)) → Option R) (xs1 : List S72) : f116i.step g48 k g xs1 = (f116i g48 k xs1).bind g := by
  simp only [f116i, f116i.step, bind_ite, bind_sum, Option.bind_assoc, Option.bind_some, Option.bind_none]
theorem f116i.ev (g48 : ByteArray → Bool → Int → Int → (List S72) → Option (ByteArray × Bool × Int × Int × (List S79))) (k : Nat) (xs1 : List S72) : evF (f116i.X g48 k) (bodyOf Try.f116) Try.f116.ntmps Try.f116.results.toList [.v (.c (.sl 72 xs1))] = f116i.step g48 k (fun x => f116i.w x some) xs1 := by kernel_rfl
theorem f116i.hok (g48 : ByteArray → Bool → Int → Int → (List S72) → Option (ByteArray × Bool × Int × Int × (List S79))) (k : Nat) : HOK (f116i.X g48 k) (bodyOf Try.f116) where
  l := allP_mem (by exact ⟨ls_of (h0 := fun S => f116i.l3.hd g48 k S.ts S.m S.n) (by kernel_rfl) (f116i.l3.all g48 k), trivial⟩)
  j := allP_mem (by exact trivial)
theorem f116i.sound0 (g48 : ByteArray → Bool → Int → Int → (List S72) → Option (ByteArray × Bool × Int × Int × (List S79))) (hg_ : SoundC env Try.prog 48 (f48i.eG g48).F) (k : Nat) : SoundC env Try.prog 116 (f116i.hd g48 k) := by
  intro ps_
  show GoodC _ _ _ ps_ (f116i.hd g48 k ps_)
  unfold f116i.hd
  refine gC_ok (p := GoodC env Try.prog 116 _) goodC_no fun _ _ h => ?_
  subst h
  refine qC_ok (p := GoodC env Try.prog 116 _) goodC_no fun _ h => ?_
  subst h
  refine qSl_ok (p := GoodC env Try.prog 116 _) goodC_no fun _ h => ?_
  subst h
  refine gE_ok (p := GoodC env Try.prog 116 _) goodC_no fun h => ?_
  subst h
  exact fun_good (fun_sound envOK (cs_sound _ (by exact ⟨⟨hg_, f48.fnok⟩, trivial⟩)) (f116i.hok g48 k) Try.func116 rfl) ((f116i.ev g48 k _).trans (f116i.nat g48 k _ _))
theorem f116i.sound (g48 : ByteArray → Bool → Int → Int → (List S72) → Option (ByteArray × Bool × Int × Int × (List S79))) (hg_ : SoundC env Try.prog 48 (f48i.eG g48).F) (k : Nat) : SoundC env Try.prog 116 (f116i.e g48 k).F := soundC_coer (f116i.sound0 g48 hg_ k) [[.rd 72]]
theorem f116.fnok : FnOK Try.prog 116 := fn_ok Try.func116 (by kernel_rfl) rfl
def f48i.step {R : Type} (g48 : ByteArray → Bool → Int → Int → (List S72) → Option (ByteArray × Bool × Int × Int × (List S79))) (k : Nat) (ret : (ByteArray × Bool × Int × Int × (List S79)) → Option R) (s1 : ByteArray) (b2 : Bool) (a3 : Int) (a4 : Int) (xs5 : List S72) : Option R :=
  (f116i g48 k xs5).bind fun t6 => ret (s1, b2, a3, a4, t6)
def f48i (g48 : ByteArray → Bool → Int → Int → (List S72) → Option (ByteArray × Bool × Int × Int × (List S79))) (k : Nat) (s1 : ByteArray) (b2 : Bool) (a3 : Int) (a4 : Int) (xs5 : List S72) : Option (ByteArray × Bool × Int × Int × (List S79)) := f48i.step g48 k some s1 b2 a3 a4 xs5
def f48i.hd (g48 : ByteArray → Bool → Int → Int → (List S72) → Option (ByteArray × Bool × Int × Int × (List S79))) (k : Nat) (ps_ : List (P2 env)) : Cl env := f48i.hdG (f48i g48 k) ps_
def f48i.e (g48 : ByteArray → Bool → Int → Int → (List S72) → Option (ByteArray × Bool × Int × Int × (List S79))) (k : Nat) : Entry env := f48i.eG (f48i g48 k)
def f48i.X (g48 : ByteArray → Bool → Int → Int → (List S72) → Option (ByteArray × Bool × Int × Int × (List S79))) (k : Nat) : Ctx env := { C := lookE [(116, f116i.e g48 k)], L := lookE [], J := lookE [], keep := lookD [], keepX := lookD [], span := lookN [], eff := fun n => memN n [], prep := lookP [], np := 0 }
theorem f48i.nat {R : Type} (g48 : ByteArray → Bool → Int → Int → (List S72) → Option (ByteArray × Bool × Int × Int × (List S79))) (k : Nat) (g : (ByteArray × Bool × Int × Int × (List S79)) → Option R) (s1 : ByteArray) (b2 : Bool) (a3 : Int) (a4 : Int) (xs5 : List S72) : f48i.step g48 k g s1 b2 a3 a4 xs5 = (f48i g48 k s1 b2 a3 a4 xs5).bind g := by
  simp only [f48i, f48i.step, bind_ite, bind_sum, Option.bind_assoc, Option.bind_some, Option.bind_none]
theorem f48i.ev (g48 : ByteArray → Bool → Int → Int → (List S72) → Option (ByteArray × Bool × Int × Int × (List S79))) (k : Nat) (s1 : ByteArray) (b2 : Bool) (a3 : Int) (a4 : Int) (xs5 : List S72) : evF (f48i.X g48 k) (bodyOf Try.f48) Try.f48.ntmps Try.f48.results.toList [.g [.s (.string s1), .s (.bool b2), .s (.int .i64 a3), .s (.int .i64 a4), .sl 72 xs5]] = f48i.step g48 k (fun x => f48i.w x some) s1 b2 a3 a4 xs5 := by kernel_rfl
theorem f48i.hok (g48 : ByteArray → Bool → Int → Int → (List S72) → Option (ByteArray × Bool × Int × Int × (List S79))) (k : Nat) : HOK (f48i.X g48 k) (bodyOf Try.f48) where
  l := allP_mem (by exact trivial)
  j := allP_mem (by exact trivial)
theorem f48i.sound0 (g48 : ByteArray → Bool → Int → Int → (List S72) → Option (ByteArray × Bool × Int × Int × (List S79))) (hg_ : SoundC env Try.prog 48 (f48i.eG g48).F) (k : Nat) : SoundC env Try.prog 48 (f48i.hd g48 k) := by
  intro ps_
  show GoodC _ _ _ ps_ (f48i.hd g48 k ps_)
  unfold f48i.hd f48i.hdG
  refine gC_ok (p := GoodC env Try.prog 48 _) goodC_no fun _ _ h => ?_
  subst h
  refine qG_ok (p := GoodC env Try.prog 48 _) goodC_no fun _ h => ?_
  subst h
  refine gC_ok (p := GoodC env Try.prog 48 _) goodC_no fun _ _ h => ?_
  subst h
  refine qS_ok (p := GoodC env Try.prog 48 _) goodC_no fun _ h => ?_
  subst h
  refine vS_ok (p := GoodC env Try.prog 48 _) goodC_no fun _ h => ?_
  subst h
  refine gC_ok (p := GoodC env Try.prog 48 _) goodC_no fun _ _ h => ?_
  subst h
  refine qS_ok (p := GoodC env Try.prog 48 _) goodC_no fun _ h => ?_
  subst h
  refine vB_ok (p := GoodC env Try.prog 48 _) goodC_no fun _ h => ?_
  subst h
  refine gC_ok (p := GoodC env Try.prog 48 _) goodC_no fun _ _ h => ?_
  subst h
  refine qS_ok (p := GoodC env Try.prog 48 _) goodC_no fun _ h => ?_
  subst h
  refine vI_ok (p := GoodC env Try.prog 48 _) goodC_no fun _ h => ?_
  subst h
  refine gC_ok (p := GoodC env Try.prog 48 _) goodC_no fun _ _ h => ?_
  subst h
  refine qS_ok (p := GoodC env Try.prog 48 _) goodC_no fun _ h => ?_
  subst h
  refine vI_ok (p := GoodC env Try.prog 48 _) goodC_no fun _ h => ?_
  subst h
  refine gC_ok (p := GoodC env Try.prog 48 _) goodC_no fun _ _ h => ?_
  subst h
  refine qSl_ok (p := GoodC env Try.prog 48 _) goodC_no fun _ h => ?_
  subst h
  refine gE_ok (p := GoodC env Try.prog 48 _) goodC_no fun h => ?_
  subst h
  refine gE_ok (p := GoodC env Try.prog 48 _) goodC_no fun h => ?_
  subst h
  exact fun_good (fun_sound envOK (cs_sound _ (by exact ⟨⟨f116i.sound g48 hg_ k, f116.fnok⟩, trivial⟩)) (f48i.hok g48 k) Try.func48 rfl) ((f48i.ev g48 k _ _ _ _ _).trans (f48i.nat g48 k _ _ _ _ _ _))
theorem f48i.sound (g48 : ByteArray → Bool → Int → Int → (List S72) → Option (ByteArray × Bool × Int × Int × (List S79))) (hg_ : SoundC env Try.prog 48 (f48i.eG g48).F) (k : Nat) : SoundC env Try.prog 48 (f48i.e g48 k).F := soundC_coer (f48i.sound0 g48 hg_ k) [[.no, .no, .no, .no, .rd 72]]
def f48i.r (k : Nat) : Nat → ByteArray → Bool → Int → Int → (List S72) → Option (ByteArray × Bool × Int × Int × (List S79))
  | 0 => fun _ _ _ _ _ => none
  | j + 1 => fun s1 b2 a3 a4 xs5 => f48i (f48i.r k j) k s1 b2 a3 a4 xs5
theorem f48i.all_ (k : Nat) : ∀ j, SoundC env Try.prog 48 (f48i.eG (f48i.r k j)).F
  | 0 => f48i.none_
  | j + 1 => f48i.sound (f48i.r k j) (f48i.all_ k j) k
def f48 (k : Nat) (s1 : ByteArray) (b2 : Bool) (a3 : Int) (a4 : Int) (xs5 : List S72) : Option (ByteArray × Bool × Int × Int × (List S79)) := f48i.r k k s1 b2 a3 a4 xs5
def f48.e (k : Nat) : Entry env := f48i.eG (f48 k)
theorem f48.sound (k : Nat) : SoundC env Try.prog 48 (f48.e k).F := f48i.all_ k k
def f116 (k : Nat) (xs1 : List S72) : Option ((List S79)) := f116i (f48 k) k xs1
def f116.e (k : Nat) : Entry env := f116i.e (f48 k) k
theorem f116.sound (k : Nat) : SoundC env Try.prog 116 (f116.e k).F := f116i.sound (f48 k) (f48.sound k) k
def f204.l4.step {R : Type} (k : Nat) (rec_ : ByteArray → Int → Option R) (ret : (Bool ⊕ (Unit)) → Option R) (s2 : ByteArray) (a3 : Int) : Option R :=
  if (decide (a3 < (((ByteArray.size s2) : Nat) : Int))) = true then
    if (0 : Int) ≤ a3 then
      if a3 < ((ByteArray.size s2 : Nat) : Int) then
        if (decide ((bt s2 a3) ≠ (48 : Int))) = true then
          if (0 : Int) ≤ a3 then
            if a3 < ((ByteArray.size s2 : Nat) : Int) then
              if (decide ((bt s2 a3) ≠ (49 : Int))) = true then
                ret (.inl false)
              else
                rec_ s2 (IntKind.i64.wrap (a3 + (1 : Int)))
            else none
          else none
        else
          rec_ s2 (IntKind.i64.wrap (a3 + (1 : Int)))
      else none
    else none
  else
    ret (.inr ())
def f204.l4 (k : Nat) : Nat → ByteArray → Int → Option (Bool ⊕ (Unit))
  | 0, _, _ => none
  | j + 1, s2, a3 => f204.l4.step k (fun s2 a3 => f204.l4 k j s2 a3) some s2 a3
def f204.l4.w {R : Type} : (Bool ⊕ (Unit)) → (Exit → St env → Option R) → Option R := fun x K => Sum.elim (fun t6 => K .ret ⟨fullT [2] 0 23 [.v (.c (.s (.bool t6)))], [], 369⟩) (fun t7 => K (.exit 0) ⟨fullT [] 0 23 [], [], 369⟩) x
def f204.l4.st (s2 : ByteArray) (a3 : Int) : St env := ⟨fullT [0, 3] 0 23 [.v (.c (.s (.string s2))), .v (.c (.s (.int .i64 a3)))], [], 81⟩
def f204.l4.hd (k : Nat) (ts_ : List (AV env)) (mm_ : Mem env) (n_ : Nat) : LCl env :=
  gTs LCl.no [0, 3] 23 ts_ fun l_ => gV LCl.no l_ fun a_ l_ => rV LCl.no a_ fun v_ => vS LCl.no v_ fun s2 => gV LCl.no l_ fun a_ l_ => rV LCl.no a_ fun v_ => vI LCl.no .i64 v_ fun a3 => gE LCl.no l_ <| gE LCl.no mm_ <| gN LCl.no 81 n_ { α := Bool ⊕ (Unit), o := f204.l4 k k s2 a3, w := f204.l4.w }
def f204.step {R : Type} (k : Nat) (ret : Bool → Option R) (s1 : ByteArray) : Option R :=
  if (decide ((((ByteArray.size s1) : Nat) : Int) > (128 : Int))) = true then
    ret false
  else
    (f204.l4 k k s1 (0 : Int)).bind (Sum.elim (fun t4 => ret t4) (fun t5 => ret true))
def f204 (k : Nat) (s1 : ByteArray) : Option Bool := f204.step k some s1
def f204.w {R : Type} : Bool → (Res env → Option R) → Option R := fun t8 K => K ⟨.v (.c (.s (.bool t8))), [[]]⟩
theorem f204.wn (x : Bool) : ∃ res, ∀ {R : Type} (K : Res env → Option R), f204.w x K = K res := by
  exact ⟨_, fun _ => rfl⟩
def f204.hd (k : Nat) (ps_ : List (P2 env)) : Cl env :=
  gC Cl.no ps_ fun p_ ps_ => qC Cl.no p_ fun c_ => qS Cl.no c_ fun v_ => vS Cl.no v_ fun s1 => gE Cl.no ps_ <| { α := Bool, o := f204 k s1, w := f204.w, nat := fun x _ => f204.wn x }
def f204.e (k : Nat) : Entry env := ⟨f204.hd k, [], []⟩
def f204.X (k : Nat) : Ctx env := { C := lookE [], L := lookE [(4, fun S => f204.l4.hd k S.ts S.m S.n)], J := lookE [], keep := lookD [(4, [0, 3])], keepX := lookD [(4, [2])], span := lookN [(4, 288)], eff := fun n => memN n [], prep := lookP [], np := 0 }
theorem f204.l4.nat {R : Type} (k : Nat) (rec_ : ByteArray → Int → Option (Bool ⊕ (Unit))) (g : (Bool ⊕ (Unit)) → Option R) (s2 : ByteArray) (a3 : Int) : (f204.l4.step k rec_ some s2 a3).bind g = f204.l4.step k (fun s2 a3 => (rec_ s2 a3).bind g) g s2 a3 := by
  simp only [f204.l4.step, bind_ite, bind_sum, Option.bind_assoc, Option.bind_some, Option.bind_none]
theorem f204.l4.good (k : Nat) (s2 : ByteArray) (a3 : Int) : GoodL (f204.X k) (nthC 0 (loopsOf (bodyOf Try.f204))) (f204.l4.st s2 a3) { α := (Bool ⊕ (Unit)), o := f204.l4 k k s2 a3, w := f204.l4.w } :=
  loop_good (ι := ByteArray × Int) (α := (Bool ⊕ (Unit))) (fun i => f204.l4.st i.1 i.2) (fun j i => f204.l4 k j i.1 i.2) f204.l4.w (fun rec_ ret i => f204.l4.step k (fun s2 a3 => rec_ (s2, a3)) ret i.1 i.2)
    (fun _ => rfl) (fun _ _ => rfl) (fun rec_ g i => f204.l4.nat k _ g i.1 i.2) (fun {R} i0 i rec_ K => by kernel_rfl) k (s2, a3)
theorem f204.l4.all (k : Nat) (S : St env) : GoodL (f204.X k) (nthC 0 (loopsOf (bodyOf Try.f204))) S (f204.l4.hd k S.ts S.m S.n) := by
  obtain ⟨ts_, m_, n_⟩ := S
  show GoodL _ _ _ (f204.l4.hd k ts_ m_ n_)
  unfold f204.l4.hd
  refine gTs_ok (p := GoodL _ _ _) goodL_no fun _ h => ?_
  subst h
  refine gV_ok (p := GoodL _ _ _) goodL_no fun _ _ h => ?_
  subst h
  refine rV_ok (p := GoodL _ _ _) goodL_no fun _ h => ?_
  subst h
  refine vS_ok (p := GoodL _ _ _) goodL_no fun _ h => ?_
  subst h
  refine gV_ok (p := GoodL _ _ _) goodL_no fun _ _ h => ?_
  subst h
  refine rV_ok (p := GoodL _ _ _) goodL_no fun _ h => ?_
  subst h
  refine vI_ok (p := GoodL _ _ _) goodL_no fun _ h => ?_
  subst h
  refine gE_ok (p := GoodL _ _ _) goodL_no fun h => ?_
  subst h
  refine gE_ok (p := GoodL _ _ _) goodL_no fun h => ?_
  subst h
  refine gN_ok (p := GoodL _ _ _) goodL_no fun h => ?_
  subst h
  exact f204.l4.good k _ _
theorem f204.nat {R : Type} (k : Nat) (g : Bool → Option R) (s1 : ByteArray) : f204.step k g s1 = (f204 k s1).bind g := by
  simp only [f204, f204.step, bind_ite, bind_sum, Option.bind_assoc, Option.bind_some, Option.bind_none]
theorem f204.ev (k : Nat) (s1 : ByteArray) : evF (f204.X k) (bodyOf Try.f204) Try.f204.ntmps Try.f204.results.toList [.v (.c (.s (.string s1)))] = f204.step k (fun x => f204.w x some) s1 := by kernel_rfl
theorem f204.hok (k : Nat) : HOK (f204.X k) (bodyOf Try.f204) where
  l := allP_mem (by exact ⟨ls_of (h0 := fun S => f204.l4.hd k S.ts S.m S.n) (by kernel_rfl) (f204.l4.all k), trivial⟩)
  j := allP_mem (by exact trivial)
theorem f204.sound (k : Nat) : SoundC env Try.prog 204 ((f204.e k).F) := by
  intro ps_
  show GoodC _ _ _ ps_ (f204.hd k ps_)
  unfold f204.hd
  refine gC_ok (p := GoodC env Try.prog 204 _) goodC_no fun _ _ h => ?_
  subst h
  refine qC_ok (p := GoodC env Try.prog 204 _) goodC_no fun _ h => ?_
  subst h
  refine qS_ok (p := GoodC env Try.prog 204 _) goodC_no fun _ h => ?_
  subst h
  refine vS_ok (p := GoodC env Try.prog 204 _) goodC_no fun _ h => ?_
  subst h
  refine gE_ok (p := GoodC env Try.prog 204 _) goodC_no fun h => ?_
  subst h
  exact fun_good (fun_sound envOK (cs_sound _ (by exact trivial)) (f204.hok k) Try.func204 rfl) ((f204.ev k _).trans (f204.nat k _ _))
theorem f204.says (k : Nat) (s1 : ByteArray) (t9 : Bool) (h_ : f204 k s1 = some t9) : SoundAt env Try.prog 204 [.v (.c (.s (.string s1)))] ⟨.v (.c (.s (.bool t9))), [[]]⟩ :=
  fun_sound envOK (cs_sound _ (by exact trivial)) (f204.hok k) Try.func204 rfl _ _ (((f204.ev k s1).trans (f204.nat k _ s1)).trans (by rw [h_]; rfl))
theorem f204.fnok : FnOK Try.prog 204 := fn_ok Try.func204 (by kernel_rfl) rfl
def f86.step {R : Type} (k : Nat) (ret : Bool → Option R) (a1 : Int) (a2 : Int) (a3 : Int) : Option R :=
  if (decide (a1 ≥ a2)) = true then
    ret (decide (a1 ≤ a3))
  else
    ret false
def f86 (k : Nat) (a1 : Int) (a2 : Int) (a3 : Int) : Option Bool := f86.step k some a1 a2 a3
def f86.w {R : Type} : Bool → (Res env → Option R) → Option R := fun t4 K => K ⟨.v (.c (.s (.bool t4))), [[], [], []]⟩
theorem f86.wn (x : Bool) : ∃ res, ∀ {R : Type} (K : Res env → Option R), f86.w x K = K res := by
  exact ⟨_, fun _ => rfl⟩
def f86.hd (k : Nat) (ps_ : List (P2 env)) : Cl env :=
  gC Cl.no ps_ fun p_ ps_ => qC Cl.no p_ fun c_ => qS Cl.no c_ fun v_ => vI Cl.no .i64 v_ fun a1 => gC Cl.no ps_ fun p_ ps_ => qC Cl.no p_ fun c_ => qS Cl.no c_ fun v_ => vI Cl.no .i64 v_ fun a2 => gC Cl.no ps_ fun p_ ps_ => qC Cl.no p_ fun c_ => qS Cl.no c_ fun v_ => vI Cl.no .i64 v_ fun a3 => gE Cl.no ps_ <| { α := Bool, o := f86 k a1 a2 a3, w := f86.w, nat := fun x _ => f86.wn x }
def f86.e (k : Nat) : Entry env := ⟨f86.hd k, [], []⟩
def f86.X (k : Nat) : Ctx env := { C := lookE [], L := lookE [], J := lookE [], keep := lookD [], keepX := lookD [], span := lookN [], eff := fun n => memN n [], prep := lookP [], np := 0 }
theorem f86.nat {R : Type} (k : Nat) (g : Bool → Option R) (a1 : Int) (a2 : Int) (a3 : Int) : f86.step k g a1 a2 a3 = (f86 k a1 a2 a3).bind g := by
  simp only [f86, f86.step, bind_ite, bind_sum, Option.bind_assoc, Option.bind_some, Option.bind_none]
theorem f86.ev (k : Nat) (a1 : Int) (a2 : Int) (a3 : Int) : evF (f86.X k) (bodyOf Try.f86) Try.f86.ntmps Try.f86.results.toList [.v (.c (.s (.int .i64 a1))), .v (.c (.s (.int .i64 a2))), .v (.c (.s (.int .i64 a3)))] = f86.step k (fun x => f86.w x some) a1 a2 a3 := by kernel_rfl
theorem f86.hok (k : Nat) : HOK (f86.X k) (bodyOf Try.f86) where
  l := allP_mem (by exact trivial)
  j := allP_mem (by exact trivial)
theorem f86.sound (k : Nat) : SoundC env Try.prog 86 ((f86.e k).F) := by
  intro ps_
  show GoodC _ _ _ ps_ (f86.hd k ps_)
  unfold f86.hd
  refine gC_ok (p := GoodC env Try.prog 86 _) goodC_no fun _ _ h => ?_
  subst h
  refine qC_ok (p := GoodC env Try.prog 86 _) goodC_no fun _ h => ?_
  subst h
  refine qS_ok (p := GoodC env Try.prog 86 _) goodC_no fun _ h => ?_
  subst h
  refine vI_ok (p := GoodC env Try.prog 86 _) goodC_no fun _ h => ?_
  subst h
  refine gC_ok (p := GoodC env Try.prog 86 _) goodC_no fun _ _ h => ?_
  subst h
  refine qC_ok (p := GoodC env Try.prog 86 _) goodC_no fun _ h => ?_
  subst h
  refine qS_ok (p := GoodC env Try.prog 86 _) goodC_no fun _ h => ?_
  subst h
  refine vI_ok (p := GoodC env Try.prog 86 _) goodC_no fun _ h => ?_
  subst h
  refine gC_ok (p := GoodC env Try.prog 86 _) goodC_no fun _ _ h => ?_
  subst h
  refine qC_ok (p := GoodC env Try.prog 86 _) goodC_no fun _ h => ?_
  subst h
  refine qS_ok (p := GoodC env Try.prog 86 _) goodC_no fun _ h => ?_
  subst h
  refine vI_ok (p := GoodC env Try.prog 86 _) goodC_no fun _ h => ?_
  subst h
  refine gE_ok (p := GoodC env Try.prog 86 _) goodC_no fun h => ?_
  subst h
  exact fun_good (fun_sound envOK (cs_sound _ (by exact trivial)) (f86.hok k) Try.func86 rfl) ((f86.ev k _ _ _).trans (f86.nat k _ _ _ _))
theorem f86.says (k : Nat) (a1 : Int) (a2 : Int) (a3 : Int) (t5 : Bool) (h_ : f86 k a1 a2 a3 = some t5) : SoundAt env Try.prog 86 [.v (.c (.s (.int .i64 a1))), .v (.c (.s (.int .i64 a2))), .v (.c (.s (.int .i64 a3)))] ⟨.v (.c (.s (.bool t5))), [[], [], []]⟩ :=
  fun_sound envOK (cs_sound _ (by exact trivial)) (f86.hok k) Try.func86 rfl _ _ (((f86.ev k a1 a2 a3).trans (f86.nat k _ a1 a2 a3)).trans (by rw [h_]; rfl))
theorem f86.fnok : FnOK Try.prog 86 := fn_ok Try.func86 (by kernel_rfl) rfl
def f188.step {R : Type} (k : Nat) (ret : Bool → Option R) (s1 : ByteArray) (a2 : Int) (a3 : Int) : Option R :=
  (f204 k s1).bind fun t4 => if t4 = true then
      (f86 k a2 (0 : Int) (99 : Int)).bind fun t5 => if t5 = true then
          (f86 k a3 (0 : Int) (16 : Int)).bind fun t6 => ret t6
        else
          ret false
    else
      ret false
def f188 (k : Nat) (s1 : ByteArray) (a2 : Int) (a3 : Int) : Option Bool := f188.step k some s1 a2 a3
def f188.w {R : Type} : Bool → (Res env → Option R) → Option R := fun t7 K => K ⟨.v (.c (.s (.bool t7))), [[]]⟩
theorem f188.wn (x : Bool) : ∃ res, ∀ {R : Type} (K : Res env → Option R), f188.w x K = K res := by
  exact ⟨_, fun _ => rfl⟩
def f188.hd (k : Nat) (ps_ : List (P2 env)) : Cl env :=
  gC Cl.no ps_ fun p_ ps_ => qG Cl.no p_ fun cs_ => gC Cl.no cs_ fun c_ cs_ => qS Cl.no c_ fun v_ => vS Cl.no v_ fun s1 => gC Cl.no cs_ fun c_ cs_ => qS Cl.no c_ fun v_ => vI Cl.no .i64 v_ fun a2 => gC Cl.no cs_ fun c_ cs_ => qS Cl.no c_ fun v_ => vI Cl.no .i64 v_ fun a3 => gE Cl.no cs_ <| gE Cl.no ps_ <| { α := Bool, o := f188 k s1 a2 a3, w := f188.w, nat := fun x _ => f188.wn x }
def f188.e (k : Nat) : Entry env := ⟨f188.hd k, [], []⟩
def f188.X (k : Nat) : Ctx env := { C := lookE [(86, f86.e k), (204, f204.e k)], L := lookE [], J := lookE [], keep := lookD [], keepX := lookD [], span := lookN [], eff := fun n => memN n [], prep := lookP [], np := 0 }
theorem f188.nat {R : Type} (k : Nat) (g : Bool → Option R) (s1 : ByteArray) (a2 : Int) (a3 : Int) : f188.step k g s1 a2 a3 = (f188 k s1 a2 a3).bind g := by
  simp only [f188, f188.step, bind_ite, bind_sum, Option.bind_assoc, Option.bind_some, Option.bind_none]
theorem f188.ev (k : Nat) (s1 : ByteArray) (a2 : Int) (a3 : Int) : evF (f188.X k) (bodyOf Try.f188) Try.f188.ntmps Try.f188.results.toList [.g [.s (.string s1), .s (.int .i64 a2), .s (.int .i64 a3)]] = f188.step k (fun x => f188.w x some) s1 a2 a3 := by kernel_rfl
theorem f188.hok (k : Nat) : HOK (f188.X k) (bodyOf Try.f188) where
  l := allP_mem (by exact trivial)
  j := allP_mem (by exact trivial)
theorem f188.sound (k : Nat) : SoundC env Try.prog 188 ((f188.e k).F) := by
  intro ps_
  show GoodC _ _ _ ps_ (f188.hd k ps_)
  unfold f188.hd
  refine gC_ok (p := GoodC env Try.prog 188 _) goodC_no fun _ _ h => ?_
  subst h
  refine qG_ok (p := GoodC env Try.prog 188 _) goodC_no fun _ h => ?_
  subst h
  refine gC_ok (p := GoodC env Try.prog 188 _) goodC_no fun _ _ h => ?_
  subst h
  refine qS_ok (p := GoodC env Try.prog 188 _) goodC_no fun _ h => ?_
  subst h
  refine vS_ok (p := GoodC env Try.prog 188 _) goodC_no fun _ h => ?_
  subst h
  refine gC_ok (p := GoodC env Try.prog 188 _) goodC_no fun _ _ h => ?_
  subst h
  refine qS_ok (p := GoodC env Try.prog 188 _) goodC_no fun _ h => ?_
  subst h
  refine vI_ok (p := GoodC env Try.prog 188 _) goodC_no fun _ h => ?_
  subst h
  refine gC_ok (p := GoodC env Try.prog 188 _) goodC_no fun _ _ h => ?_
  subst h
  refine qS_ok (p := GoodC env Try.prog 188 _) goodC_no fun _ h => ?_
  subst h
  refine vI_ok (p := GoodC env Try.prog 188 _) goodC_no fun _ h => ?_
  subst h
  refine gE_ok (p := GoodC env Try.prog 188 _) goodC_no fun h => ?_
  subst h
  refine gE_ok (p := GoodC env Try.prog 188 _) goodC_no fun h => ?_
  subst h
  exact fun_good (fun_sound envOK (cs_sound _ (by exact ⟨⟨f86.sound k, f86.fnok⟩, ⟨f204.sound k, f204.fnok⟩, trivial⟩)) (f188.hok k) Try.func188 rfl) ((f188.ev k _ _ _).trans (f188.nat k _ _ _ _))
theorem f188.says (k : Nat) (s1 : ByteArray) (a2 : Int) (a3 : Int) (t8 : Bool) (h_ : f188 k s1 a2 a3 = some t8) : SoundAt env Try.prog 188 [.g [.s (.string s1), .s (.int .i64 a2), .s (.int .i64 a3)]] ⟨.v (.c (.s (.bool t8))), [[]]⟩ :=
  fun_sound envOK (cs_sound _ (by exact ⟨⟨f86.sound k, f86.fnok⟩, ⟨f204.sound k, f204.fnok⟩, trivial⟩)) (f188.hok k) Try.func188 rfl _ _ (((f188.ev k s1 a2 a3).trans (f188.nat k _ s1 a2 a3)).trans (by rw [h_]; rfl))
theorem f188.fnok : FnOK Try.prog 188 := fn_ok Try.func188 (by kernel_rfl) rfl
def f189.step {R : Type} (k : Nat) (ret : Bool → Option R) (s1 : ByteArray) (s2 : ByteArray) : Option R :=
  if (decide ((((ByteArray.size s1) : Nat) : Int) ≥ (((ByteArray.size s2) : Nat) : Int))) = true then
    if (0 : Int) ≤ (((ByteArray.size s2) : Nat) : Int) then
      if (((ByteArray.size s2) : Nat) : Int) ≤ ((ByteArray.size s1 : Nat) : Int) then
        ret (decide (ByteArray.toList (ByteArray.extract s1 0 (Int.toNat (((ByteArray.size s2) : Nat) : Int))) = ByteArray.toList s2))
      else none
    else none
  else
    ret false
def f189 (k : Nat) (s1 : ByteArray) (s2 : ByteArray) : Option Bool := f189.step k some s1 s2
def f189.w {R : Type} : Bool → (Res env → Option R) → Option R := fun t3 K => K ⟨.v (.c (.s (.bool t3))), [[], []]⟩
theorem f189.wn (x : Bool) : ∃ res, ∀ {R : Type} (K : Res env → Option R), f189.w x K = K res := by
  exact ⟨_, fun _ => rfl⟩
def f189.hd (k : Nat) (ps_ : List (P2 env)) : Cl env :=
  gC Cl.no ps_ fun p_ ps_ => qC Cl.no p_ fun c_ => qS Cl.no c_ fun v_ => vS Cl.no v_ fun s1 => gC Cl.no ps_ fun p_ ps_ => qC Cl.no p_ fun c_ => qS Cl.no c_ fun v_ => vS Cl.no v_ fun s2 => gE Cl.no ps_ <| { α := Bool, o := f189 k s1 s2, w := f189.w, nat := fun x _ => f189.wn x }
def f189.e (k : Nat) : Entry env := ⟨f189.hd k, [], []⟩
def f189.X (k : Nat) : Ctx env := { C := lookE [], L := lookE [], J := lookE [], keep := lookD [], keepX := lookD [], span := lookN [], eff := fun n => memN n [], prep := lookP [], np := 0 }
theorem f189.nat {R : Type} (k : Nat) (g : Bool → Option R) (s1 : ByteArray) (s2 : ByteArray) : f189.step k g s1 s2 = (f189 k s1 s2).bind g := by
  simp only [f189, f189.step, bind_ite, bind_sum, Option.bind_assoc, Option.bind_some, Option.bind_none]
theorem f189.ev (k : Nat) (s1 : ByteArray) (s2 : ByteArray) : evF (f189.X k) (bodyOf Try.f189) Try.f189.ntmps Try.f189.results.toList [.v (.c (.s (.string s1))), .v (.c (.s (.string s2)))] = f189.step k (fun x => f189.w x some) s1 s2 := by kernel_rfl
theorem f189.hok (k : Nat) : HOK (f189.X k) (bodyOf Try.f189) where
  l := allP_mem (by exact trivial)
  j := allP_mem (by exact trivial)
theorem f189.sound (k : Nat) : SoundC env Try.prog 189 ((f189.e k).F) := by
  intro ps_
  show GoodC _ _ _ ps_ (f189.hd k ps_)
  unfold f189.hd
  refine gC_ok (p := GoodC env Try.prog 189 _) goodC_no fun _ _ h => ?_
  subst h
  refine qC_ok (p := GoodC env Try.prog 189 _) goodC_no fun _ h => ?_
  subst h
  refine qS_ok (p := GoodC env Try.prog 189 _) goodC_no fun _ h => ?_
  subst h
  refine vS_ok (p := GoodC env Try.prog 189 _) goodC_no fun _ h => ?_
  subst h
  refine gC_ok (p := GoodC env Try.prog 189 _) goodC_no fun _ _ h => ?_
  subst h
  refine qC_ok (p := GoodC env Try.prog 189 _) goodC_no fun _ h => ?_
  subst h
  refine qS_ok (p := GoodC env Try.prog 189 _) goodC_no fun _ h => ?_
  subst h
  refine vS_ok (p := GoodC env Try.prog 189 _) goodC_no fun _ h => ?_
  subst h
  refine gE_ok (p := GoodC env Try.prog 189 _) goodC_no fun h => ?_
  subst h
  exact fun_good (fun_sound envOK (cs_sound _ (by exact trivial)) (f189.hok k) Try.func189 rfl) ((f189.ev k _ _).trans (f189.nat k _ _ _))
theorem f189.says (k : Nat) (s1 : ByteArray) (s2 : ByteArray) (t4 : Bool) (h_ : f189 k s1 s2 = some t4) : SoundAt env Try.prog 189 [.v (.c (.s (.string s1))), .v (.c (.s (.string s2)))] ⟨.v (.c (.s (.bool t4))), [[], []]⟩ :=
  fun_sound envOK (cs_sound _ (by exact trivial)) (f189.hok k) Try.func189 rfl _ _ (((f189.ev k s1 s2).trans (f189.nat k _ s1 s2)).trans (by rw [h_]; rfl))
theorem f189.fnok : FnOK Try.prog 189 := fn_ok Try.func189 (by kernel_rfl) rfl
def f161i.w {R : Type} : Bool → (Res env → Option R) → Option R := fun t45 K => K ⟨.v (.c (.s (.bool t45))), [[], [], []]⟩
theorem f161i.wn (x : Bool) : ∃ res, ∀ {R : Type} (K : Res env → Option R), f161i.w x K = K res := by
  exact ⟨_, fun _ => rfl⟩
def f161i.hdG (G_ : ByteArray → Bool → Int → Int → (List S79) → Bool → Int → Option Bool) (ps_ : List (P2 env)) : Cl env :=
  gC Cl.no ps_ fun p_ ps_ => qG Cl.no p_ fun cs_ => gC Cl.no cs_ fun c_ cs_ => qS Cl.no c_ fun v_ => vS Cl.no v_ fun s1 => gC Cl.no cs_ fun c_ cs_ => qS Cl.no c_ fun v_ => vB Cl.no v_ fun b2 => gC Cl.no cs_ fun c_ cs_ => qS Cl.no c_ fun v_ => vI Cl.no .i64 v_ fun a3 => gC Cl.no cs_ fun c_ cs_ => qS Cl.no c_ fun v_ => vI Cl.no .i64 v_ fun a4 => gC Cl.no cs_ fun c_ cs_ => qSl Cl.no 79 c_ fun xs5 => gE Cl.no cs_ <| gC Cl.no ps_ fun p_ ps_ => qC Cl.no p_ fun c_ => qS Cl.no c_ fun v_ => vB Cl.no v_ fun b6 => gC Cl.no ps_ fun p_ ps_ => qC Cl.no p_ fun c_ => qS Cl.no c_ fun v_ => vI Cl.no .i64 v_ fun a7 => gE Cl.no ps_ <| { α := Bool, o := G_ s1 b2 a3 a4 xs5 b6 a7, w := f161i.w, nat := fun x _ => f161i.wn x }
def f161i.eG (G_ : ByteArray → Bool → Int → Int → (List S79) → Bool → Int → Option Bool) : Entry env := ⟨fun ps => f161i.hdG G_ (coer [[.no, .no, .no, .no, .rd 79], [.no], [.no]] ps), [], []⟩
theorem f161i.none_ : SoundC env Try.prog 161 (f161i.eG (fun _ _ _ _ _ _ _ => none)).F := by
  refine soundC_coer (F := f161i.hdG (fun _ _ _ _ _ _ _ => none)) ?_ [[.no, .no, .no, .no, .rd 79], [.no], [.no]]
  intro ps_
  show GoodC _ _ _ ps_ (f161i.hdG (fun _ _ _ _ _ _ _ => none) ps_)
  unfold f161i.hdG
  refine gC_ok (p := GoodC env Try.prog 161 _) goodC_no fun _ _ h => ?_
  subst h
  refine qG_ok (p := GoodC env Try.prog 161 _) goodC_no fun _ h => ?_
  subst h
  refine gC_ok (p := GoodC env Try.prog 161 _) goodC_no fun _ _ h => ?_
  subst h
  refine qS_ok (p := GoodC env Try.prog 161 _) goodC_no fun _ h => ?_
  subst h
  refine vS_ok (p := GoodC env Try.prog 161 _) goodC_no fun _ h => ?_
  subst h
  refine gC_ok (p := GoodC env Try.prog 161 _) goodC_no fun _ _ h => ?_
  subst h
  refine qS_ok (p := GoodC env Try.prog 161 _) goodC_no fun _ h => ?_
  subst h
  refine vB_ok (p := GoodC env Try.prog 161 _) goodC_no fun _ h => ?_
  subst h
  refine gC_ok (p := GoodC env Try.prog 161 _) goodC_no fun _ _ h => ?_
  subst h
  refine qS_ok (p := GoodC env Try.prog 161 _) goodC_no fun _ h => ?_
  subst h
  refine vI_ok (p := GoodC env Try.prog 161 _) goodC_no fun _ h => ?_
  subst h
  refine gC_ok (p := GoodC env Try.prog 161 _) goodC_no fun _ _ h => ?_
  subst h
  refine qS_ok (p := GoodC env Try.prog 161 _) goodC_no fun _ h => ?_
  subst h
  refine vI_ok (p := GoodC env Try.prog 161 _) goodC_no fun _ h => ?_
  subst h
  refine gC_ok (p := GoodC env Try.prog 161 _) goodC_no fun _ _ h => ?_
  subst h
  refine qSl_ok (p := GoodC env Try.prog 161 _) goodC_no fun _ h => ?_
  subst h
  refine gE_ok (p := GoodC env Try.prog 161 _) goodC_no fun h => ?_
  subst h
  refine gC_ok (p := GoodC env Try.prog 161 _) goodC_no fun _ _ h => ?_
  subst h
  refine qC_ok (p := GoodC env Try.prog 161 _) goodC_no fun _ h => ?_
  subst h
  refine qS_ok (p := GoodC env Try.prog 161 _) goodC_no fun _ h => ?_
  subst h
  refine vB_ok (p := GoodC env Try.prog 161 _) goodC_no fun _ h => ?_
  subst h
  refine gC_ok (p := GoodC env Try.prog 161 _) goodC_no fun _ _ h => ?_
  subst h
  refine qC_ok (p := GoodC env Try.prog 161 _) goodC_no fun _ h => ?_
  subst h
  refine qS_ok (p := GoodC env Try.prog 161 _) goodC_no fun _ h => ?_
  subst h
  refine vI_ok (p := GoodC env Try.prog 161 _) goodC_no fun _ h => ?_
  subst h
  refine gE_ok (p := GoodC env Try.prog 161 _) goodC_no fun h => ?_
  subst h
  intro x h; cases h
theorem f161.fnok : FnOK Try.prog 161 := fn_ok Try.func161 (by kernel_rfl) rfl
def f161i.l4.step {R : Type} (g161 : ByteArray → Bool → Int → Int → (List S79) → Bool → Int → Option Bool) (k : Nat) (rec_ : Int → Int → ByteArray → Bool → Int → Int → (List S79) → Option R) (ret : (Bool ⊕ (Unit)) → Option R) (a9 : Int) (a10 : Int) (s11 : ByteArray) (b12 : Bool) (a13 : Int) (a14 : Int) (xs15 : List S79) : Option R :=
  if (decide (a10 < (((List.length xs15) : Nat) : Int))) = true then
    if (0 : Int) ≤ a10 then
      if a10 < ((List.length xs15 : Nat) : Int) then
        (f189 k (List.getD xs15 (Int.toNat a10) (⟨ByteArray.empty, false, (0 : Int), (0 : Int), []⟩ : S79)).f0 s11).bind fun t16 => if (!t16) = false then
            if (decide ((((ByteArray.size (List.getD xs15 (Int.toNat a10) (⟨ByteArray.empty, false, (0 : Int), (0 : Int), []⟩ : S79)).f0) : Nat) : Int) = (((ByteArray.size s11) : Nat) : Int))) = false then
              if (decide (a10 = (1 : Int))) = true then
                if (0 : Int) < ((List.length xs15 : Nat) : Int) then
                  if (0 : Int) ≤ (((ByteArray.size s11) : Nat) : Int) then
                    if (((ByteArray.size s11) : Nat) : Int) < ((ByteArray.size (List.getD xs15 0 (⟨ByteArray.empty, false, (0 : Int), (0 : Int), []⟩ : S79)).f0 : Nat) : Int) then
                      if (0 : Int) ≤ (((ByteArray.size s11) : Nat) : Int) then
                        if (((ByteArray.size s11) : Nat) : Int) < ((ByteArray.size (List.getD xs15 (Int.toNat a10) (⟨ByteArray.empty, false, (0 : Int), (0 : Int), []⟩ : S79)).f0 : Nat) : Int) then
                          if (decide ((bt (List.getD xs15 0 (⟨ByteArray.empty, false, (0 : Int), (0 : Int), []⟩ : S79)).f0 (((ByteArray.size s11) : Nat) : Int)) ≥ (bt (List.getD xs15 (Int.toNat a10) (⟨ByteArray.empty, false, (0 : Int), (0 : Int), []⟩ : S79)).f0 (((ByteArray.size s11) : Nat) : Int)))) = false then
                            (g161 (List.getD xs15 (Int.toNat a10) (⟨ByteArray.empty, false, (0 : Int), (0 : Int), []⟩ : S79)).f0 (List.getD xs15 (Int.toNat a10) (⟨ByteArray.empty, false, (0 : Int), (0 : Int), []⟩ : S79)).f1 (List.getD xs15 (Int.toNat a10) (⟨ByteArray.empty, false, (0 : Int), (0 : Int), []⟩ : S79)).f2 (List.getD xs15 (Int.toNat a10) (⟨ByteArray.empty, false, (0 : Int), (0 : Int), []⟩ : S79)).f3 (List.getD xs15 (Int.toNat a10) (⟨ByteArray.empty, false, (0 : Int), (0 : Int), []⟩ : S79)).f4 false (IntKind.i64.wrap (a9 + (1 : Int)))).bind fun t17 => if (!t17) = true then
                                ret (.inl false)
                              else
                                rec_ a9 (IntKind.i64.wrap (a10 + (1 : Int))) s11 b12 a13 a14 xs15
                          else
                            ret (.inl false)
                        else none
                      else none
                    else none
                  else none
                else none
              else
                (g161 (List.getD xs15 (Int.toNat a10) (⟨ByteArray.empty, false, (0 : Int), (0 : Int), []⟩ : S79)).f0 (List.getD xs15 (Int.toNat a10) (⟨ByteArray.empty, false, (0 : Int), (0 : Int), []⟩ : S79)).f1 (List.getD xs15 (Int.toNat a10) (⟨ByteArray.empty, false, (0 : Int), (0 : Int), []⟩ : S79)).f2 (List.getD xs15 (Int.toNat a10) (⟨ByteArray.empty, false, (0 : Int), (0 : Int), []⟩ : S79)).f3 (List.getD xs15 (Int.toNat a10) (⟨ByteArray.empty, false, (0 : Int), (0 : Int), []⟩ : S79)).f4 false (IntKind.i64.wrap (a9 + (1 : Int)))).bind fun t18 => if (!t18) = true then
                    ret (.inl false)
                  else
                    rec_ a9 (IntKind.i64.wrap (a10 + (1 : Int))) s11 b12 a13 a14 xs15
            else
              ret (.inl false)
          else
            ret (.inl false)
      else none
    else none
  else
    ret (.inr ())
def f161i.l4 (g161 : ByteArray → Bool → Int → Int → (List S79) → Bool → Int → Option Bool) (k : Nat) : Nat → Int → Int → ByteArray → Bool → Int → Int → (List S79) → Option (Bool ⊕ (Unit))
  | 0, _, _, _, _, _, _, _ => none
  | j + 1, a9, a10, s11, b12, a13, a14, xs15 => f161i.l4.step g161 k (fun a9 a10 s11 b12 a13 a14 xs15 => f161i.l4 g161 k j a9 a10 s11 b12 a13 a14 xs15) some a9 a10 s11 b12 a13 a14 xs15
def f161i.l4.w {R : Type} : (Bool ⊕ (Unit)) → (Exit → St env → Option R) → Option R := fun x K => Sum.elim (fun t43 => K .ret ⟨fullT [6] 0 122 [.v (.c (.s (.bool t43)))], [], 1923⟩) (fun t44 => K (.exit 0) ⟨fullT [] 0 122 [], [], 1923⟩) x
def f161i.l4.st (a9 : Int) (a10 : Int) (s11 : ByteArray) (b12 : Bool) (a13 : Int) (a14 : Int) (xs15 : List S79) : St env := ⟨fullT [2, 3, 7] 0 122 [.v (.c (.s (.int .i64 a9))), .v (.c (.bp 3 0)), .v (.c (.s (.int .i64 a10)))], [(3, .box [.s (.string s11), .s (.bool b12), .s (.int .i64 a13), .s (.int .i64 a14), .imm 79 xs15])], 963⟩
def f161i.l4.hd (g161 : ByteArray → Bool → Int → Int → (List S79) → Bool → Int → Option Bool) (k : Nat) (ts_ : List (AV env)) (mm_ : Mem env) (n_ : Nat) : LCl env :=
  gTs LCl.no [2, 3, 7] 122 ts_ fun l_ => gV LCl.no l_ fun a_ l_ => rV LCl.no a_ fun v_ => vI LCl.no .i64 v_ fun a9 => gV LCl.no l_ fun a_ l_ => rBp LCl.no 3 0 a_ <| gV LCl.no l_ fun a_ l_ => rV LCl.no a_ fun v_ => vI LCl.no .i64 v_ fun a10 => gE LCl.no l_ <| mBox LCl.no 3 mm_ fun c_ m_ => gC LCl.no c_ fun a_ c_ => rV LCl.no a_ fun v_ => vS LCl.no v_ fun s11 => gC LCl.no c_ fun a_ c_ => rV LCl.no a_ fun v_ => vB LCl.no v_ fun b12 => gC LCl.no c_ fun a_ c_ => rV LCl.no a_ fun v_ => vI LCl.no .i64 v_ fun a13 => gC LCl.no c_ fun a_ c_ => rV LCl.no a_ fun v_ => vI LCl.no .i64 v_ fun a14 => gC LCl.no c_ fun a_ c_ => rImm LCl.no 79 a_ fun xs15 => gE LCl.no c_ <| gE LCl.no m_ <| gN LCl.no 963 n_ { α := Bool ⊕ (Unit), o := f161i.l4 g161 k k a9 a10 s11 b12 a13 a14 xs15, w := f161i.l4.w }
def f161i.step {R : Type} (g161 : ByteArray → Bool → Int → Int → (List S79) → Bool → Int → Option Bool) (k : Nat) (ret : Bool → Option R) (s1 : ByteArray) (b2 : Bool) (a3 : Int) (a4 : Int) (xs5 : List S79) (b6 : Bool) (a7 : Int) : Option R :=
  if (decide (a7 > (128 : Int))) = false then
    (f188 k s1 a3 a4).bind fun t8 => if (!t8) = false then
        if (!b2) = true then
          if (decide (a3 ≠ (0 : Int))) = false then
            if (decide (a4 ≠ (0 : Int))) = false then
              if (decide ((((List.length xs5) : Nat) : Int) > (2 : Int))) = false then
                if b6 = true then
                  if (decide (ByteArray.toList s1 ≠ ByteArray.toList (⟨#[]⟩ : ByteArray))) = false then
                    if (!b6) = true then
                      if (!b2) = true then
                        if (decide ((((List.length xs5) : Nat) : Int) < (2 : Int))) = true then
                          ret false
                        else
                          (f161i.l4 g161 k k a7 (0 : Int) s1 b2 a3 a4 xs5).bind (Sum.elim (fun t19 => ret t19) (fun t20 => ret true))
                      else
                        (f161i.l4 g161 k k a7 (0 : Int) s1 b2 a3 a4 xs5).bind (Sum.elim (fun t21 => ret t21) (fun t22 => ret true))
                    else
                      (f161i.l4 g161 k k a7 (0 : Int) s1 b2 a3 a4 xs5).bind (Sum.elim (fun t23 => ret t23) (fun t24 => ret true))
                  else
                    ret false
                else
                  if (!b6) = true then
                    if (!b2) = true then
                      if (decide ((((List.length xs5) : Nat) : Int) < (2 : Int))) = true then
                        ret false
                      else
                        (f161i.l4 g161 k k a7 (0 : Int) s1 b2 a3 a4 xs5).bind (Sum.elim (fun t25 => ret t25) (fun t26 => ret true))
                    else
                      (f161i.l4 g161 k k a7 (0 : Int) s1 b2 a3 a4 xs5).bind (Sum.elim (fun t27 => ret t27) (fun t28 => ret true))
                  else
                    (f161i.l4 g161 k k a7 (0 : Int) s1 b2 a3 a4 xs5).bind (Sum.elim (fun t29 => ret t29) (fun t30 => ret true))
              else
                ret false
            else
              ret false
          else
            ret false
        else
          if (decide ((((List.length xs5) : Nat) : Int) > (2 : Int))) = false then
            if b6 = true then
              if (decide (ByteArray.toList s1 ≠ ByteArray.toList (⟨#[]⟩ : ByteArray))) = false then
                if (!b6) = true then
                  if (!b2) = true then
                    if (decide ((((List.length xs5) : Nat) : Int) < (2 : Int))) = true then
                      ret false
                    else
                      (f161i.l4 g161 k k a7 (0 : Int) s1 b2 a3 a4 xs5).bind (Sum.elim (fun t31 => ret t31) (fun t32 => ret true))
                  else
                    (f161i.l4 g161 k k a7 (0 : Int) s1 b2 a3 a4 xs5).bind (Sum.elim (fun t33 => ret t33) (fun t34 => ret true))
                else
                  (f161i.l4 g161 k k a7 (0 : Int) s1 b2 a3 a4 xs5).bind (Sum.elim (fun t35 => ret t35) (fun t36 => ret true))
              else
                ret false
            else
              if (!b6) = true then
                if (!b2) = true then
                  if (decide ((((List.length xs5) : Nat) : Int) < (2 : Int))) = true then
                    ret false
                  else
                    (f161i.l4 g161 k k a7 (0 : Int) s1 b2 a3 a4 xs5).bind (Sum.elim (fun t37 => ret t37) (fun t38 => ret true))
                else
                  (f161i.l4 g161 k k a7 (0 : Int) s1 b2 a3 a4 xs5).bind (Sum.elim (fun t39 => ret t39) (fun t40 => ret true))
              else
                (f161i.l4 g161 k k a7 (0 : Int) s1 b2 a3 a4 xs5).bind (Sum.elim (fun t41 => ret t41) (fun t42 => ret true))
          else
            ret false
      else
        ret false
  else
    ret false
def f161i (g161 : ByteArray → Bool → Int → Int → (List S79) → Bool → Int → Option Bool) (k : Nat) (s1 : ByteArray) (b2 : Bool) (a3 : Int) (a4 : Int) (xs5 : List S79) (b6 : Bool) (a7 : Int) : Option Bool := f161i.step g161 k some s1 b2 a3 a4 xs5 b6 a7
def f161i.hd (g161 : ByteArray → Bool → Int → Int → (List S79) → Bool → Int → Option Bool) (k : Nat) (ps_ : List (P2 env)) : Cl env := f161i.hdG (f161i g161 k) ps_
def f161i.e (g161 : ByteArray → Bool → Int → Int → (List S79) → Bool → Int → Option Bool) (k : Nat) : Entry env := f161i.eG (f161i g161 k)
def f161i.X (g161 : ByteArray → Bool → Int → Int → (List S79) → Bool → Int → Option Bool) (k : Nat) : Ctx env := { C := lookE [(161, f161i.eG g161), (188, f188.e k), (189, f189.e k)], L := lookE [(4, fun S => f161i.l4.hd g161 k S.ts S.m S.n)], J := lookE [], keep := lookD [(4, [2, 3, 7])], keepX := lookD [(4, [6])], span := lookN [(4, 960)], eff := fun n => memN n [], prep := lookP [], np := 0 }
theorem f161i.l4.nat {R : Type} (g161 : ByteArray → Bool → Int → Int → (List S79) → Bool → Int → Option Bool) (k : Nat) (rec_ : Int → Int → ByteArray → Bool → Int → Int → (List S79) → Option (Bool ⊕ (Unit))) (g : (Bool ⊕ (Unit)) → Option R) (a9 : Int) (a10 : Int) (s11 : ByteArray) (b12 : Bool) (a13 : Int) (a14 : Int) (xs15 : List S79) : (f161i.l4.step g161 k rec_ some a9 a10 s11 b12 a13 a14 xs15).bind g = f161i.l4.step g161 k (fun a9 a10 s11 b12 a13 a14 xs15 => (rec_ a9 a10 s11 b12 a13 a14 xs15).bind g) g a9 a10 s11 b12 a13 a14 xs15 := by
  simp only [f161i.l4.step, bind_ite, bind_sum, Option.bind_assoc, Option.bind_some, Option.bind_none]
theorem f161i.l4.good (g161 : ByteArray → Bool → Int → Int → (List S79) → Bool → Int → Option Bool) (k : Nat) (a9 : Int) (a10 : Int) (s11 : ByteArray) (b12 : Bool) (a13 : Int) (a14 : Int) (xs15 : List S79) : GoodL (f161i.X g161 k) (nthC 0 (loopsOf (bodyOf Try.f161))) (f161i.l4.st a9 a10 s11 b12 a13 a14 xs15) { α := (Bool ⊕ (Unit)), o := f161i.l4 g161 k k a9 a10 s11 b12 a13 a14 xs15, w := f161i.l4.w } :=
  loop_good (ι := Int × Int × ByteArray × Bool × Int × Int × (List S79)) (α := (Bool ⊕ (Unit))) (fun i => f161i.l4.st i.1 i.2.1 i.2.2.1 i.2.2.2.1 i.2.2.2.2.1 i.2.2.2.2.2.1 i.2.2.2.2.2.2) (fun j i => f161i.l4 g161 k j i.1 i.2.1 i.2.2.1 i.2.2.2.1 i.2.2.2.2.1 i.2.2.2.2.2.1 i.2.2.2.2.2.2) f161i.l4.w (fun rec_ ret i => f161i.l4.step g161 k (fun a9 a10 s11 b12 a13 a14 xs15 => rec_ (a9, a10, s11, b12, a13, a14, xs15)) ret i.1 i.2.1 i.2.2.1 i.2.2.2.1 i.2.2.2.2.1 i.2.2.2.2.2.1 i.2.2.2.2.2.2)
    (fun _ => rfl) (fun _ _ => rfl) (fun rec_ g i => f161i.l4.nat g161 k _ g i.1 i.2.1 i.2.2.1 i.2.2.2.1 i.2.2.2.2.1 i.2.2.2.2.2.1 i.2.2.2.2.2.2) (fun {R} i0 i rec_ K => by kernel_rfl) k (a9, a10, s11, b12, a13, a14, xs15)
theorem f161i.l4.all (g161 : ByteArray → Bool → Int → Int → (List S79) → Bool → Int → Option Bool) (k : Nat) (S : St env) : GoodL (f161i.X g161 k) (nthC 0 (loopsOf (bodyOf Try.f161))) S (f161i.l4.hd g161 k S.ts S.m S.n) := by
  obtain ⟨ts_, m_, n_⟩ := S
  show GoodL _ _ _ (f161i.l4.hd g161 k ts_ m_ n_)
  unfold f161i.l4.hd
  refine gTs_ok (p := GoodL _ _ _) goodL_no fun _ h => ?_
  subst h
  refine gV_ok (p := GoodL _ _ _) goodL_no fun _ _ h => ?_
  subst h
  refine rV_ok (p := GoodL _ _ _) goodL_no fun _ h => ?_
  subst h
  refine vI_ok (p := GoodL _ _ _) goodL_no fun _ h => ?_
  subst h
  refine gV_ok (p := GoodL _ _ _) goodL_no fun _ _ h => ?_
  subst h
  refine rBp_ok (p := GoodL _ _ _) goodL_no fun h => ?_
  subst h
  refine gV_ok (p := GoodL _ _ _) goodL_no fun _ _ h => ?_
  subst h
  refine rV_ok (p := GoodL _ _ _) goodL_no fun _ h => ?_
  subst h
  refine vI_ok (p := GoodL _ _ _) goodL_no fun _ h => ?_
  subst h
  refine gE_ok (p := GoodL _ _ _) goodL_no fun h => ?_
  subst h
  refine mBox_ok (p := GoodL _ _ _) goodL_no fun _ _ h => ?_
  subst h
  refine gC_ok (p := GoodL _ _ _) goodL_no fun _ _ h => ?_
  subst h
  refine rV_ok (p := GoodL _ _ _) goodL_no fun _ h => ?_
  subst h
  refine vS_ok (p := GoodL _ _ _) goodL_no fun _ h => ?_
  subst h
  refine gC_ok (p := GoodL _ _ _) goodL_no fun _ _ h => ?_
  subst h
  refine rV_ok (p := GoodL _ _ _) goodL_no fun _ h => ?_
  subst h
  refine vB_ok (p := GoodL _ _ _) goodL_no fun _ h => ?_
  subst h
  refine gC_ok (p := GoodL _ _ _) goodL_no fun _ _ h => ?_
  subst h
  refine rV_ok (p := GoodL _ _ _) goodL_no fun _ h => ?_
  subst h
  refine vI_ok (p := GoodL _ _ _) goodL_no fun _ h => ?_
  subst h
  refine gC_ok (p := GoodL _ _ _) goodL_no fun _ _ h => ?_
  subst h
  refine rV_ok (p := GoodL _ _ _) goodL_no fun _ h => ?_
  subst h
  refine vI_ok (p := GoodL _ _ _) goodL_no fun _ h => ?_
  subst h
  refine gC_ok (p := GoodL _ _ _) goodL_no fun _ _ h => ?_
  subst h
  refine rImm_ok (p := GoodL _ _ _) goodL_no fun _ h => ?_
  subst h
  refine gE_ok (p := GoodL _ _ _) goodL_no fun h => ?_
  subst h
  refine gE_ok (p := GoodL _ _ _) goodL_no fun h => ?_
  subst h
  refine gN_ok (p := GoodL _ _ _) goodL_no fun h => ?_
  subst h
  exact f161i.l4.good g161 k _ _ _ _ _ _ _
theorem f161i.nat {R : Type} (g161 : ByteArray → Bool → Int → Int → (List S79) → Bool → Int → Option Bool) (k : Nat) (g : Bool → Option R) (s1 : ByteArray) (b2 : Bool) (a3 : Int) (a4 : Int) (xs5 : List S79) (b6 : Bool) (a7 : Int) : f161i.step g161 k g s1 b2 a3 a4 xs5 b6 a7 = (f161i g161 k s1 b2 a3 a4 xs5 b6 a7).bind g := by
  simp only [f161i, f161i.step, bind_ite, bind_sum, Option.bind_assoc, Option.bind_some, Option.bind_none]
theorem f161i.ev (g161 : ByteArray → Bool → Int → Int → (List S79) → Bool → Int → Option Bool) (k : Nat) (s1 : ByteArray) (b2 : Bool) (a3 : Int) (a4 : Int) (xs5 : List S79) (b6 : Bool) (a7 : Int) : evF (f161i.X g161 k) (bodyOf Try.f161) Try.f161.ntmps Try.f161.results.toList [.g [.s (.string s1), .s (.bool b2), .s (.int .i64 a3), .s (.int .i64 a4), .sl 79 xs5], .v (.c (.s (.bool b6))), .v (.c (.s (.int .i64 a7)))] = f161i.step g161 k (fun x => f161i.w x some) s1 b2 a3 a4 xs5 b6 a7 := by kernel_rfl
theorem f161i.hok (g161 : ByteArray → Bool → Int → Int → (List S79) → Bool → Int → Option Bool) (k : Nat) : HOK (f161i.X g161 k) (bodyOf Try.f161) where
  l := allP_mem (by exact ⟨ls_of (h0 := fun S => f161i.l4.hd g161 k S.ts S.m S.n) (by kernel_rfl) (f161i.l4.all g161 k), trivial⟩)
  j := allP_mem (by exact trivial)
theorem f161i.sound0 (g161 : ByteArray → Bool → Int → Int → (List S79) → Bool → Int → Option Bool) (hg_ : SoundC env Try.prog 161 (f161i.eG g161).F) (k : Nat) : SoundC env Try.prog 161 (f161i.hd g161 k) := by
  intro ps_
  show GoodC _ _ _ ps_ (f161i.hd g161 k ps_)
  unfold f161i.hd f161i.hdG
  refine gC_ok (p := GoodC env Try.prog 161 _) goodC_no fun _ _ h => ?_
  subst h
  refine qG_ok (p := GoodC env Try.prog 161 _) goodC_no fun _ h => ?_
  subst h
  refine gC_ok (p := GoodC env Try.prog 161 _) goodC_no fun _ _ h => ?_
  subst h
  refine qS_ok (p := GoodC env Try.prog 161 _) goodC_no fun _ h => ?_
  subst h
  refine vS_ok (p := GoodC env Try.prog 161 _) goodC_no fun _ h => ?_
  subst h
  refine gC_ok (p := GoodC env Try.prog 161 _) goodC_no fun _ _ h => ?_
  subst h
  refine qS_ok (p := GoodC env Try.prog 161 _) goodC_no fun _ h => ?_
  subst h
  refine vB_ok (p := GoodC env Try.prog 161 _) goodC_no fun _ h => ?_
  subst h
  refine gC_ok (p := GoodC env Try.prog 161 _) goodC_no fun _ _ h => ?_
  subst h
  refine qS_ok (p := GoodC env Try.prog 161 _) goodC_no fun _ h => ?_
  subst h
  refine vI_ok (p := GoodC env Try.prog 161 _) goodC_no fun _ h => ?_
  subst h
  refine gC_ok (p := GoodC env Try.prog 161 _) goodC_no fun _ _ h => ?_
  subst h
  refine qS_ok (p := GoodC env Try.prog 161 _) goodC_no fun _ h => ?_
  subst h
  refine vI_ok (p := GoodC env Try.prog 161 _) goodC_no fun _ h => ?_
  subst h
  refine gC_ok (p := GoodC env Try.prog 161 _) goodC_no fun _ _ h => ?_
  subst h
  refine qSl_ok (p := GoodC env Try.prog 161 _) goodC_no fun _ h => ?_
  subst h
  refine gE_ok (p := GoodC env Try.prog 161 _) goodC_no fun h => ?_
  subst h
  refine gC_ok (p := GoodC env Try.prog 161 _) goodC_no fun _ _ h => ?_
  subst h
  refine qC_ok (p := GoodC env Try.prog 161 _) goodC_no fun _ h => ?_
  subst h
  refine qS_ok (p := GoodC env Try.prog 161 _) goodC_no fun _ h => ?_
  subst h
  refine vB_ok (p := GoodC env Try.prog 161 _) goodC_no fun _ h => ?_
  subst h
  refine gC_ok (p := GoodC env Try.prog 161 _) goodC_no fun _ _ h => ?_
  subst h
  refine qC_ok (p := GoodC env Try.prog 161 _) goodC_no fun _ h => ?_
  subst h
  refine qS_ok (p := GoodC env Try.prog 161 _) goodC_no fun _ h => ?_
  subst h
  refine vI_ok (p := GoodC env Try.prog 161 _) goodC_no fun _ h => ?_
  subst h
  refine gE_ok (p := GoodC env Try.prog 161 _) goodC_no fun h => ?_
  subst h
  exact fun_good (fun_sound envOK (cs_sound _ (by exact ⟨⟨hg_, f161.fnok⟩, ⟨f188.sound k, f188.fnok⟩, ⟨f189.sound k, f189.fnok⟩, trivial⟩)) (f161i.hok g161 k) Try.func161 rfl) ((f161i.ev g161 k _ _ _ _ _ _ _).trans (f161i.nat g161 k _ _ _ _ _ _ _ _))
theorem f161i.sound (g161 : ByteArray → Bool → Int → Int → (List S79) → Bool → Int → Option Bool) (hg_ : SoundC env Try.prog 161 (f161i.eG g161).F) (k : Nat) : SoundC env Try.prog 161 (f161i.e g161 k).F := soundC_coer (f161i.sound0 g161 hg_ k) [[.no, .no, .no, .no, .rd 79], [.no], [.no]]
def f161i.r (k : Nat) : Nat → ByteArray → Bool → Int → Int → (List S79) → Bool → Int → Option Bool
  | 0 => fun _ _ _ _ _ _ _ => none
  | j + 1 => fun s1 b2 a3 a4 xs5 b6 a7 => f161i (f161i.r k j) k s1 b2 a3 a4 xs5 b6 a7
theorem f161i.all_ (k : Nat) : ∀ j, SoundC env Try.prog 161 (f161i.eG (f161i.r k j)).F
  | 0 => f161i.none_
  | j + 1 => f161i.sound (f161i.r k j) (f161i.all_ k j) k
def f161 (k : Nat) (s1 : ByteArray) (b2 : Bool) (a3 : Int) (a4 : Int) (xs5 : List S79) (b6 : Bool) (a7 : Int) : Option Bool := f161i.r k k s1 b2 a3 a4 xs5 b6 a7
def f161.e (k : Nat) : Entry env := f161i.eG (f161 k)
theorem f161.sound (k : Nat) : SoundC env Try.prog 161 (f161.e k).F := f161i.all_ k k
def f99.step {R : Type} (k : Nat) (ret : Int → Option R) (b1 : Bool) (a2 : Int) : Option R :=
  if b1 = true then
    ret a2
  else
    ret (0 : Int)
def f99 (k : Nat) (b1 : Bool) (a2 : Int) : Option Int := f99.step k some b1 a2
def f99.w {R : Type} : Int → (Res env → Option R) → Option R := fun t3 K => K ⟨.v (.c (.s (.int .i64 t3))), [[], []]⟩
theorem f99.wn (x : Int) : ∃ res, ∀ {R : Type} (K : Res env → Option R), f99.w x K = K res := by
  exact ⟨_, fun _ => rfl⟩
def f99.hd (k : Nat) (ps_ : List (P2 env)) : Cl env :=
  gC Cl.no ps_ fun p_ ps_ => qC Cl.no p_ fun c_ => qS Cl.no c_ fun v_ => vB Cl.no v_ fun b1 => gC Cl.no ps_ fun p_ ps_ => qC Cl.no p_ fun c_ => qS Cl.no c_ fun v_ => vI Cl.no .i64 v_ fun a2 => gE Cl.no ps_ <| { α := Int, o := f99 k b1 a2, w := f99.w, nat := fun x _ => f99.wn x }
def f99.e (k : Nat) : Entry env := ⟨f99.hd k, [], []⟩
def f99.X (k : Nat) : Ctx env := { C := lookE [], L := lookE [], J := lookE [], keep := lookD [], keepX := lookD [], span := lookN [], eff := fun n => memN n [], prep := lookP [], np := 0 }
theorem f99.nat {R : Type} (k : Nat) (g : Int → Option R) (b1 : Bool) (a2 : Int) : f99.step k g b1 a2 = (f99 k b1 a2).bind g := by
  simp only [f99, f99.step, bind_ite, bind_sum, Option.bind_assoc, Option.bind_some, Option.bind_none]
theorem f99.ev (k : Nat) (b1 : Bool) (a2 : Int) : evF (f99.X k) (bodyOf Try.f99) Try.f99.ntmps Try.f99.results.toList [.v (.c (.s (.bool b1))), .v (.c (.s (.int .i64 a2)))] = f99.step k (fun x => f99.w x some) b1 a2 := by kernel_rfl
theorem f99.hok (k : Nat) : HOK (f99.X k) (bodyOf Try.f99) where
  l := allP_mem (by exact trivial)
  j := allP_mem (by exact trivial)
theorem f99.sound (k : Nat) : SoundC env Try.prog 99 ((f99.e k).F) := by
  intro ps_
  show GoodC _ _ _ ps_ (f99.hd k ps_)
  unfold f99.hd
  refine gC_ok (p := GoodC env Try.prog 99 _) goodC_no fun _ _ h => ?_
  subst h
  refine qC_ok (p := GoodC env Try.prog 99 _) goodC_no fun _ h => ?_
  subst h
  refine qS_ok (p := GoodC env Try.prog 99 _) goodC_no fun _ h => ?_
  subst h
  refine vB_ok (p := GoodC env Try.prog 99 _) goodC_no fun _ h => ?_
  subst h
  refine gC_ok (p := GoodC env Try.prog 99 _) goodC_no fun _ _ h => ?_
  subst h
  refine qC_ok (p := GoodC env Try.prog 99 _) goodC_no fun _ h => ?_
  subst h
  refine qS_ok (p := GoodC env Try.prog 99 _) goodC_no fun _ h => ?_
  subst h
  refine vI_ok (p := GoodC env Try.prog 99 _) goodC_no fun _ h => ?_
  subst h
  refine gE_ok (p := GoodC env Try.prog 99 _) goodC_no fun h => ?_
  subst h
  exact fun_good (fun_sound envOK (cs_sound _ (by exact trivial)) (f99.hok k) Try.func99 rfl) ((f99.ev k _ _).trans (f99.nat k _ _ _))
theorem f99.says (k : Nat) (b1 : Bool) (a2 : Int) (t4 : Int) (h_ : f99 k b1 a2 = some t4) : SoundAt env Try.prog 99 [.v (.c (.s (.bool b1))), .v (.c (.s (.int .i64 a2)))] ⟨.v (.c (.s (.int .i64 t4))), [[], []]⟩ :=
  fun_sound envOK (cs_sound _ (by exact trivial)) (f99.hok k) Try.func99 rfl _ _ (((f99.ev k b1 a2).trans (f99.nat k _ b1 a2)).trans (by rw [h_]; rfl))
theorem f99.fnok : FnOK Try.prog 99 := fn_ok Try.func99 (by kernel_rfl) rfl
def f162i.w {R : Type} : Int → (Res env → Option R) → Option R := fun t17 K => K ⟨.v (.c (.s (.int .i64 t17))), [[]]⟩
theorem f162i.wn (x : Int) : ∃ res, ∀ {R : Type} (K : Res env → Option R), f162i.w x K = K res := by
  exact ⟨_, fun _ => rfl⟩
def f162i.hdG (G_ : ByteArray → Bool → Int → Int → (List S79) → Option Int) (ps_ : List (P2 env)) : Cl env :=
  gC Cl.no ps_ fun p_ ps_ => qG Cl.no p_ fun cs_ => gC Cl.no cs_ fun c_ cs_ => qS Cl.no c_ fun v_ => vS Cl.no v_ fun s1 => gC Cl.no cs_ fun c_ cs_ => qS Cl.no c_ fun v_ => vB Cl.no v_ fun b2 => gC Cl.no cs_ fun c_ cs_ => qS Cl.no c_ fun v_ => vI Cl.no .i64 v_ fun a3 => gC Cl.no cs_ fun c_ cs_ => qS Cl.no c_ fun v_ => vI Cl.no .i64 v_ fun a4 => gC Cl.no cs_ fun c_ cs_ => qSl Cl.no 79 c_ fun xs5 => gE Cl.no cs_ <| gE Cl.no ps_ <| { α := Int, o := G_ s1 b2 a3 a4 xs5, w := f162i.w, nat := fun x _ => f162i.wn x }
def f162i.eG (G_ : ByteArray → Bool → Int → Int → (List S79) → Option Int) : Entry env := ⟨fun ps => f162i.hdG G_ (coer [[.no, .no, .no, .no, .rd 79]] ps), [], []⟩
theorem f162i.none_ : SoundC env Try.prog 162 (f162i.eG (fun _ _ _ _ _ => none)).F := by
  refine soundC_coer (F := f162i.hdG (fun _ _ _ _ _ => none)) ?_ [[.no, .no, .no, .no, .rd 79]]
  intro ps_
  show GoodC _ _ _ ps_ (f162i.hdG (fun _ _ _ _ _ => none) ps_)
  unfold f162i.hdG
  refine gC_ok (p := GoodC env Try.prog 162 _) goodC_no fun _ _ h => ?_
  subst h
  refine qG_ok (p := GoodC env Try.prog 162 _) goodC_no fun _ h => ?_
  subst h
  refine gC_ok (p := GoodC env Try.prog 162 _) goodC_no fun _ _ h => ?_
  subst h
  refine qS_ok (p := GoodC env Try.prog 162 _) goodC_no fun _ h => ?_
  subst h
  refine vS_ok (p := GoodC env Try.prog 162 _) goodC_no fun _ h => ?_
  subst h
  refine gC_ok (p := GoodC env Try.prog 162 _) goodC_no fun _ _ h => ?_
  subst h
  refine qS_ok (p := GoodC env Try.prog 162 _) goodC_no fun _ h => ?_
  subst h
  refine vB_ok (p := GoodC env Try.prog 162 _) goodC_no fun _ h => ?_
  subst h
  refine gC_ok (p := GoodC env Try.prog 162 _) goodC_no fun _ _ h => ?_
  subst h
  refine qS_ok (p := GoodC env Try.prog 162 _) goodC_no fun _ h => ?_
  subst h
  refine vI_ok (p := GoodC env Try.prog 162 _) goodC_no fun _ h => ?_
  subst h
  refine gC_ok (p := GoodC env Try.prog 162 _) goodC_no fun _ _ h => ?_
  subst h
  refine qS_ok (p := GoodC env Try.prog 162 _) goodC_no fun _ h => ?_
  subst h
  refine vI_ok (p := GoodC env Try.prog 162 _) goodC_no fun _ h => ?_
  subst h
  refine gC_ok (p := GoodC env Try.prog 162 _) goodC_no fun _ _ h => ?_
  subst h
  refine qSl_ok (p := GoodC env Try.prog 162 _) goodC_no fun _ h => ?_
  subst h
  refine gE_ok (p := GoodC env Try.prog 162 _) goodC_no fun h => ?_
  subst h
  refine gE_ok (p := GoodC env Try.prog 162 _) goodC_no fun h => ?_
  subst h
  intro x h; cases h
theorem f162.fnok : FnOK Try.prog 162 := fn_ok Try.func162 (by kernel_rfl) rfl
def f162i.l3.step {R : Type} (g162 : ByteArray → Bool → Int → Int → (List S79) → Option Int) (k : Nat) (rec_ : Int → Int → ByteArray → Bool → Int → Int → (List S79) → Option R) (ret : Int → Option R) (a7 : Int) (a8 : Int) (s9 : ByteArray) (b10 : Bool) (a11 : Int) (a12 : Int) (xs13 : List S79) : Option R :=
  if (decide (a8 < (((List.length xs13) : Nat) : Int))) = true then
    if (0 : Int) ≤ a8 then
      if a8 < ((List.length xs13 : Nat) : Int) then
        (g162 (List.getD xs13 (Int.toNat a8) (⟨ByteArray.empty, false, (0 : Int), (0 : Int), []⟩ : S79)).f0 (List.getD xs13 (Int.toNat a8) (⟨ByteArray.empty, false, (0 : Int), (0 : Int), []⟩ : S79)).f1 (List.getD xs13 (Int.toNat a8) (⟨ByteArray.empty, false, (0 : Int), (0 : Int), []⟩ : S79)).f2 (List.getD xs13 (Int.toNat a8) (⟨ByteArray.empty, false, (0 : Int), (0 : Int), []⟩ : S79)).f3 (List.getD xs13 (Int.toNat a8) (⟨ByteArray.empty, false, (0 : Int), (0 : Int), []⟩ : S79)).f4).bind fun t14 => rec_ (IntKind.i64.wrap (a7 + t14)) (IntKind.i64.wrap (a8 + (1 : Int))) s9 b10 a11 a12 xs13
      else none
    else none
  else
    ret a7
def f162i.l3 (g162 : ByteArray → Bool → Int → Int → (List S79) → Option Int) (k : Nat) : Nat → Int → Int → ByteArray → Bool → Int → Int → (List S79) → Option Int
  | 0, _, _, _, _, _, _, _ => none
  | j + 1, a7, a8, s9, b10, a11, a12, xs13 => f162i.l3.step g162 k (fun a7 a8 s9 b10 a11 a12 xs13 => f162i.l3 g162 k j a7 a8 s9 b10 a11 a12 xs13) some a7 a8 s9 b10 a11 a12 xs13
def f162i.l3.w {R : Type} : Int → (Exit → St env → Option R) → Option R := fun t16 K => K (.exit 0) ⟨fullT [3] 0 24 [.v (.c (.s (.int .i64 t16)))], [], 385⟩
def f162i.l3.st (a7 : Int) (a8 : Int) (s9 : ByteArray) (b10 : Bool) (a11 : Int) (a12 : Int) (xs13 : List S79) : St env := ⟨fullT [1, 3, 4] 0 24 [.v (.c (.bp 1 0)), .v (.c (.s (.int .i64 a7))), .v (.c (.s (.int .i64 a8)))], [(1, .box [.s (.string s9), .s (.bool b10), .s (.int .i64 a11), .s (.int .i64 a12), .imm 79 xs13])], 113⟩
def f162i.l3.hd (g162 : ByteArray → Bool → Int → Int → (List S79) → Option Int) (k : Nat) (ts_ : List (AV env)) (mm_ : Mem env) (n_ : Nat) : LCl env :=
  gTs LCl.no [1, 3, 4] 24 ts_ fun l_ => gV LCl.no l_ fun a_ l_ => rBp LCl.no 1 0 a_ <| gV LCl.no l_ fun a_ l_ => rV LCl.no a_ fun v_ => vI LCl.no .i64 v_ fun a7 => gV LCl.no l_ fun a_ l_ => rV LCl.no a_ fun v_ => vI LCl.no .i64 v_ fun a8 => gE LCl.no l_ <| mBox LCl.no 1 mm_ fun c_ m_ => gC LCl.no c_ fun a_ c_ => rV LCl.no a_ fun v_ => vS LCl.no v_ fun s9 => gC LCl.no c_ fun a_ c_ => rV LCl.no a_ fun v_ => vB LCl.no v_ fun b10 => gC LCl.no c_ fun a_ c_ => rV LCl.no a_ fun v_ => vI LCl.no .i64 v_ fun a11 => gC LCl.no c_ fun a_ c_ => rV LCl.no a_ fun v_ => vI LCl.no .i64 v_ fun a12 => gC LCl.no c_ fun a_ c_ => rImm LCl.no 79 a_ fun xs13 => gE LCl.no c_ <| gE LCl.no m_ <| gN LCl.no 113 n_ { α := Int, o := f162i.l3 g162 k k a7 a8 s9 b10 a11 a12 xs13, w := f162i.l3.w }
def f162i.step {R : Type} (g162 : ByteArray → Bool → Int → Int → (List S79) → Option Int) (k : Nat) (ret : Int → Option R) (s1 : ByteArray) (b2 : Bool) (a3 : Int) (a4 : Int) (xs5 : List S79) : Option R :=
  (f99 k b2 (1 : Int)).bind fun t6 => (f162i.l3 g162 k k t6 (0 : Int) s1 b2 a3 a4 xs5).bind fun t15 => ret t15
def f162i (g162 : ByteArray → Bool → Int → Int → (List S79) → Option Int) (k : Nat) (s1 : ByteArray) (b2 : Bool) (a3 : Int) (a4 : Int) (xs5 : List S79) : Option Int := f162i.step g162 k some s1 b2 a3 a4 xs5
def f162i.hd (g162 : ByteArray → Bool → Int → Int → (List S79) → Option Int) (k : Nat) (ps_ : List (P2 env)) : Cl env := f162i.hdG (f162i g162 k) ps_
def f162i.e (g162 : ByteArray → Bool → Int → Int → (List S79) → Option Int) (k : Nat) : Entry env := f162i.eG (f162i g162 k)
def f162i.X (g162 : ByteArray → Bool → Int → Int → (List S79) → Option Int) (k : Nat) : Ctx env := { C := lookE [(99, f99.e k), (162, f162i.eG g162)], L := lookE [(3, fun S => f162i.l3.hd g162 k S.ts S.m S.n)], J := lookE [], keep := lookD [(3, [1, 3, 4])], keepX := lookD [(3, [3])], span := lookN [(3, 272)], eff := fun n => memN n [], prep := lookP [], np := 0 }
theorem f162i.l3.nat {R : Type} (g162 : ByteArray → Bool → Int → Int → (List S79) → Option Int) (k : Nat) (rec_ : Int → Int → ByteArray → Bool → Int → Int → (List S79) → Option Int) (g : Int → Option R) (a7 : Int) (a8 : Int) (s9 : ByteArray) (b10 : Bool) (a11 : Int) (a12 : Int) (xs13 : List S79) : (f162i.l3.step g162 k rec_ some a7 a8 s9 b10 a11 a12 xs13).bind g = f162i.l3.step g162 k (fun a7 a8 s9 b10 a11 a12 xs13 => (rec_ a7 a8 s9 b10 a11 a12 xs13).bind g) g a7 a8 s9 b10 a11 a12 xs13 := by
  simp only [f162i.l3.step, bind_ite, bind_sum, Option.bind_assoc, Option.bind_some, Option.bind_none]
theorem f162i.l3.good (g162 : ByteArray → Bool → Int → Int → (List S79) → Option Int) (k : Nat) (a7 : Int) (a8 : Int) (s9 : ByteArray) (b10 : Bool) (a11 : Int) (a12 : Int) (xs13 : List S79) : GoodL (f162i.X g162 k) (nthC 0 (loopsOf (bodyOf Try.f162))) (f162i.l3.st a7 a8 s9 b10 a11 a12 xs13) { α := Int, o := f162i.l3 g162 k k a7 a8 s9 b10 a11 a12 xs13, w := f162i.l3.w } :=
  loop_good (ι := Int × Int × ByteArray × Bool × Int × Int × (List S79)) (α := Int) (fun i => f162i.l3.st i.1 i.2.1 i.2.2.1 i.2.2.2.1 i.2.2.2.2.1 i.2.2.2.2.2.1 i.2.2.2.2.2.2) (fun j i => f162i.l3 g162 k j i.1 i.2.1 i.2.2.1 i.2.2.2.1 i.2.2.2.2.1 i.2.2.2.2.2.1 i.2.2.2.2.2.2) f162i.l3.w (fun rec_ ret i => f162i.l3.step g162 k (fun a7 a8 s9 b10 a11 a12 xs13 => rec_ (a7, a8, s9, b10, a11, a12, xs13)) ret i.1 i.2.1 i.2.2.1 i.2.2.2.1 i.2.2.2.2.1 i.2.2.2.2.2.1 i.2.2.2.2.2.2)
    (fun _ => rfl) (fun _ _ => rfl) (fun rec_ g i => f162i.l3.nat g162 k _ g i.1 i.2.1 i.2.2.1 i.2.2.2.1 i.2.2.2.2.1 i.2.2.2.2.2.1 i.2.2.2.2.2.2) (fun {R} i0 i rec_ K => by kernel_rfl) k (a7, a8, s9, b10, a11, a12, xs13)
theorem f162i.l3.all (g162 : ByteArray → Bool → Int → Int → (List S79) → Option Int) (k : Nat) (S : St env) : GoodL (f162i.X g162 k) (nthC 0 (loopsOf (bodyOf Try.f162))) S (f162i.l3.hd g162 k S.ts S.m S.n) := by
  obtain ⟨ts_, m_, n_⟩ := S
  show GoodL _ _ _ (f162i.l3.hd g162 k ts_ m_ n_)
  unfold f162i.l3.hd
  refine gTs_ok (p := GoodL _ _ _) goodL_no fun _ h => ?_
  subst h
  refine gV_ok (p := GoodL _ _ _) goodL_no fun _ _ h => ?_
  subst h
  refine rBp_ok (p := GoodL _ _ _) goodL_no fun h => ?_
  subst h
  refine gV_ok (p := GoodL _ _ _) goodL_no fun _ _ h => ?_
  subst h
  refine rV_ok (p := GoodL _ _ _) goodL_no fun _ h => ?_
  subst h
  refine vI_ok (p := GoodL _ _ _) goodL_no fun _ h => ?_
  subst h
  refine gV_ok (p := GoodL _ _ _) goodL_no fun _ _ h => ?_
  subst h
  refine rV_ok (p := GoodL _ _ _) goodL_no fun _ h => ?_
  subst h
  refine vI_ok (p := GoodL _ _ _) goodL_no fun _ h => ?_
  subst h
  refine gE_ok (p := GoodL _ _ _) goodL_no fun h => ?_
  subst h
  refine mBox_ok (p := GoodL _ _ _) goodL_no fun _ _ h => ?_
  subst h
  refine gC_ok (p := GoodL _ _ _) goodL_no fun _ _ h => ?_
  subst h
  refine rV_ok (p := GoodL _ _ _) goodL_no fun _ h => ?_
  subst h
  refine vS_ok (p := GoodL _ _ _) goodL_no fun _ h => ?_
  subst h
  refine gC_ok (p := GoodL _ _ _) goodL_no fun _ _ h => ?_
  subst h
  refine rV_ok (p := GoodL _ _ _) goodL_no fun _ h => ?_
  subst h
  refine vB_ok (p := GoodL _ _ _) goodL_no fun _ h => ?_
  subst h
  refine gC_ok (p := GoodL _ _ _) goodL_no fun _ _ h => ?_
  subst h
  refine rV_ok (p := GoodL _ _ _) goodL_no fun _ h => ?_
  subst h
  refine vI_ok (p := GoodL _ _ _) goodL_no fun _ h => ?_
  subst h
  refine gC_ok (p := GoodL _ _ _) goodL_no fun _ _ h => ?_
  subst h
  refine rV_ok (p := GoodL _ _ _) goodL_no fun _ h => ?_
  subst h
  refine vI_ok (p := GoodL _ _ _) goodL_no fun _ h => ?_
  subst h
  refine gC_ok (p := GoodL _ _ _) goodL_no fun _ _ h => ?_
  subst h
  refine rImm_ok (p := GoodL _ _ _) goodL_no fun _ h => ?_
  subst h
  refine gE_ok (p := GoodL _ _ _) goodL_no fun h => ?_
  subst h
  refine gE_ok (p := GoodL _ _ _) goodL_no fun h => ?_
  subst h
  refine gN_ok (p := GoodL _ _ _) goodL_no fun h => ?_
  subst h
  exact f162i.l3.good g162 k _ _ _ _ _ _ _
theorem f162i.nat {R : Type} (g162 : ByteArray → Bool → Int → Int → (List S79) → Option Int) (k : Nat) (g : Int → Option R) (s1 : ByteArray) (b2 : Bool) (a3 : Int) (a4 : Int) (xs5 : List S79) : f162i.step g162 k g s1 b2 a3 a4 xs5 = (f162i g162 k s1 b2 a3 a4 xs5).bind g := by
  simp only [f162i, f162i.step, bind_ite, bind_sum, Option.bind_assoc, Option.bind_some, Option.bind_none]
theorem f162i.ev (g162 : ByteArray → Bool → Int → Int → (List S79) → Option Int) (k : Nat) (s1 : ByteArray) (b2 : Bool) (a3 : Int) (a4 : Int) (xs5 : List S79) : evF (f162i.X g162 k) (bodyOf Try.f162) Try.f162.ntmps Try.f162.results.toList [.g [.s (.string s1), .s (.bool b2), .s (.int .i64 a3), .s (.int .i64 a4), .sl 79 xs5]] = f162i.step g162 k (fun x => f162i.w x some) s1 b2 a3 a4 xs5 := by kernel_rfl
theorem f162i.hok (g162 : ByteArray → Bool → Int → Int → (List S79) → Option Int) (k : Nat) : HOK (f162i.X g162 k) (bodyOf Try.f162) where
  l := allP_mem (by exact ⟨ls_of (h0 := fun S => f162i.l3.hd g162 k S.ts S.m S.n) (by kernel_rfl) (f162i.l3.all g162 k), trivial⟩)
  j := allP_mem (by exact trivial)
theorem f162i.sound0 (g162 : ByteArray → Bool → Int → Int → (List S79) → Option Int) (hg_ : SoundC env Try.prog 162 (f162i.eG g162).F) (k : Nat) : SoundC env Try.prog 162 (f162i.hd g162 k) := by
  intro ps_
  show GoodC _ _ _ ps_ (f162i.hd g162 k ps_)
  unfold f162i.hd f162i.hdG
  refine gC_ok (p := GoodC env Try.prog 162 _) goodC_no fun _ _ h => ?_
  subst h
  refine qG_ok (p := GoodC env Try.prog 162 _) goodC_no fun _ h => ?_
  subst h
  refine gC_ok (p := GoodC env Try.prog 162 _) goodC_no fun _ _ h => ?_
  subst h
  refine qS_ok (p := GoodC env Try.prog 162 _) goodC_no fun _ h => ?_
  subst h
  refine vS_ok (p := GoodC env Try.prog 162 _) goodC_no fun _ h => ?_
  subst h
  refine gC_ok (p := GoodC env Try.prog 162 _) goodC_no fun _ _ h => ?_
  subst h
  refine qS_ok (p := GoodC env Try.prog 162 _) goodC_no fun _ h => ?_
  subst h
  refine vB_ok (p := GoodC env Try.prog 162 _) goodC_no fun _ h => ?_
  subst h
  refine gC_ok (p := GoodC env Try.prog 162 _) goodC_no fun _ _ h => ?_
  subst h
  refine qS_ok (p := GoodC env Try.prog 162 _) goodC_no fun _ h => ?_
  subst h
  refine vI_ok (p := GoodC env Try.prog 162 _) goodC_no fun _ h => ?_
  subst h
  refine gC_ok (p := GoodC env Try.prog 162 _) goodC_no fun _ _ h => ?_
  subst h
  refine qS_ok (p := GoodC env Try.prog 162 _) goodC_no fun _ h => ?_
  subst h
  refine vI_ok (p := GoodC env Try.prog 162 _) goodC_no fun _ h => ?_
  subst h
  refine gC_ok (p := GoodC env Try.prog 162 _) goodC_no fun _ _ h => ?_
  subst h
  refine qSl_ok (p := GoodC env Try.prog 162 _) goodC_no fun _ h => ?_
  subst h
  refine gE_ok (p := GoodC env Try.prog 162 _) goodC_no fun h => ?_
  subst h
  refine gE_ok (p := GoodC env Try.prog 162 _) goodC_no fun h => ?_
  subst h
  exact fun_good (fun_sound envOK (cs_sound _ (by exact ⟨⟨f99.sound k, f99.fnok⟩, ⟨hg_, f162.fnok⟩, trivial⟩)) (f162i.hok g162 k) Try.func162 rfl) ((f162i.ev g162 k _ _ _ _ _).trans (f162i.nat g162 k _ _ _ _ _ _))
theorem f162i.sound (g162 : ByteArray → Bool → Int → Int → (List S79) → Option Int) (hg_ : SoundC env Try.prog 162 (f162i.eG g162).F) (k : Nat) : SoundC env Try.prog 162 (f162i.e g162 k).F := soundC_coer (f162i.sound0 g162 hg_ k) [[.no, .no, .no, .no, .rd 79]]
def f162i.r (k : Nat) : Nat → ByteArray → Bool → Int → Int → (List S79) → Option Int
  | 0 => fun _ _ _ _ _ => none
  | j + 1 => fun s1 b2 a3 a4 xs5 => f162i (f162i.r k j) k s1 b2 a3 a4 xs5
theorem f162i.all_ (k : Nat) : ∀ j, SoundC env Try.prog 162 (f162i.eG (f162i.r k j)).F
  | 0 => f162i.none_
  | j + 1 => f162i.sound (f162i.r k j) (f162i.all_ k j) k
def f162 (k : Nat) (s1 : ByteArray) (b2 : Bool) (a3 : Int) (a4 : Int) (xs5 : List S79) : Option Int := f162i.r k k s1 b2 a3 a4 xs5
def f162.e (k : Nat) : Entry env := f162i.eG (f162 k)
theorem f162.sound (k : Nat) : SoundC env Try.prog 162 (f162.e k).F := f162i.all_ k k
def f114.step {R : Type} (k : Nat) (ret : Bool → Option R) (s1 : ByteArray) (b2 : Bool) (a3 : Int) (a4 : Int) (xs5 : List S79) : Option R :=
  (f161 k s1 b2 a3 a4 xs5 true (0 : Int)).bind fun t6 => if t6 = true then
      (f162 k s1 b2 a3 a4 xs5).bind fun t7 => ret (decide (t7 ≤ (60 : Int)))
    else
      ret false
def f114 (k : Nat) (s1 : ByteArray) (b2 : Bool) (a3 : Int) (a4 : Int) (xs5 : List S79) : Option Bool := f114.step k some s1 b2 a3 a4 xs5
def f114.w {R : Type} : Bool → (Res env → Option R) → Option R := fun t8 K => K ⟨.v (.c (.s (.bool t8))), [[]]⟩
theorem f114.wn (x : Bool) : ∃ res, ∀ {R : Type} (K : Res env → Option R), f114.w x K = K res := by
  exact ⟨_, fun _ => rfl⟩
def f114.hd (k : Nat) (ps_ : List (P2 env)) : Cl env :=
  gC Cl.no ps_ fun p_ ps_ => qG Cl.no p_ fun cs_ => gC Cl.no cs_ fun c_ cs_ => qS Cl.no c_ fun v_ => vS Cl.no v_ fun s1 => gC Cl.no cs_ fun c_ cs_ => qS Cl.no c_ fun v_ => vB Cl.no v_ fun b2 => gC Cl.no cs_ fun c_ cs_ => qS Cl.no c_ fun v_ => vI Cl.no .i64 v_ fun a3 => gC Cl.no cs_ fun c_ cs_ => qS Cl.no c_ fun v_ => vI Cl.no .i64 v_ fun a4 => gC Cl.no cs_ fun c_ cs_ => qSl Cl.no 79 c_ fun xs5 => gE Cl.no cs_ <| gE Cl.no ps_ <| { α := Bool, o := f114 k s1 b2 a3 a4 xs5, w := f114.w, nat := fun x _ => f114.wn x }
def f114.e (k : Nat) : Entry env := ⟨fun ps => f114.hd k (coer [[.no, .no, .no, .no, .rd 79]] ps), [], []⟩
def f114.X (k : Nat) : Ctx env := { C := lookE [(161, f161.e k), (162, f162.e k)], L := lookE [], J := lookE [], keep := lookD [], keepX := lookD [], span := lookN [], eff := fun n => memN n [], prep := lookP [], np := 0 }
theorem f114.nat {R : Type} (k : Nat) (g : Bool → Option R) (s1 : ByteArray) (b2 : Bool) (a3 : Int) (a4 : Int) (xs5 : List S79) : f114.step k g s1 b2 a3 a4 xs5 = (f114 k s1 b2 a3 a4 xs5).bind g := by
  simp only [f114, f114.step, bind_ite, bind_sum, Option.bind_assoc, Option.bind_some, Option.bind_none]
theorem f114.ev (k : Nat) (s1 : ByteArray) (b2 : Bool) (a3 : Int) (a4 : Int) (xs5 : List S79) : evF (f114.X k) (bodyOf Try.f114) Try.f114.ntmps Try.f114.results.toList [.g [.s (.string s1), .s (.bool b2), .s (.int .i64 a3), .s (.int .i64 a4), .sl 79 xs5]] = f114.step k (fun x => f114.w x some) s1 b2 a3 a4 xs5 := by kernel_rfl
theorem f114.hok (k : Nat) : HOK (f114.X k) (bodyOf Try.f114) where
  l := allP_mem (by exact trivial)
  j := allP_mem (by exact trivial)
theorem f114.sound0 (k : Nat) : SoundC env Try.prog 114 (f114.hd k) := by
  intro ps_
  show GoodC _ _ _ ps_ (f114.hd k ps_)
  unfold f114.hd
  refine gC_ok (p := GoodC env Try.prog 114 _) goodC_no fun _ _ h => ?_
  subst h
  refine qG_ok (p := GoodC env Try.prog 114 _) goodC_no fun _ h => ?_
  subst h
  refine gC_ok (p := GoodC env Try.prog 114 _) goodC_no fun _ _ h => ?_
  subst h
  refine qS_ok (p := GoodC env Try.prog 114 _) goodC_no fun _ h => ?_
  subst h
  refine vS_ok (p := GoodC env Try.prog 114 _) goodC_no fun _ h => ?_
  subst h
  refine gC_ok (p := GoodC env Try.prog 114 _) goodC_no fun _ _ h => ?_
  subst h
  refine qS_ok (p := GoodC env Try.prog 114 _) goodC_no fun _ h => ?_
  subst h
  refine vB_ok (p := GoodC env Try.prog 114 _) goodC_no fun _ h => ?_
  subst h
  refine gC_ok (p := GoodC env Try.prog 114 _) goodC_no fun _ _ h => ?_
  subst h
  refine qS_ok (p := GoodC env Try.prog 114 _) goodC_no fun _ h => ?_
  subst h
  refine vI_ok (p := GoodC env Try.prog 114 _) goodC_no fun _ h => ?_
  subst h
  refine gC_ok (p := GoodC env Try.prog 114 _) goodC_no fun _ _ h => ?_
  subst h
  refine qS_ok (p := GoodC env Try.prog 114 _) goodC_no fun _ h => ?_
  subst h
  refine vI_ok (p := GoodC env Try.prog 114 _) goodC_no fun _ h => ?_
  subst h
  refine gC_ok (p := GoodC env Try.prog 114 _) goodC_no fun _ _ h => ?_
  subst h
  refine qSl_ok (p := GoodC env Try.prog 114 _) goodC_no fun _ h => ?_
  subst h
  refine gE_ok (p := GoodC env Try.prog 114 _) goodC_no fun h => ?_
  subst h
  refine gE_ok (p := GoodC env Try.prog 114 _) goodC_no fun h => ?_
  subst h
  exact fun_good (fun_sound envOK (cs_sound _ (by exact ⟨⟨f161.sound k, f161.fnok⟩, ⟨f162.sound k, f162.fnok⟩, trivial⟩)) (f114.hok k) Try.func114 rfl) ((f114.ev k _ _ _ _ _).trans (f114.nat k _ _ _ _ _ _))
theorem f114.sound (k : Nat) : SoundC env Try.prog 114 (f114.e k).F := soundC_coer (f114.sound0 k) [[.no, .no, .no, .no, .rd 79]]
theorem f114.says (k : Nat) (s1 : ByteArray) (b2 : Bool) (a3 : Int) (a4 : Int) (xs5 : List S79) (t9 : Bool) (h_ : f114 k s1 b2 a3 a4 xs5 = some t9) : SoundAt env Try.prog 114 [.g [.s (.string s1), .s (.bool b2), .s (.int .i64 a3), .s (.int .i64 a4), .sl 79 xs5]] ⟨.v (.c (.s (.bool t9))), [[]]⟩ :=
  fun_sound envOK (cs_sound _ (by exact ⟨⟨f161.sound k, f161.fnok⟩, ⟨f162.sound k, f162.fnok⟩, trivial⟩)) (f114.hok k) Try.func114 rfl _ _ (((f114.ev k s1 b2 a3 a4 xs5).trans (f114.nat k _ s1 b2 a3 a4 xs5)).trans (by rw [h_]; rfl))
theorem f114.fnok : FnOK Try.prog 114 := fn_ok Try.func114 (by kernel_rfl) rfl
def f115i.w {R : Type} : ((List S158) × Bool) → (Res env → Option R) → Option R := fun t27 K => K ⟨.v (.c (.own true 158 t27.1)), [[], [.s (.bool t27.2)]]⟩
theorem f115i.wn (x : ((List S158) × Bool)) : ∃ res, ∀ {R : Type} (K : Res env → Option R), f115i.w x K = K res := by
  exact ⟨_, fun _ => rfl⟩
def f115i.hdG (G_ : ByteArray → Bool → Int → Int → (List S79) → (List S158) → Option ((List S158) × Bool)) (ps_ : List (P2 env)) : Cl env :=
  gC Cl.no ps_ fun p_ ps_ => qG Cl.no p_ fun cs_ => gC Cl.no cs_ fun c_ cs_ => qS Cl.no c_ fun v_ => vS Cl.no v_ fun s1 => gC Cl.no cs_ fun c_ cs_ => qS Cl.no c_ fun v_ => vB Cl.no v_ fun b2 => gC Cl.no cs_ fun c_ cs_ => qS Cl.no c_ fun v_ => vI Cl.no .i64 v_ fun a3 => gC Cl.no cs_ fun c_ cs_ => qS Cl.no c_ fun v_ => vI Cl.no .i64 v_ fun a4 => gC Cl.no cs_ fun c_ cs_ => qSl Cl.no 79 c_ fun xs5 => gE Cl.no cs_ <| gC Cl.no ps_ fun p_ ps_ => qC Cl.no p_ fun c_ => qWr Cl.no 158 c_ fun xs6 => gE Cl.no ps_ <| { α := (List S158) × Bool, o := G_ s1 b2 a3 a4 xs5 xs6, w := f115i.w, nat := fun x _ => f115i.wn x }
def f115i.eG (G_ : ByteArray → Bool → Int → Int → (List S79) → (List S158) → Option ((List S158) × Bool)) : Entry env := ⟨fun ps => f115i.hdG G_ (coer [[.no, .no, .no, .no, .rd 79], [.wr 158]] ps), [(1, 0)], []⟩
theorem f115i.none_ : SoundC env Try.prog 115 (f115i.eG (fun _ _ _ _ _ _ => none)).F := by
  refine soundC_coer (F := f115i.hdG (fun _ _ _ _ _ _ => none)) ?_ [[.no, .no, .no, .no, .rd 79], [.wr 158]]
  intro ps_
  show GoodC _ _ _ ps_ (f115i.hdG (fun _ _ _ _ _ _ => none) ps_)
  unfold f115i.hdG
  refine gC_ok (p := GoodC env Try.prog 115 _) goodC_no fun _ _ h => ?_
  subst h
  refine qG_ok (p := GoodC env Try.prog 115 _) goodC_no fun _ h => ?_
  subst h
  refine gC_ok (p := GoodC env Try.prog 115 _) goodC_no fun _ _ h => ?_
  subst h
  refine qS_ok (p := GoodC env Try.prog 115 _) goodC_no fun _ h => ?_
  subst h
  refine vS_ok (p := GoodC env Try.prog 115 _) goodC_no fun _ h => ?_
  subst h
  refine gC_ok (p := GoodC env Try.prog 115 _) goodC_no fun _ _ h => ?_
  subst h
  refine qS_ok (p := GoodC env Try.prog 115 _) goodC_no fun _ h => ?_
  subst h
  refine vB_ok (p := GoodC env Try.prog 115 _) goodC_no fun _ h => ?_
  subst h
  refine gC_ok (p := GoodC env Try.prog 115 _) goodC_no fun _ _ h => ?_
  subst h
  refine qS_ok (p := GoodC env Try.prog 115 _) goodC_no fun _ h => ?_
  subst h
  refine vI_ok (p := GoodC env Try.prog 115 _) goodC_no fun _ h => ?_
  subst h
  refine gC_ok (p := GoodC env Try.prog 115 _) goodC_no fun _ _ h => ?_
  subst h
  refine qS_ok (p := GoodC env Try.prog 115 _) goodC_no fun _ h => ?_
  subst h
  refine vI_ok (p := GoodC env Try.prog 115 _) goodC_no fun _ h => ?_
  subst h
  refine gC_ok (p := GoodC env Try.prog 115 _) goodC_no fun _ _ h => ?_
  subst h
  refine qSl_ok (p := GoodC env Try.prog 115 _) goodC_no fun _ h => ?_
  subst h
  refine gE_ok (p := GoodC env Try.prog 115 _) goodC_no fun h => ?_
  subst h
  refine gC_ok (p := GoodC env Try.prog 115 _) goodC_no fun _ _ h => ?_
  subst h
  refine qC_ok (p := GoodC env Try.prog 115 _) goodC_no fun _ h => ?_
  subst h
  refine qWr_ok (p := GoodC env Try.prog 115 _) goodC_no fun _ h => ?_
  subst h
  refine gE_ok (p := GoodC env Try.prog 115 _) goodC_no fun h => ?_
  subst h
  intro x h; cases h
theorem f115.fnok : FnOK Try.prog 115 := fn_ok Try.func115 (by kernel_rfl) rfl
def f115i.l4.step {R : Type} (g115 : ByteArray → Bool → Int → Int → (List S79) → (List S158) → Option ((List S158) × Bool)) (k : Nat) (rec_ : Int → ByteArray → Bool → Int → Int → (List S79) → (List S158) → Option R) (ret : ((List S158)) → Option R) (a7 : Int) (s8 : ByteArray) (b9 : Bool) (a10 : Int) (a11 : Int) (xs12 : List S79) (xs13 : List S158) : Option R :=
  if (decide (a7 < (((List.length xs12) : Nat) : Int))) = true then
    if (0 : Int) ≤ a7 then
      if a7 < ((List.length xs12 : Nat) : Int) then
        (g115 (List.getD xs12 (Int.toNat a7) (⟨ByteArray.empty, false, (0 : Int), (0 : Int), []⟩ : S79)).f0 (List.getD xs12 (Int.toNat a7) (⟨ByteArray.empty, false, (0 : Int), (0 : Int), []⟩ : S79)).f1 (List.getD xs12 (Int.toNat a7) (⟨ByteArray.empty, false, (0 : Int), (0 : Int), []⟩ : S79)).f2 (List.getD xs12 (Int.toNat a7) (⟨ByteArray.empty, false, (0 : Int), (0 : Int), []⟩ : S79)).f3 (List.getD xs12 (Int.toNat a7) (⟨ByteArray.empty, false, (0 : Int), (0 : Int), []⟩ : S79)).f4 xs13).bind fun t14 => rec_ (IntKind.i64.wrap (a7 + (1 : Int))) s8 b9 a10 a11 xs12 t14.1
      else none
    else none
  else
    ret xs13
def f115i.l4 (g115 : ByteArray → Bool → Int → Int → (List S79) → (List S158) → Option ((List S158) × Bool)) (k : Nat) : Nat → Int → ByteArray → Bool → Int → Int → (List S79) → (List S158) → Option ((List S158))
  | 0, _, _, _, _, _, _, _ => none
  | j + 1, a7, s8, b9, a10, a11, xs12, xs13 => f115i.l4.step g115 k (fun a7 s8 b9 a10 a11 xs12 xs13 => f115i.l4 g115 k j a7 s8 b9 a10 a11 xs12 xs13) some a7 s8 b9 a10 a11 xs12 xs13
def f115i.l4.w {R : Type} : ((List S158)) → (Exit → St env → Option R) → Option R := fun t25 K => K (.exit 0) ⟨fullT [1] 0 33 [.v (.c (.row 386))], [(386, .row true 158 t25)], 658⟩
def f115i.l4.st (a7 : Int) (s8 : ByteArray) (b9 : Bool) (a10 : Int) (a11 : Int) (xs12 : List S79) (xs13 : List S158) : St env := ⟨fullT [1, 2, 5] 0 33 [.v (.c (.row 386)), .v (.c (.bp 130 0)), .v (.c (.s (.int .i64 a7)))], [(130, .box [.s (.string s8), .s (.bool b9), .s (.int .i64 a10), .s (.int .i64 a11), .imm 79 xs12]), (386, .row true 158 xs13)], 402⟩
def f115i.l4_1.step {R : Type} (g115 : ByteArray → Bool → Int → Int → (List S79) → (List S158) → Option ((List S158) × Bool)) (k : Nat) (rec_ : Int → ByteArray → Bool → Int → Int → (List S79) → (List S158) → Option R) (ret : ((List S158)) → Option R) (a16 : Int) (s17 : ByteArray) (b18 : Bool) (a19 : Int) (a20 : Int) (xs21 : List S79) (xs22 : List S158) : Option R :=
  if (decide (a16 < (((List.length xs21) : Nat) : Int))) = true then
    if (0 : Int) ≤ a16 then
      if a16 < ((List.length xs21 : Nat) : Int) then
        (g115 (List.getD xs21 (Int.toNat a16) (⟨ByteArray.empty, false, (0 : Int), (0 : Int), []⟩ : S79)).f0 (List.getD xs21 (Int.toNat a16) (⟨ByteArray.empty, false, (0 : Int), (0 : Int), []⟩ : S79)).f1 (List.getD xs21 (Int.toNat a16) (⟨ByteArray.empty, false, (0 : Int), (0 : Int), []⟩ : S79)).f2 (List.getD xs21 (Int.toNat a16) (⟨ByteArray.empty, false, (0 : Int), (0 : Int), []⟩ : S79)).f3 (List.getD xs21 (Int.toNat a16) (⟨ByteArray.empty, false, (0 : Int), (0 : Int), []⟩ : S79)).f4 xs22).bind fun t23 => rec_ (IntKind.i64.wrap (a16 + (1 : Int))) s17 b18 a19 a20 xs21 t23.1
      else none
    else none
  else
    ret xs22
def f115i.l4_1 (g115 : ByteArray → Bool → Int → Int → (List S79) → (List S158) → Option ((List S158) × Bool)) (k : Nat) : Nat → Int → ByteArray → Bool → Int → Int → (List S79) → (List S158) → Option ((List S158))
  | 0, _, _, _, _, _, _, _ => none
  | j + 1, a16, s17, b18, a19, a20, xs21, xs22 => f115i.l4_1.step g115 k (fun a16 s17 b18 a19 a20 xs21 xs22 => f115i.l4_1 g115 k j a16 s17 b18 a19 a20 xs21 xs22) some a16 s17 b18 a19 a20 xs21 xs22
def f115i.l4_1.w {R : Type} : ((List S158)) → (Exit → St env → Option R) → Option R := fun t26 K => K (.exit 0) ⟨fullT [1] 0 33 [.v (.c (.row 210))], [(210, .row true 158 t26)], 482⟩
def f115i.l4_1.st (a16 : Int) (s17 : ByteArray) (b18 : Bool) (a19 : Int) (a20 : Int) (xs21 : List S79) (xs22 : List S158) : St env := ⟨fullT [1, 2, 5] 0 33 [.v (.c (.row 210)), .v (.c (.bp 130 0)), .v (.c (.s (.int .i64 a16)))], [(130, .box [.s (.string s17), .s (.bool b18), .s (.int .i64 a19), .s (.int .i64 a20), .imm 79 xs21]), (210, .row true 158 xs22)], 226⟩
def f115i.l4_1.hd (g115 : ByteArray → Bool → Int → Int → (List S79) → (List S158) → Option ((List S158) × Bool)) (k : Nat) (ts_ : List (AV env)) (mm_ : Mem env) (n_ : Nat) : LCl env :=
  gTs LCl.no [1, 2, 5] 33 ts_ fun l_ => gV LCl.no l_ fun a_ l_ => rRow LCl.no 210 a_ <| gV LCl.no l_ fun a_ l_ => rBp LCl.no 130 0 a_ <| gV LCl.no l_ fun a_ l_ => rV LCl.no a_ fun v_ => vI LCl.no .i64 v_ fun a16 => gE LCl.no l_ <| mBox LCl.no 130 mm_ fun c_ m_ => gC LCl.no c_ fun a_ c_ => rV LCl.no a_ fun v_ => vS LCl.no v_ fun s17 => gC LCl.no c_ fun a_ c_ => rV LCl.no a_ fun v_ => vB LCl.no v_ fun b18 => gC LCl.no c_ fun a_ c_ => rV LCl.no a_ fun v_ => vI LCl.no .i64 v_ fun a19 => gC LCl.no c_ fun a_ c_ => rV LCl.no a_ fun v_ => vI LCl.no .i64 v_ fun a20 => gC LCl.no c_ fun a_ c_ => rImm LCl.no 79 a_ fun xs21 => gE LCl.no c_ <| mRow LCl.no 210 true 158 m_ fun xs22 m_ => gE LCl.no m_ <| gN LCl.no 226 n_ { α := (List S158), o := f115i.l4_1 g115 k k a16 s17 b18 a19 a20 xs21 xs22, w := f115i.l4_1.w }
def f115i.l4.hd (g115 : ByteArray → Bool → Int → Int → (List S79) → (List S158) → Option ((List S158) × Bool)) (k : Nat) (ts_ : List (AV env)) (mm_ : Mem env) (n_ : Nat) : LCl env :=
  gTs (f115i.l4_1.hd g115 k ts_ mm_ n_) [1, 2, 5] 33 ts_ fun l_ => gV (f115i.l4_1.hd g115 k ts_ mm_ n_) l_ fun a_ l_ => rRow (f115i.l4_1.hd g115 k ts_ mm_ n_) 386 a_ <| gV (f115i.l4_1.hd g115 k ts_ mm_ n_) l_ fun a_ l_ => rBp (f115i.l4_1.hd g115 k ts_ mm_ n_) 130 0 a_ <| gV (f115i.l4_1.hd g115 k ts_ mm_ n_) l_ fun a_ l_ => rV (f115i.l4_1.hd g115 k ts_ mm_ n_) a_ fun v_ => vI (f115i.l4_1.hd g115 k ts_ mm_ n_) .i64 v_ fun a7 => gE (f115i.l4_1.hd g115 k ts_ mm_ n_) l_ <| mBox (f115i.l4_1.hd g115 k ts_ mm_ n_) 130 mm_ fun c_ m_ => gC (f115i.l4_1.hd g115 k ts_ mm_ n_) c_ fun a_ c_ => rV (f115i.l4_1.hd g115 k ts_ mm_ n_) a_ fun v_ => vS (f115i.l4_1.hd g115 k ts_ mm_ n_) v_ fun s8 => gC (f115i.l4_1.hd g115 k ts_ mm_ n_) c_ fun a_ c_ => rV (f115i.l4_1.hd g115 k ts_ mm_ n_) a_ fun v_ => vB (f115i.l4_1.hd g115 k ts_ mm_ n_) v_ fun b9 => gC (f115i.l4_1.hd g115 k ts_ mm_ n_) c_ fun a_ c_ => rV (f115i.l4_1.hd g115 k ts_ mm_ n_) a_ fun v_ => vI (f115i.l4_1.hd g115 k ts_ mm_ n_) .i64 v_ fun a10 => gC (f115i.l4_1.hd g115 k ts_ mm_ n_) c_ fun a_ c_ => rV (f115i.l4_1.hd g115 k ts_ mm_ n_) a_ fun v_ => vI (f115i.l4_1.hd g115 k ts_ mm_ n_) .i64 v_ fun a11 => gC (f115i.l4_1.hd g115 k ts_ mm_ n_) c_ fun a_ c_ => rImm (f115i.l4_1.hd g115 k ts_ mm_ n_) 79 a_ fun xs12 => gE (f115i.l4_1.hd g115 k ts_ mm_ n_) c_ <| mRow (f115i.l4_1.hd g115 k ts_ mm_ n_) 386 true 158 m_ fun xs13 m_ => gE (f115i.l4_1.hd g115 k ts_ mm_ n_) m_ <| gN (f115i.l4_1.hd g115 k ts_ mm_ n_) 402 n_ { α := (List S158), o := f115i.l4 g115 k k a7 s8 b9 a10 a11 xs12 xs13, w := f115i.l4.w }
def f115i.step {R : Type} (g115 : ByteArray → Bool → Int → Int → (List S79) → (List S158) → Option ((List S158) × Bool)) (k : Nat) (ret : ((List S158) × Bool) → Option R) (s1 : ByteArray) (b2 : Bool) (a3 : Int) (a4 : Int) (xs5 : List S79) (xs6 : List S158) : Option R :=
  if b2 = true then
    if (List.length xs6 + List.length ([(⟨s1, a3, a4⟩ : S158)] : List S158)) * 32 ≤ maxN then
      (f115i.l4 g115 k k (0 : Int) s1 b2 a3 a4 xs5 (xs6 ++ ([(⟨s1, a3, a4⟩ : S158)] : List S158))).bind fun t15 => ret (t15, false)
    else none
  else
    (f115i.l4_1 g115 k k (0 : Int) s1 b2 a3 a4 xs5 xs6).bind fun t24 => ret (t24, false)
def f115i (g115 : ByteArray → Bool → Int → Int → (List S79) → (List S158) → Option ((List S158) × Bool)) (k : Nat) (s1 : ByteArray) (b2 : Bool) (a3 : Int) (a4 : Int) (xs5 : List S79) (xs6 : List S158) : Option ((List S158) × Bool) := f115i.step g115 k some s1 b2 a3 a4 xs5 xs6
def f115i.hd (g115 : ByteArray → Bool → Int → Int → (List S79) → (List S158) → Option ((List S158) × Bool)) (k : Nat) (ps_ : List (P2 env)) : Cl env := f115i.hdG (f115i g115 k) ps_
def f115i.e (g115 : ByteArray → Bool → Int → Int → (List S79) → (List S158) → Option ((List S158) × Bool)) (k : Nat) : Entry env := f115i.eG (f115i g115 k)
def f115i.X (g115 : ByteArray → Bool → Int → Int → (List S79) → (List S158) → Option ((List S158) × Bool)) (k : Nat) : Ctx env := { C := lookE [(115, f115i.eG g115)], L := lookE [(4, fun S => f115i.l4.hd g115 k S.ts S.m S.n)], J := lookE [], keep := lookD [(4, [1, 2, 5])], keepX := lookD [(4, [1])], span := lookN [(4, 256)], eff := fun n => memN n [], prep := lookP [(4, [.mvT 1])], np := 130 }
theorem f115i.l4_1.nat {R : Type} (g115 : ByteArray → Bool → Int → Int → (List S79) → (List S158) → Option ((List S158) × Bool)) (k : Nat) (rec_ : Int → ByteArray → Bool → Int → Int → (List S79) → (List S158) → Option ((List S158))) (g : ((List S158)) → Option R) (a16 : Int) (s17 : ByteArray) (b18 : Bool) (a19 : Int) (a20 : Int) (xs21 : List S79) (xs22 : List S158) : (f115i.l4_1.step g115 k rec_ some a16 s17 b18 a19 a20 xs21 xs22).bind g = f115i.l4_1.step g115 k (fun a16 s17 b18 a19 a20 xs21 xs22 => (rec_ a16 s17 b18 a19 a20 xs21 xs22).bind g) g a16 s17 b18 a19 a20 xs21 xs22 := by
  simp only [f115i.l4_1.step, bind_ite, bind_sum, Option.bind_assoc, Option.bind_some, Option.bind_none]
theorem f115i.l4_1.good (g115 : ByteArray → Bool → Int → Int → (List S79) → (List S158) → Option ((List S158) × Bool)) (k : Nat) (a16 : Int) (s17 : ByteArray) (b18 : Bool) (a19 : Int) (a20 : Int) (xs21 : List S79) (xs22 : List S158) : GoodL (f115i.X g115 k) (nthC 0 (loopsOf (bodyOf Try.f115))) (f115i.l4_1.st a16 s17 b18 a19 a20 xs21 xs22) { α := ((List S158)), o := f115i.l4_1 g115 k k a16 s17 b18 a19 a20 xs21 xs22, w := f115i.l4_1.w } :=
  loop_good (ι := Int × ByteArray × Bool × Int × Int × (List S79) × (List S158)) (α := ((List S158))) (fun i => f115i.l4_1.st i.1 i.2.1 i.2.2.1 i.2.2.2.1 i.2.2.2.2.1 i.2.2.2.2.2.1 i.2.2.2.2.2.2) (fun j i => f115i.l4_1 g115 k j i.1 i.2.1 i.2.2.1 i.2.2.2.1 i.2.2.2.2.1 i.2.2.2.2.2.1 i.2.2.2.2.2.2) f115i.l4_1.w (fun rec_ ret i => f115i.l4_1.step g115 k (fun a16 s17 b18 a19 a20 xs21 xs22 => rec_ (a16, s17, b18, a19, a20, xs21, xs22)) ret i.1 i.2.1 i.2.2.1 i.2.2.2.1 i.2.2.2.2.1 i.2.2.2.2.2.1 i.2.2.2.2.2.2)
    (fun _ => rfl) (fun _ _ => rfl) (fun rec_ g i => f115i.l4_1.nat g115 k _ g i.1 i.2.1 i.2.2.1 i.2.2.2.1 i.2.2.2.2.1 i.2.2.2.2.2.1 i.2.2.2.2.2.2) (fun {R} i0 i rec_ K => by kernel_rfl) k (a16, s17, b18, a19, a20, xs21, xs22)
theorem f115i.l4_1.all (g115 : ByteArray → Bool → Int → Int → (List S79) → (List S158) → Option ((List S158) × Bool)) (k : Nat) (S : St env) : GoodL (f115i.X g115 k) (nthC 0 (loopsOf (bodyOf Try.f115))) S (f115i.l4_1.hd g115 k S.ts S.m S.n) := by
  obtain ⟨ts_, m_, n_⟩ := S
  show GoodL _ _ _ (f115i.l4_1.hd g115 k ts_ m_ n_)
  unfold f115i.l4_1.hd
  refine gTs_ok (p := GoodL _ _ _) goodL_no fun _ h => ?_
  subst h
  refine gV_ok (p := GoodL _ _ _) goodL_no fun _ _ h => ?_
  subst h
  refine rRow_ok (p := GoodL _ _ _) goodL_no fun h => ?_
  subst h
  refine gV_ok (p := GoodL _ _ _) goodL_no fun _ _ h => ?_
  subst h
  refine rBp_ok (p := GoodL _ _ _) goodL_no fun h => ?_
  subst h
  refine gV_ok (p := GoodL _ _ _) goodL_no fun _ _ h => ?_
  subst h
  refine rV_ok (p := GoodL _ _ _) goodL_no fun _ h => ?_
  subst h
  refine vI_ok (p := GoodL _ _ _) goodL_no fun _ h => ?_
  subst h
  refine gE_ok (p := GoodL _ _ _) goodL_no fun h => ?_
  subst h
  refine mBox_ok (p := GoodL _ _ _) goodL_no fun _ _ h => ?_
  subst h
  refine gC_ok (p := GoodL _ _ _) goodL_no fun _ _ h => ?_
  subst h
  refine rV_ok (p := GoodL _ _ _) goodL_no fun _ h => ?_
  subst h
  refine vS_ok (p := GoodL _ _ _) goodL_no fun _ h => ?_
  subst h
  refine gC_ok (p := GoodL _ _ _) goodL_no fun _ _ h => ?_
  subst h
  refine rV_ok (p := GoodL _ _ _) goodL_no fun _ h => ?_
  subst h
  refine vB_ok (p := GoodL _ _ _) goodL_no fun _ h => ?_
  subst h
  refine gC_ok (p := GoodL _ _ _) goodL_no fun _ _ h => ?_
  subst h
  refine rV_ok (p := GoodL _ _ _) goodL_no fun _ h => ?_
  subst h
  refine vI_ok (p := GoodL _ _ _) goodL_no fun _ h => ?_
  subst h
  refine gC_ok (p := GoodL _ _ _) goodL_no fun _ _ h => ?_
  subst h
  refine rV_ok (p := GoodL _ _ _) goodL_no fun _ h => ?_
  subst h
  refine vI_ok (p := GoodL _ _ _) goodL_no fun _ h => ?_
  subst h
  refine gC_ok (p := GoodL _ _ _) goodL_no fun _ _ h => ?_
  subst h
  refine rImm_ok (p := GoodL _ _ _) goodL_no fun _ h => ?_
  subst h
  refine gE_ok (p := GoodL _ _ _) goodL_no fun h => ?_
  subst h
  refine mRow_ok (p := GoodL _ _ _) goodL_no fun _ _ h => ?_
  subst h
  refine gE_ok (p := GoodL _ _ _) goodL_no fun h => ?_
  subst h
  refine gN_ok (p := GoodL _ _ _) goodL_no fun h => ?_
  subst h
  exact f115i.l4_1.good g115 k _ _ _ _ _ _ _
theorem f115i.l4.nat {R : Type} (g115 : ByteArray → Bool → Int → Int → (List S79) → (List S158) → Option ((List S158) × Bool)) (k : Nat) (rec_ : Int → ByteArray → Bool → Int → Int → (List S79) → (List S158) → Option ((List S158))) (g : ((List S158)) → Option R) (a7 : Int) (s8 : ByteArray) (b9 : Bool) (a10 : Int) (a11 : Int) (xs12 : List S79) (xs13 : List S158) : (f115i.l4.step g115 k rec_ some a7 s8 b9 a10 a11 xs12 xs13).bind g = f115i.l4.step g115 k (fun a7 s8 b9 a10 a11 xs12 xs13 => (rec_ a7 s8 b9 a10 a11 xs12 xs13).bind g) g a7 s8 b9 a10 a11 xs12 xs13 := by
  simp only [f115i.l4.step, bind_ite, bind_sum, Option.bind_assoc, Option.bind_some, Option.bind_none]
theorem f115i.l4.good (g115 : ByteArray → Bool → Int → Int → (List S79) → (List S158) → Option ((List S158) × Bool)) (k : Nat) (a7 : Int) (s8 : ByteArray) (b9 : Bool) (a10 : Int) (a11 : Int) (xs12 : List S79) (xs13 : List S158) : GoodL (f115i.X g115 k) (nthC 0 (loopsOf (bodyOf Try.f115))) (f115i.l4.st a7 s8 b9 a10 a11 xs12 xs13) { α := ((List S158)), o := f115i.l4 g115 k k a7 s8 b9 a10 a11 xs12 xs13, w := f115i.l4.w } :=
  loop_good (ι := Int × ByteArray × Bool × Int × Int × (List S79) × (List S158)) (α := ((List S158))) (fun i => f115i.l4.st i.1 i.2.1 i.2.2.1 i.2.2.2.1 i.2.2.2.2.1 i.2.2.2.2.2.1 i.2.2.2.2.2.2) (fun j i => f115i.l4 g115 k j i.1 i.2.1 i.2.2.1 i.2.2.2.1 i.2.2.2.2.1 i.2.2.2.2.2.1 i.2.2.2.2.2.2) f115i.l4.w (fun rec_ ret i => f115i.l4.step g115 k (fun a7 s8 b9 a10 a11 xs12 xs13 => rec_ (a7, s8, b9, a10, a11, xs12, xs13)) ret i.1 i.2.1 i.2.2.1 i.2.2.2.1 i.2.2.2.2.1 i.2.2.2.2.2.1 i.2.2.2.2.2.2)
    (fun _ => rfl) (fun _ _ => rfl) (fun rec_ g i => f115i.l4.nat g115 k _ g i.1 i.2.1 i.2.2.1 i.2.2.2.1 i.2.2.2.2.1 i.2.2.2.2.2.1 i.2.2.2.2.2.2) (fun {R} i0 i rec_ K => by kernel_rfl) k (a7, s8, b9, a10, a11, xs12, xs13)
theorem f115i.l4.all (g115 : ByteArray → Bool → Int → Int → (List S79) → (List S158) → Option ((List S158) × Bool)) (k : Nat) (S : St env) : GoodL (f115i.X g115 k) (nthC 0 (loopsOf (bodyOf Try.f115))) S (f115i.l4.hd g115 k S.ts S.m S.n) := by
  obtain ⟨ts_, m_, n_⟩ := S
  have hN_ := f115i.l4_1.all g115 k ⟨ts_, m_, n_⟩
  show GoodL _ _ _ (f115i.l4.hd g115 k ts_ m_ n_)
  unfold f115i.l4.hd
  refine gTs_ok (p := GoodL _ _ _) hN_ fun _ h => ?_
  subst h
  refine gV_ok (p := GoodL _ _ _) hN_ fun _ _ h => ?_
  subst h
  refine rRow_ok (p := GoodL _ _ _) hN_ fun h => ?_
  subst h
  refine gV_ok (p := GoodL _ _ _) hN_ fun _ _ h => ?_
  subst h
  refine rBp_ok (p := GoodL _ _ _) hN_ fun h => ?_
  subst h
  refine gV_ok (p := GoodL _ _ _) hN_ fun _ _ h => ?_
  subst h
  refine rV_ok (p := GoodL _ _ _) hN_ fun _ h => ?_
  subst h
  refine vI_ok (p := GoodL _ _ _) hN_ fun _ h => ?_
  subst h
  refine gE_ok (p := GoodL _ _ _) hN_ fun h => ?_
  subst h
  refine mBox_ok (p := GoodL _ _ _) hN_ fun _ _ h => ?_
  subst h
  refine gC_ok (p := GoodL _ _ _) hN_ fun _ _ h => ?_
  subst h
  refine rV_ok (p := GoodL _ _ _) hN_ fun _ h => ?_
  subst h
  refine vS_ok (p := GoodL _ _ _) hN_ fun _ h => ?_
  subst h
  refine gC_ok (p := GoodL _ _ _) hN_ fun _ _ h => ?_
  subst h
  refine rV_ok (p := GoodL _ _ _) hN_ fun _ h => ?_
  subst h
  refine vB_ok (p := GoodL _ _ _) hN_ fun _ h => ?_
  subst h
  refine gC_ok (p := GoodL _ _ _) hN_ fun _ _ h => ?_
  subst h
  refine rV_ok (p := GoodL _ _ _) hN_ fun _ h => ?_
  subst h
  refine vI_ok (p := GoodL _ _ _) hN_ fun _ h => ?_
  subst h
  refine gC_ok (p := GoodL _ _ _) hN_ fun _ _ h => ?_
  subst h
  refine rV_ok (p := GoodL _ _ _) hN_ fun _ h => ?_
  subst h
  refine vI_ok (p := GoodL _ _ _) hN_ fun _ h => ?_
  subst h
  refine gC_ok (p := GoodL _ _ _) hN_ fun _ _ h => ?_
  subst h
  refine rImm_ok (p := GoodL _ _ _) hN_ fun _ h => ?_
  subst h
  refine gE_ok (p := GoodL _ _ _) hN_ fun h => ?_
  subst h
  refine mRow_ok (p := GoodL _ _ _) hN_ fun _ _ h => ?_
  subst h
  refine gE_ok (p := GoodL _ _ _) hN_ fun h => ?_
  subst h
  refine gN_ok (p := GoodL _ _ _) hN_ fun h => ?_
  subst h
  exact f115i.l4.good g115 k _ _ _ _ _ _ _
theorem f115i.nat {R : Type} (g115 : ByteArray → Bool → Int → Int → (List S79) → (List S158) → Option ((List S158) × Bool)) (k : Nat) (g : ((List S158) × Bool) → Option R) (s1 : ByteArray) (b2 : Bool) (a3 : Int) (a4 : Int) (xs5 : List S79) (xs6 : List S158) : f115i.step g115 k g s1 b2 a3 a4 xs5 xs6 = (f115i g115 k s1 b2 a3 a4 xs5 xs6).bind g := by
  simp only [f115i, f115i.step, bind_ite, bind_sum, Option.bind_assoc, Option.bind_some, Option.bind_none]
theorem f115i.ev (g115 : ByteArray → Bool → Int → Int → (List S79) → (List S158) → Option ((List S158) × Bool)) (k : Nat) (s1 : ByteArray) (b2 : Bool) (a3 : Int) (a4 : Int) (xs5 : List S79) (xs6 : List S158) : evF (f115i.X g115 k) (bodyOf Try.f115) Try.f115.ntmps Try.f115.results.toList [.g [.s (.string s1), .s (.bool b2), .s (.int .i64 a3), .s (.int .i64 a4), .sl 79 xs5], .v (.c (.wr 158 xs6))] = f115i.step g115 k (fun x => f115i.w x some) s1 b2 a3 a4 xs5 xs6 := by kernel_rfl
theorem f115i.hok (g115 : ByteArray → Bool → Int → Int → (List S79) → (List S158) → Option ((List S158) × Bool)) (k : Nat) : HOK (f115i.X g115 k) (bodyOf Try.f115) where
  l := allP_mem (by exact ⟨ls_of (h0 := fun S => f115i.l4.hd g115 k S.ts S.m S.n) (by kernel_rfl) (f115i.l4.all g115 k), trivial⟩)
  j := allP_mem (by exact trivial)
theorem f115i.sound0 (g115 : ByteArray → Bool → Int → Int → (List S79) → (List S158) → Option ((List S158) × Bool)) (hg_ : SoundC env Try.prog 115 (f115i.eG g115).F) (k : Nat) : SoundC env Try.prog 115 (f115i.hd g115 k) := by
  intro ps_
  show GoodC _ _ _ ps_ (f115i.hd g115 k ps_)
  unfold f115i.hd f115i.hdG
  refine gC_ok (p := GoodC env Try.prog 115 _) goodC_no fun _ _ h => ?_
  subst h
  refine qG_ok (p := GoodC env Try.prog 115 _) goodC_no fun _ h => ?_
  subst h
  refine gC_ok (p := GoodC env Try.prog 115 _) goodC_no fun _ _ h => ?_
  subst h
  refine qS_ok (p := GoodC env Try.prog 115 _) goodC_no fun _ h => ?_
  subst h
  refine vS_ok (p := GoodC env Try.prog 115 _) goodC_no fun _ h => ?_
  subst h
  refine gC_ok (p := GoodC env Try.prog 115 _) goodC_no fun _ _ h => ?_
  subst h
  refine qS_ok (p := GoodC env Try.prog 115 _) goodC_no fun _ h => ?_
  subst h
  refine vB_ok (p := GoodC env Try.prog 115 _) goodC_no fun _ h => ?_
  subst h
  refine gC_ok (p := GoodC env Try.prog 115 _) goodC_no fun _ _ h => ?_
  subst h
  refine qS_ok (p := GoodC env Try.prog 115 _) goodC_no fun _ h => ?_
  subst h
  refine vI_ok (p := GoodC env Try.prog 115 _) goodC_no fun _ h => ?_
  subst h
  refine gC_ok (p := GoodC env Try.prog 115 _) goodC_no fun _ _ h => ?_
  subst h
  refine qS_ok (p := GoodC env Try.prog 115 _) goodC_no fun _ h => ?_
  subst h
  refine vI_ok (p := GoodC env Try.prog 115 _) goodC_no fun _ h => ?_
  subst h
  refine gC_ok (p := GoodC env Try.prog 115 _) goodC_no fun _ _ h => ?_
  subst h
  refine qSl_ok (p := GoodC env Try.prog 115 _) goodC_no fun _ h => ?_
  subst h
  refine gE_ok (p := GoodC env Try.prog 115 _) goodC_no fun h => ?_
  subst h
  refine gC_ok (p := GoodC env Try.prog 115 _) goodC_no fun _ _ h => ?_
  subst h
  refine qC_ok (p := GoodC env Try.prog 115 _) goodC_no fun _ h => ?_
  subst h
  refine qWr_ok (p := GoodC env Try.prog 115 _) goodC_no fun _ h => ?_
  subst h
  refine gE_ok (p := GoodC env Try.prog 115 _) goodC_no fun h => ?_
  subst h
  exact fun_good (fun_sound envOK (cs_sound _ (by exact ⟨⟨hg_, f115.fnok⟩, trivial⟩)) (f115i.hok g115 k) Try.func115 rfl) ((f115i.ev g115 k _ _ _ _ _ _).trans (f115i.nat g115 k _ _ _ _ _ _ _))
theorem f115i.sound (g115 : ByteArray → Bool → Int → Int → (List S79) → (List S158) → Option ((List S158) × Bool)) (hg_ : SoundC env Try.prog 115 (f115i.eG g115).F) (k : Nat) : SoundC env Try.prog 115 (f115i.e g115 k).F := soundC_coer (f115i.sound0 g115 hg_ k) [[.no, .no, .no, .no, .rd 79], [.wr 158]]
def f115i.r (k : Nat) : Nat → ByteArray → Bool → Int → Int → (List S79) → (List S158) → Option ((List S158) × Bool)
  | 0 => fun _ _ _ _ _ _ => none
  | j + 1 => fun s1 b2 a3 a4 xs5 xs6 => f115i (f115i.r k j) k s1 b2 a3 a4 xs5 xs6
theorem f115i.all_ (k : Nat) : ∀ j, SoundC env Try.prog 115 (f115i.eG (f115i.r k j)).F
  | 0 => f115i.none_
  | j + 1 => f115i.sound (f115i.r k j) (f115i.all_ k j) k
def f115 (k : Nat) (s1 : ByteArray) (b2 : Bool) (a3 : Int) (a4 : Int) (xs5 : List S79) (xs6 : List S158) : Option ((List S158) × Bool) := f115i.r k k s1 b2 a3 a4 xs5 xs6
def f115.e (k : Nat) : Entry env := f115i.eG (f115 k)
theorem f115.sound (k : Nat) : SoundC env Try.prog 115 (f115.e k).F := f115i.all_ k k
def f47.step {R : Type} (k : Nat) (ret : ((List S158) × Int) → Option R) (s1 : ByteArray) (b2 : Bool) (a3 : Int) (a4 : Int) (xs5 : List S79) : Option R :=
  (f114 k s1 b2 a3 a4 xs5).bind fun t6 => if (!t6) = true then
      ret (([] : List S158), (1 : Int))
    else
      (f115 k s1 b2 a3 a4 xs5 ([] : List S158)).bind fun t7 => ret (t7.1, (0 : Int))
def f47 (k : Nat) (s1 : ByteArray) (b2 : Bool) (a3 : Int) (a4 : Int) (xs5 : List S79) : Option ((List S158) × Int) := f47.step k some s1 b2 a3 a4 xs5
def f47.w {R : Type} : ((List S158) × Int) → (Res env → Option R) → Option R := fun t8 K => K ⟨.tup [.c (.own true 158 t8.1), .c (.s (.int .i64 t8.2))], [[]]⟩
theorem f47.wn (x : ((List S158) × Int)) : ∃ res, ∀ {R : Type} (K : Res env → Option R), f47.w x K = K res := by
  exact ⟨_, fun _ => rfl⟩
def f47.hd (k : Nat) (ps_ : List (P2 env)) : Cl env :=
  gC Cl.no ps_ fun p_ ps_ => qG Cl.no p_ fun cs_ => gC Cl.no cs_ fun c_ cs_ => qS Cl.no c_ fun v_ => vS Cl.no v_ fun s1 => gC Cl.no cs_ fun c_ cs_ => qS Cl.no c_ fun v_ => vB Cl.no v_ fun b2 => gC Cl.no cs_ fun c_ cs_ => qS Cl.no c_ fun v_ => vI Cl.no .i64 v_ fun a3 => gC Cl.no cs_ fun c_ cs_ => qS Cl.no c_ fun v_ => vI Cl.no .i64 v_ fun a4 => gC Cl.no cs_ fun c_ cs_ => qSl Cl.no 79 c_ fun xs5 => gE Cl.no cs_ <| gE Cl.no ps_ <| { α := (List S158) × Int, o := f47 k s1 b2 a3 a4 xs5, w := f47.w, nat := fun x _ => f47.wn x }
def f47.e (k : Nat) : Entry env := ⟨fun ps => f47.hd k (coer [[.no, .no, .no, .no, .rd 79]] ps), [], []⟩
def f47.X (k : Nat) : Ctx env := { C := lookE [(114, f114.e k), (115, f115.e k)], L := lookE [], J := lookE [], keep := lookD [], keepX := lookD [], span := lookN [], eff := fun n => memN n [], prep := lookP [], np := 0 }
theorem f47.nat {R : Type} (k : Nat) (g : ((List S158) × Int) → Option R) (s1 : ByteArray) (b2 : Bool) (a3 : Int) (a4 : Int) (xs5 : List S79) : f47.step k g s1 b2 a3 a4 xs5 = (f47 k s1 b2 a3 a4 xs5).bind g := by
  simp only [f47, f47.step, bind_ite, bind_sum, Option.bind_assoc, Option.bind_some, Option.bind_none]
theorem f47.ev (k : Nat) (s1 : ByteArray) (b2 : Bool) (a3 : Int) (a4 : Int) (xs5 : List S79) : evF (f47.X k) (bodyOf Try.f47) Try.f47.ntmps Try.f47.results.toList [.g [.s (.string s1), .s (.bool b2), .s (.int .i64 a3), .s (.int .i64 a4), .sl 79 xs5]] = f47.step k (fun x => f47.w x some) s1 b2 a3 a4 xs5 := by kernel_rfl
theorem f47.hok (k : Nat) : HOK (f47.X k) (bodyOf Try.f47) where
  l := allP_mem (by exact trivial)
  j := allP_mem (by exact trivial)
theorem f47.sound0 (k : Nat) : SoundC env Try.prog 47 (f47.hd k) := by
  intro ps_
  show GoodC _ _ _ ps_ (f47.hd k ps_)
  unfold f47.hd
  refine gC_ok (p := GoodC env Try.prog 47 _) goodC_no fun _ _ h => ?_
  subst h
  refine qG_ok (p := GoodC env Try.prog 47 _) goodC_no fun _ h => ?_
  subst h
  refine gC_ok (p := GoodC env Try.prog 47 _) goodC_no fun _ _ h => ?_
  subst h
  refine qS_ok (p := GoodC env Try.prog 47 _) goodC_no fun _ h => ?_
  subst h
  refine vS_ok (p := GoodC env Try.prog 47 _) goodC_no fun _ h => ?_
  subst h
  refine gC_ok (p := GoodC env Try.prog 47 _) goodC_no fun _ _ h => ?_
  subst h
  refine qS_ok (p := GoodC env Try.prog 47 _) goodC_no fun _ h => ?_
  subst h
  refine vB_ok (p := GoodC env Try.prog 47 _) goodC_no fun _ h => ?_
  subst h
  refine gC_ok (p := GoodC env Try.prog 47 _) goodC_no fun _ _ h => ?_
  subst h
  refine qS_ok (p := GoodC env Try.prog 47 _) goodC_no fun _ h => ?_
  subst h
  refine vI_ok (p := GoodC env Try.prog 47 _) goodC_no fun _ h => ?_
  subst h
  refine gC_ok (p := GoodC env Try.prog 47 _) goodC_no fun _ _ h => ?_
  subst h
  refine qS_ok (p := GoodC env Try.prog 47 _) goodC_no fun _ h => ?_
  subst h
  refine vI_ok (p := GoodC env Try.prog 47 _) goodC_no fun _ h => ?_
  subst h
  refine gC_ok (p := GoodC env Try.prog 47 _) goodC_no fun _ _ h => ?_
  subst h
  refine qSl_ok (p := GoodC env Try.prog 47 _) goodC_no fun _ h => ?_
  subst h
  refine gE_ok (p := GoodC env Try.prog 47 _) goodC_no fun h => ?_
  subst h
  refine gE_ok (p := GoodC env Try.prog 47 _) goodC_no fun h => ?_
  subst h
  exact fun_good (fun_sound envOK (cs_sound _ (by exact ⟨⟨f114.sound k, f114.fnok⟩, ⟨f115.sound k, f115.fnok⟩, trivial⟩)) (f47.hok k) Try.func47 rfl) ((f47.ev k _ _ _ _ _).trans (f47.nat k _ _ _ _ _ _))
theorem f47.sound (k : Nat) : SoundC env Try.prog 47 (f47.e k).F := soundC_coer (f47.sound0 k) [[.no, .no, .no, .no, .rd 79]]
theorem f47.says (k : Nat) (s1 : ByteArray) (b2 : Bool) (a3 : Int) (a4 : Int) (xs5 : List S79) (t9 : (List S158) × Int) (h_ : f47 k s1 b2 a3 a4 xs5 = some t9) : SoundAt env Try.prog 47 [.g [.s (.string s1), .s (.bool b2), .s (.int .i64 a3), .s (.int .i64 a4), .sl 79 xs5]] ⟨.tup [.c (.own true 158 t9.1), .c (.s (.int .i64 t9.2))], [[]]⟩ :=
  fun_sound envOK (cs_sound _ (by exact ⟨⟨f114.sound k, f114.fnok⟩, ⟨f115.sound k, f115.fnok⟩, trivial⟩)) (f47.hok k) Try.func47 rfl _ _ (((f47.ev k s1 b2 a3 a4 xs5).trans (f47.nat k _ s1 b2 a3 a4 xs5)).trans (by rw [h_]; rfl))
theorem f47.fnok : FnOK Try.prog 47 := fn_ok Try.func47 (by kernel_rfl) rfl
def f205.l4.step {R : Type} (k : Nat) (rec_ : ByteArray → Int → Option R) (ret : (Bool ⊕ (Unit)) → Option R) (s2 : ByteArray) (a3 : Int) : Option R :=
  if (decide (a3 < (((ByteArray.size s2) : Nat) : Int))) = true then
    if (0 : Int) ≤ a3 then
      if a3 < ((ByteArray.size s2 : Nat) : Int) then
        if (decide ((bt s2 a3) ≠ (48 : Int))) = true then
          if (0 : Int) ≤ a3 then
            if a3 < ((ByteArray.size s2 : Nat) : Int) then
              if (decide ((bt s2 a3) ≠ (49 : Int))) = true then
                ret (.inl false)
              else
                rec_ s2 (IntKind.i64.wrap (a3 + (1 : Int)))
            else none
          else none
        else
          rec_ s2 (IntKind.i64.wrap (a3 + (1 : Int)))
      else none
    else none
  else
    ret (.inr ())
def f205.l4 (k : Nat) : Nat → ByteArray → Int → Option (Bool ⊕ (Unit))
  | 0, _, _ => none
  | j + 1, s2, a3 => f205.l4.step k (fun s2 a3 => f205.l4 k j s2 a3) some s2 a3
def f205.l4.w {R : Type} : (Bool ⊕ (Unit)) → (Exit → St env → Option R) → Option R := fun x K => Sum.elim (fun t6 => K .ret ⟨fullT [2] 0 23 [.v (.c (.s (.bool t6)))], [], 369⟩) (fun t7 => K (.exit 0) ⟨fullT [] 0 23 [], [], 369⟩) x
def f205.l4.st (s2 : ByteArray) (a3 : Int) : St env := ⟨fullT [0, 3] 0 23 [.v (.c (.s (.string s2))), .v (.c (.s (.int .i64 a3)))], [], 81⟩
def f205.l4.hd (k : Nat) (ts_ : List (AV env)) (mm_ : Mem env) (n_ : Nat) : LCl env :=
  gTs LCl.no [0, 3] 23 ts_ fun l_ => gV LCl.no l_ fun a_ l_ => rV LCl.no a_ fun v_ => vS LCl.no v_ fun s2 => gV LCl.no l_ fun a_ l_ => rV LCl.no a_ fun v_ => vI LCl.no .i64 v_ fun a3 => gE LCl.no l_ <| gE LCl.no mm_ <| gN LCl.no 81 n_ { α := Bool ⊕ (Unit), o := f205.l4 k k s2 a3, w := f205.l4.w }
def f205.step {R : Type} (k : Nat) (ret : Bool → Option R) (s1 : ByteArray) : Option R :=
  if (decide ((((ByteArray.size s1) : Nat) : Int) > (128 : Int))) = true then
    ret false
  else
    (f205.l4 k k s1 (0 : Int)).bind (Sum.elim (fun t4 => ret t4) (fun t5 => ret true))
def f205 (k : Nat) (s1 : ByteArray) : Option Bool := f205.step k some s1
def f205.w {R : Type} : Bool → (Res env → Option R) → Option R := fun t8 K => K ⟨.v (.c (.s (.bool t8))), [[]]⟩
theorem f205.wn (x : Bool) : ∃ res, ∀ {R : Type} (K : Res env → Option R), f205.w x K = K res := by
  exact ⟨_, fun _ => rfl⟩
def f205.hd (k : Nat) (ps_ : List (P2 env)) : Cl env :=
  gC Cl.no ps_ fun p_ ps_ => qC Cl.no p_ fun c_ => qS Cl.no c_ fun v_ => vS Cl.no v_ fun s1 => gE Cl.no ps_ <| { α := Bool, o := f205 k s1, w := f205.w, nat := fun x _ => f205.wn x }
def f205.e (k : Nat) : Entry env := ⟨f205.hd k, [], []⟩
def f205.X (k : Nat) : Ctx env := { C := lookE [], L := lookE [(4, fun S => f205.l4.hd k S.ts S.m S.n)], J := lookE [], keep := lookD [(4, [0, 3])], keepX := lookD [(4, [2])], span := lookN [(4, 288)], eff := fun n => memN n [], prep := lookP [], np := 0 }
theorem f205.l4.nat {R : Type} (k : Nat) (rec_ : ByteArray → Int → Option (Bool ⊕ (Unit))) (g : (Bool ⊕ (Unit)) → Option R) (s2 : ByteArray) (a3 : Int) : (f205.l4.step k rec_ some s2 a3).bind g = f205.l4.step k (fun s2 a3 => (rec_ s2 a3).bind g) g s2 a3 := by
  simp only [f205.l4.step, bind_ite, bind_sum, Option.bind_assoc, Option.bind_some, Option.bind_none]
theorem f205.l4.good (k : Nat) (s2 : ByteArray) (a3 : Int) : GoodL (f205.X k) (nthC 0 (loopsOf (bodyOf Try.f205))) (f205.l4.st s2 a3) { α := (Bool ⊕ (Unit)), o := f205.l4 k k s2 a3, w := f205.l4.w } :=
  loop_good (ι := ByteArray × Int) (α := (Bool ⊕ (Unit))) (fun i => f205.l4.st i.1 i.2) (fun j i => f205.l4 k j i.1 i.2) f205.l4.w (fun rec_ ret i => f205.l4.step k (fun s2 a3 => rec_ (s2, a3)) ret i.1 i.2)
    (fun _ => rfl) (fun _ _ => rfl) (fun rec_ g i => f205.l4.nat k _ g i.1 i.2) (fun {R} i0 i rec_ K => by kernel_rfl) k (s2, a3)
theorem f205.l4.all (k : Nat) (S : St env) : GoodL (f205.X k) (nthC 0 (loopsOf (bodyOf Try.f205))) S (f205.l4.hd k S.ts S.m S.n) := by
  obtain ⟨ts_, m_, n_⟩ := S
  show GoodL _ _ _ (f205.l4.hd k ts_ m_ n_)
  unfold f205.l4.hd
  refine gTs_ok (p := GoodL _ _ _) goodL_no fun _ h => ?_
  subst h
  refine gV_ok (p := GoodL _ _ _) goodL_no fun _ _ h => ?_
  subst h
  refine rV_ok (p := GoodL _ _ _) goodL_no fun _ h => ?_
  subst h
  refine vS_ok (p := GoodL _ _ _) goodL_no fun _ h => ?_
  subst h
  refine gV_ok (p := GoodL _ _ _) goodL_no fun _ _ h => ?_
  subst h
  refine rV_ok (p := GoodL _ _ _) goodL_no fun _ h => ?_
  subst h
  refine vI_ok (p := GoodL _ _ _) goodL_no fun _ h => ?_
  subst h
  refine gE_ok (p := GoodL _ _ _) goodL_no fun h => ?_
  subst h
  refine gE_ok (p := GoodL _ _ _) goodL_no fun h => ?_
  subst h
  refine gN_ok (p := GoodL _ _ _) goodL_no fun h => ?_
  subst h
  exact f205.l4.good k _ _
theorem f205.nat {R : Type} (k : Nat) (g : Bool → Option R) (s1 : ByteArray) : f205.step k g s1 = (f205 k s1).bind g := by
  simp only [f205, f205.step, bind_ite, bind_sum, Option.bind_assoc, Option.bind_some, Option.bind_none]
theorem f205.ev (k : Nat) (s1 : ByteArray) : evF (f205.X k) (bodyOf Try.f205) Try.f205.ntmps Try.f205.results.toList [.v (.c (.s (.string s1)))] = f205.step k (fun x => f205.w x some) s1 := by kernel_rfl
theorem f205.hok (k : Nat) : HOK (f205.X k) (bodyOf Try.f205) where
  l := allP_mem (by exact ⟨ls_of (h0 := fun S => f205.l4.hd k S.ts S.m S.n) (by kernel_rfl) (f205.l4.all k), trivial⟩)
  j := allP_mem (by exact trivial)
theorem f205.sound (k : Nat) : SoundC env Try.prog 205 ((f205.e k).F) := by
  intro ps_
  show GoodC _ _ _ ps_ (f205.hd k ps_)
  unfold f205.hd
  refine gC_ok (p := GoodC env Try.prog 205 _) goodC_no fun _ _ h => ?_
  subst h
  refine qC_ok (p := GoodC env Try.prog 205 _) goodC_no fun _ h => ?_
  subst h
  refine qS_ok (p := GoodC env Try.prog 205 _) goodC_no fun _ h => ?_
  subst h
  refine vS_ok (p := GoodC env Try.prog 205 _) goodC_no fun _ h => ?_
  subst h
  refine gE_ok (p := GoodC env Try.prog 205 _) goodC_no fun h => ?_
  subst h
  exact fun_good (fun_sound envOK (cs_sound _ (by exact trivial)) (f205.hok k) Try.func205 rfl) ((f205.ev k _).trans (f205.nat k _ _))
theorem f205.says (k : Nat) (s1 : ByteArray) (t9 : Bool) (h_ : f205 k s1 = some t9) : SoundAt env Try.prog 205 [.v (.c (.s (.string s1)))] ⟨.v (.c (.s (.bool t9))), [[]]⟩ :=
  fun_sound envOK (cs_sound _ (by exact trivial)) (f205.hok k) Try.func205 rfl _ _ (((f205.ev k s1).trans (f205.nat k _ s1)).trans (by rw [h_]; rfl))
theorem f205.fnok : FnOK Try.prog 205 := fn_ok Try.func205 (by kernel_rfl) rfl
def f207.step {R : Type} (k : Nat) (ret : Bool → Option R) (s1 : ByteArray) (s2 : ByteArray) : Option R :=
  if (decide ((((ByteArray.size s1) : Nat) : Int) ≥ (((ByteArray.size s2) : Nat) : Int))) = true then
    if (0 : Int) ≤ (((ByteArray.size s2) : Nat) : Int) then
      if (((ByteArray.size s2) : Nat) : Int) ≤ ((ByteArray.size s1 : Nat) : Int) then
        ret (decide (ByteArray.toList (ByteArray.extract s1 0 (Int.toNat (((ByteArray.size s2) : Nat) : Int))) = ByteArray.toList s2))
      else none
    else none
  else
    ret false
def f207 (k : Nat) (s1 : ByteArray) (s2 : ByteArray) : Option Bool := f207.step k some s1 s2
def f207.w {R : Type} : Bool → (Res env → Option R) → Option R := fun t3 K => K ⟨.v (.c (.s (.bool t3))), [[], []]⟩
theorem f207.wn (x : Bool) : ∃ res, ∀ {R : Type} (K : Res env → Option R), f207.w x K = K res := by
  exact ⟨_, fun _ => rfl⟩
def f207.hd (k : Nat) (ps_ : List (P2 env)) : Cl env :=
  gC Cl.no ps_ fun p_ ps_ => qC Cl.no p_ fun c_ => qS Cl.no c_ fun v_ => vS Cl.no v_ fun s1 => gC Cl.no ps_ fun p_ ps_ => qC Cl.no p_ fun c_ => qS Cl.no c_ fun v_ => vS Cl.no v_ fun s2 => gE Cl.no ps_ <| { α := Bool, o := f207 k s1 s2, w := f207.w, nat := fun x _ => f207.wn x }
def f207.e (k : Nat) : Entry env := ⟨f207.hd k, [], []⟩
def f207.X (k : Nat) : Ctx env := { C := lookE [], L := lookE [], J := lookE [], keep := lookD [], keepX := lookD [], span := lookN [], eff := fun n => memN n [], prep := lookP [], np := 0 }
theorem f207.nat {R : Type} (k : Nat) (g : Bool → Option R) (s1 : ByteArray) (s2 : ByteArray) : f207.step k g s1 s2 = (f207 k s1 s2).bind g := by
  simp only [f207, f207.step, bind_ite, bind_sum, Option.bind_assoc, Option.bind_some, Option.bind_none]
theorem f207.ev (k : Nat) (s1 : ByteArray) (s2 : ByteArray) : evF (f207.X k) (bodyOf Try.f207) Try.f207.ntmps Try.f207.results.toList [.v (.c (.s (.string s1))), .v (.c (.s (.string s2)))] = f207.step k (fun x => f207.w x some) s1 s2 := by kernel_rfl
theorem f207.hok (k : Nat) : HOK (f207.X k) (bodyOf Try.f207) where
  l := allP_mem (by exact trivial)
  j := allP_mem (by exact trivial)
theorem f207.sound (k : Nat) : SoundC env Try.prog 207 ((f207.e k).F) := by
  intro ps_
  show GoodC _ _ _ ps_ (f207.hd k ps_)
  unfold f207.hd
  refine gC_ok (p := GoodC env Try.prog 207 _) goodC_no fun _ _ h => ?_
  subst h
  refine qC_ok (p := GoodC env Try.prog 207 _) goodC_no fun _ h => ?_
  subst h
  refine qS_ok (p := GoodC env Try.prog 207 _) goodC_no fun _ h => ?_
  subst h
  refine vS_ok (p := GoodC env Try.prog 207 _) goodC_no fun _ h => ?_
  subst h
  refine gC_ok (p := GoodC env Try.prog 207 _) goodC_no fun _ _ h => ?_
  subst h
  refine qC_ok (p := GoodC env Try.prog 207 _) goodC_no fun _ h => ?_
  subst h
  refine qS_ok (p := GoodC env Try.prog 207 _) goodC_no fun _ h => ?_
  subst h
  refine vS_ok (p := GoodC env Try.prog 207 _) goodC_no fun _ h => ?_
  subst h
  refine gE_ok (p := GoodC env Try.prog 207 _) goodC_no fun h => ?_
  subst h
  exact fun_good (fun_sound envOK (cs_sound _ (by exact trivial)) (f207.hok k) Try.func207 rfl) ((f207.ev k _ _).trans (f207.nat k _ _ _))
theorem f207.says (k : Nat) (s1 : ByteArray) (s2 : ByteArray) (t4 : Bool) (h_ : f207 k s1 s2 = some t4) : SoundAt env Try.prog 207 [.v (.c (.s (.string s1))), .v (.c (.s (.string s2)))] ⟨.v (.c (.s (.bool t4))), [[], []]⟩ :=
  fun_sound envOK (cs_sound _ (by exact trivial)) (f207.hok k) Try.func207 rfl _ _ (((f207.ev k s1 s2).trans (f207.nat k _ s1 s2)).trans (by rw [h_]; rfl))
theorem f207.fnok : FnOK Try.prog 207 := fn_ok Try.func207 (by kernel_rfl) rfl
def f206.step {R : Type} (k : Nat) (ret : Bool → Option R) (s1 : ByteArray) (s2 : ByteArray) : Option R :=
  (f207 k s1 s2).bind fun t3 => ret t3
def f206 (k : Nat) (s1 : ByteArray) (s2 : ByteArray) : Option Bool := f206.step k some s1 s2
def f206.w {R : Type} : Bool → (Res env → Option R) → Option R := fun t4 K => K ⟨.v (.c (.s (.bool t4))), [[], []]⟩
theorem f206.wn (x : Bool) : ∃ res, ∀ {R : Type} (K : Res env → Option R), f206.w x K = K res := by
  exact ⟨_, fun _ => rfl⟩
def f206.hd (k : Nat) (ps_ : List (P2 env)) : Cl env :=
  gC Cl.no ps_ fun p_ ps_ => qC Cl.no p_ fun c_ => qS Cl.no c_ fun v_ => vS Cl.no v_ fun s1 => gC Cl.no ps_ fun p_ ps_ => qC Cl.no p_ fun c_ => qS Cl.no c_ fun v_ => vS Cl.no v_ fun s2 => gE Cl.no ps_ <| { α := Bool, o := f206 k s1 s2, w := f206.w, nat := fun x _ => f206.wn x }
def f206.e (k : Nat) : Entry env := ⟨f206.hd k, [], []⟩
def f206.X (k : Nat) : Ctx env := { C := lookE [(207, f207.e k)], L := lookE [], J := lookE [], keep := lookD [], keepX := lookD [], span := lookN [], eff := fun n => memN n [], prep := lookP [], np := 0 }
theorem f206.nat {R : Type} (k : Nat) (g : Bool → Option R) (s1 : ByteArray) (s2 : ByteArray) : f206.step k g s1 s2 = (f206 k s1 s2).bind g := by
  simp only [f206, f206.step, bind_ite, bind_sum, Option.bind_assoc, Option.bind_some, Option.bind_none]
theorem f206.ev (k : Nat) (s1 : ByteArray) (s2 : ByteArray) : evF (f206.X k) (bodyOf Try.f206) Try.f206.ntmps Try.f206.results.toList [.v (.c (.s (.string s1))), .v (.c (.s (.string s2)))] = f206.step k (fun x => f206.w x some) s1 s2 := by kernel_rfl
theorem f206.hok (k : Nat) : HOK (f206.X k) (bodyOf Try.f206) where
  l := allP_mem (by exact trivial)
  j := allP_mem (by exact trivial)
theorem f206.sound (k : Nat) : SoundC env Try.prog 206 ((f206.e k).F) := by
  intro ps_
  show GoodC _ _ _ ps_ (f206.hd k ps_)
  unfold f206.hd
  refine gC_ok (p := GoodC env Try.prog 206 _) goodC_no fun _ _ h => ?_
  subst h
  refine qC_ok (p := GoodC env Try.prog 206 _) goodC_no fun _ h => ?_
  subst h
  refine qS_ok (p := GoodC env Try.prog 206 _) goodC_no fun _ h => ?_
  subst h
  refine vS_ok (p := GoodC env Try.prog 206 _) goodC_no fun _ h => ?_
  subst h
  refine gC_ok (p := GoodC env Try.prog 206 _) goodC_no fun _ _ h => ?_
  subst h
  refine qC_ok (p := GoodC env Try.prog 206 _) goodC_no fun _ h => ?_
  subst h
  refine qS_ok (p := GoodC env Try.prog 206 _) goodC_no fun _ h => ?_
  subst h
  refine vS_ok (p := GoodC env Try.prog 206 _) goodC_no fun _ h => ?_
  subst h
  refine gE_ok (p := GoodC env Try.prog 206 _) goodC_no fun h => ?_
  subst h
  exact fun_good (fun_sound envOK (cs_sound _ (by exact ⟨⟨f207.sound k, f207.fnok⟩, trivial⟩)) (f206.hok k) Try.func206 rfl) ((f206.ev k _ _).trans (f206.nat k _ _ _))
theorem f206.says (k : Nat) (s1 : ByteArray) (s2 : ByteArray) (t5 : Bool) (h_ : f206 k s1 s2 = some t5) : SoundAt env Try.prog 206 [.v (.c (.s (.string s1))), .v (.c (.s (.string s2)))] ⟨.v (.c (.s (.bool t5))), [[], []]⟩ :=
  fun_sound envOK (cs_sound _ (by exact ⟨⟨f207.sound k, f207.fnok⟩, trivial⟩)) (f206.hok k) Try.func206 rfl _ _ (((f206.ev k s1 s2).trans (f206.nat k _ s1 s2)).trans (by rw [h_]; rfl))
theorem f206.fnok : FnOK Try.prog 206 := fn_ok Try.func206 (by kernel_rfl) rfl
def f190.l4.step {R : Type} (k : Nat) (rec_ : (List S79) → Int → Int → ByteArray → Bool → Int → Int → (List S79) → Option R) (ret : (Bool ⊕ (Unit)) → Option R) (xs6 : List S79) (a7 : Int) (a8 : Int) (s9 : ByteArray) (b10 : Bool) (a11 : Int) (a12 : Int) (xs13 : List S79) : Option R :=
  if (decide (a8 < a7)) = true then
    if (0 : Int) ≤ a8 then
      if a8 < ((List.length xs6 : Nat) : Int) then
        if (decide ((((ByteArray.size (List.getD xs6 (Int.toNat a8) (⟨ByteArray.empty, false, (0 : Int), (0 : Int), []⟩ : S79)).f0) : Nat) : Int) ≤ (((ByteArray.size s9) : Nat) : Int))) = false then
          (f205 k (List.getD xs6 (Int.toNat a8) (⟨ByteArray.empty, false, (0 : Int), (0 : Int), []⟩ : S79)).f0).bind fun t14 => if (!t14) = false then
              (f206 k (List.getD xs6 (Int.toNat a8) (⟨ByteArray.empty, false, (0 : Int), (0 : Int), []⟩ : S79)).f0 s9).bind fun t15 => if (!t15) = true then
                  ret (.inl false)
                else
                  if (decide (a8 = (1 : Int))) = true then
                    if (0 : Int) < ((List.length xs13 : Nat) : Int) then
                      if (0 : Int) ≤ (((ByteArray.size s9) : Nat) : Int) then
                        if (((ByteArray.size s9) : Nat) : Int) < ((ByteArray.size (List.getD xs13 0 (⟨ByteArray.empty, false, (0 : Int), (0 : Int), []⟩ : S79)).f0 : Nat) : Int) then
                          if (0 : Int) ≤ (((ByteArray.size s9) : Nat) : Int) then
                            if (((ByteArray.size s9) : Nat) : Int) < ((ByteArray.size (List.getD xs6 (Int.toNat a8) (⟨ByteArray.empty, false, (0 : Int), (0 : Int), []⟩ : S79)).f0 : Nat) : Int) then
                              if (decide ((bt (List.getD xs13 0 (⟨ByteArray.empty, false, (0 : Int), (0 : Int), []⟩ : S79)).f0 (((ByteArray.size s9) : Nat) : Int)) ≥ (bt (List.getD xs6 (Int.toNat a8) (⟨ByteArray.empty, false, (0 : Int), (0 : Int), []⟩ : S79)).f0 (((ByteArray.size s9) : Nat) : Int)))) = true then
                                ret (.inl false)
                              else
                                rec_ xs6 a7 (IntKind.i64.wrap (a8 + (1 : Int))) s9 b10 a11 a12 xs13
                            else none
                          else none
                        else none
                      else none
                    else none
                  else
                    rec_ xs6 a7 (IntKind.i64.wrap (a8 + (1 : Int))) s9 b10 a11 a12 xs13
            else
              ret (.inl false)
        else
          ret (.inl false)
      else none
    else none
  else
    ret (.inr ())
def f190.l4 (k : Nat) : Nat → (List S79) → Int → Int → ByteArray → Bool → Int → Int → (List S79) → Option (Bool ⊕ (Unit))
  | 0, _, _, _, _, _, _, _, _ => none
  | j + 1, xs6, a7, a8, s9, b10, a11, a12, xs13 => f190.l4.step k (fun xs6 a7 a8 s9 b10 a11 a12 xs13 => f190.l4 k j xs6 a7 a8 s9 b10 a11 a12 xs13) some xs6 a7 a8 s9 b10 a11 a12 xs13
def f190.l4.w {R : Type} : (Bool ⊕ (Unit)) → (Exit → St env → Option R) → Option R := fun x K => Sum.elim (fun t18 => K .ret ⟨fullT [2] 0 59 [.v (.c (.s (.bool t18)))], [], 993⟩) (fun t19 => K (.exit 0) ⟨fullT [] 0 59 [], [], 993⟩) x
def f190.l4.st (xs6 : List S79) (a7 : Int) (a8 : Int) (s9 : ByteArray) (b10 : Bool) (a11 : Int) (a12 : Int) (xs13 : List S79) : St env := ⟨fullT [1, 10, 11, 12] 0 59 [.v (.c (.bp 1 0)), .v (.c (.imm 79 xs6)), .v (.c (.s (.int .i64 a7))), .v (.c (.s (.int .i64 a8)))], [(1, .box [.s (.string s9), .s (.bool b10), .s (.int .i64 a11), .s (.int .i64 a12), .imm 79 xs13])], 161⟩
def f190.l4.hd (k : Nat) (ts_ : List (AV env)) (mm_ : Mem env) (n_ : Nat) : LCl env :=
  gTs LCl.no [1, 10, 11, 12] 59 ts_ fun l_ => gV LCl.no l_ fun a_ l_ => rBp LCl.no 1 0 a_ <| gV LCl.no l_ fun a_ l_ => rImm LCl.no 79 a_ fun xs6 => gV LCl.no l_ fun a_ l_ => rV LCl.no a_ fun v_ => vI LCl.no .i64 v_ fun a7 => gV LCl.no l_ fun a_ l_ => rV LCl.no a_ fun v_ => vI LCl.no .i64 v_ fun a8 => gE LCl.no l_ <| mBox LCl.no 1 mm_ fun c_ m_ => gC LCl.no c_ fun a_ c_ => rV LCl.no a_ fun v_ => vS LCl.no v_ fun s9 => gC LCl.no c_ fun a_ c_ => rV LCl.no a_ fun v_ => vB LCl.no v_ fun b10 => gC LCl.no c_ fun a_ c_ => rV LCl.no a_ fun v_ => vI LCl.no .i64 v_ fun a11 => gC LCl.no c_ fun a_ c_ => rV LCl.no a_ fun v_ => vI LCl.no .i64 v_ fun a12 => gC LCl.no c_ fun a_ c_ => rImm LCl.no 79 a_ fun xs13 => gE LCl.no c_ <| gE LCl.no m_ <| gN LCl.no 161 n_ { α := Bool ⊕ (Unit), o := f190.l4 k k xs6 a7 a8 s9 b10 a11 a12 xs13, w := f190.l4.w }
def f190.step {R : Type} (k : Nat) (ret : Bool → Option R) (s1 : ByteArray) (b2 : Bool) (a3 : Int) (a4 : Int) (xs5 : List S79) : Option R :=
  if (decide ((((List.length xs5) : Nat) : Int) > (2 : Int))) = true then
    ret false
  else
    (f190.l4 k k xs5 (((List.length xs5) : Nat) : Int) (0 : Int) s1 b2 a3 a4 xs5).bind (Sum.elim (fun t16 => ret t16) (fun t17 => ret true))
def f190 (k : Nat) (s1 : ByteArray) (b2 : Bool) (a3 : Int) (a4 : Int) (xs5 : List S79) : Option Bool := f190.step k some s1 b2 a3 a4 xs5
def f190.w {R : Type} : Bool → (Res env → Option R) → Option R := fun t20 K => K ⟨.v (.c (.s (.bool t20))), [[]]⟩
theorem f190.wn (x : Bool) : ∃ res, ∀ {R : Type} (K : Res env → Option R), f190.w x K = K res := by
  exact ⟨_, fun _ => rfl⟩
def f190.hd (k : Nat) (ps_ : List (P2 env)) : Cl env :=
  gC Cl.no ps_ fun p_ ps_ => qG Cl.no p_ fun cs_ => gC Cl.no cs_ fun c_ cs_ => qS Cl.no c_ fun v_ => vS Cl.no v_ fun s1 => gC Cl.no cs_ fun c_ cs_ => qS Cl.no c_ fun v_ => vB Cl.no v_ fun b2 => gC Cl.no cs_ fun c_ cs_ => qS Cl.no c_ fun v_ => vI Cl.no .i64 v_ fun a3 => gC Cl.no cs_ fun c_ cs_ => qS Cl.no c_ fun v_ => vI Cl.no .i64 v_ fun a4 => gC Cl.no cs_ fun c_ cs_ => qSl Cl.no 79 c_ fun xs5 => gE Cl.no cs_ <| gE Cl.no ps_ <| { α := Bool, o := f190 k s1 b2 a3 a4 xs5, w := f190.w, nat := fun x _ => f190.wn x }
def f190.e (k : Nat) : Entry env := ⟨fun ps => f190.hd k (coer [[.no, .no, .no, .no, .rd 79]] ps), [], []⟩
def f190.X (k : Nat) : Ctx env := { C := lookE [(205, f205.e k), (206, f206.e k)], L := lookE [(4, fun S => f190.l4.hd k S.ts S.m S.n)], J := lookE [], keep := lookD [(4, [1, 10, 11, 12])], keepX := lookD [(4, [2])], span := lookN [(4, 832)], eff := fun n => memN n [], prep := lookP [], np := 0 }
theorem f190.l4.nat {R : Type} (k : Nat) (rec_ : (List S79) → Int → Int → ByteArray → Bool → Int → Int → (List S79) → Option (Bool ⊕ (Unit))) (g : (Bool ⊕ (Unit)) → Option R) (xs6 : List S79) (a7 : Int) (a8 : Int) (s9 : ByteArray) (b10 : Bool) (a11 : Int) (a12 : Int) (xs13 : List S79) : (f190.l4.step k rec_ some xs6 a7 a8 s9 b10 a11 a12 xs13).bind g = f190.l4.step k (fun xs6 a7 a8 s9 b10 a11 a12 xs13 => (rec_ xs6 a7 a8 s9 b10 a11 a12 xs13).bind g) g xs6 a7 a8 s9 b10 a11 a12 xs13 := by
  simp only [f190.l4.step, bind_ite, bind_sum, Option.bind_assoc, Option.bind_some, Option.bind_none]
theorem f190.l4.good (k : Nat) (xs6 : List S79) (a7 : Int) (a8 : Int) (s9 : ByteArray) (b10 : Bool) (a11 : Int) (a12 : Int) (xs13 : List S79) : GoodL (f190.X k) (nthC 0 (loopsOf (bodyOf Try.f190))) (f190.l4.st xs6 a7 a8 s9 b10 a11 a12 xs13) { α := (Bool ⊕ (Unit)), o := f190.l4 k k xs6 a7 a8 s9 b10 a11 a12 xs13, w := f190.l4.w } :=
  loop_good (ι := (List S79) × Int × Int × ByteArray × Bool × Int × Int × (List S79)) (α := (Bool ⊕ (Unit))) (fun i => f190.l4.st i.1 i.2.1 i.2.2.1 i.2.2.2.1 i.2.2.2.2.1 i.2.2.2.2.2.1 i.2.2.2.2.2.2.1 i.2.2.2.2.2.2.2) (fun j i => f190.l4 k j i.1 i.2.1 i.2.2.1 i.2.2.2.1 i.2.2.2.2.1 i.2.2.2.2.2.1 i.2.2.2.2.2.2.1 i.2.2.2.2.2.2.2) f190.l4.w (fun rec_ ret i => f190.l4.step k (fun xs6 a7 a8 s9 b10 a11 a12 xs13 => rec_ (xs6, a7, a8, s9, b10, a11, a12, xs13)) ret i.1 i.2.1 i.2.2.1 i.2.2.2.1 i.2.2.2.2.1 i.2.2.2.2.2.1 i.2.2.2.2.2.2.1 i.2.2.2.2.2.2.2)
    (fun _ => rfl) (fun _ _ => rfl) (fun rec_ g i => f190.l4.nat k _ g i.1 i.2.1 i.2.2.1 i.2.2.2.1 i.2.2.2.2.1 i.2.2.2.2.2.1 i.2.2.2.2.2.2.1 i.2.2.2.2.2.2.2) (fun {R} i0 i rec_ K => by kernel_rfl) k (xs6, a7, a8, s9, b10, a11, a12, xs13)
theorem f190.l4.all (k : Nat) (S : St env) : GoodL (f190.X k) (nthC 0 (loopsOf (bodyOf Try.f190))) S (f190.l4.hd k S.ts S.m S.n) := by
  obtain ⟨ts_, m_, n_⟩ := S
  show GoodL _ _ _ (f190.l4.hd k ts_ m_ n_)
  unfold f190.l4.hd
  refine gTs_ok (p := GoodL _ _ _) goodL_no fun _ h => ?_
  subst h
  refine gV_ok (p := GoodL _ _ _) goodL_no fun _ _ h => ?_
  subst h
  refine rBp_ok (p := GoodL _ _ _) goodL_no fun h => ?_
  subst h
  refine gV_ok (p := GoodL _ _ _) goodL_no fun _ _ h => ?_
  subst h
  refine rImm_ok (p := GoodL _ _ _) goodL_no fun _ h => ?_
  subst h
  refine gV_ok (p := GoodL _ _ _) goodL_no fun _ _ h => ?_
  subst h
  refine rV_ok (p := GoodL _ _ _) goodL_no fun _ h => ?_
  subst h
  refine vI_ok (p := GoodL _ _ _) goodL_no fun _ h => ?_
  subst h
  refine gV_ok (p := GoodL _ _ _) goodL_no fun _ _ h => ?_
  subst h
  refine rV_ok (p := GoodL _ _ _) goodL_no fun _ h => ?_
  subst h
  refine vI_ok (p := GoodL _ _ _) goodL_no fun _ h => ?_
  subst h
  refine gE_ok (p := GoodL _ _ _) goodL_no fun h => ?_
  subst h
  refine mBox_ok (p := GoodL _ _ _) goodL_no fun _ _ h => ?_
  subst h
  refine gC_ok (p := GoodL _ _ _) goodL_no fun _ _ h => ?_
  subst h
  refine rV_ok (p := GoodL _ _ _) goodL_no fun _ h => ?_
  subst h
  refine vS_ok (p := GoodL _ _ _) goodL_no fun _ h => ?_
  subst h
  refine gC_ok (p := GoodL _ _ _) goodL_no fun _ _ h => ?_
  subst h
  refine rV_ok (p := GoodL _ _ _) goodL_no fun _ h => ?_
  subst h
  refine vB_ok (p := GoodL _ _ _) goodL_no fun _ h => ?_
  subst h
  refine gC_ok (p := GoodL _ _ _) goodL_no fun _ _ h => ?_
  subst h
  refine rV_ok (p := GoodL _ _ _) goodL_no fun _ h => ?_
  subst h
  refine vI_ok (p := GoodL _ _ _) goodL_no fun _ h => ?_
  subst h
  refine gC_ok (p := GoodL _ _ _) goodL_no fun _ _ h => ?_
  subst h
  refine rV_ok (p := GoodL _ _ _) goodL_no fun _ h => ?_
  subst h
  refine vI_ok (p := GoodL _ _ _) goodL_no fun _ h => ?_
  subst h
  refine gC_ok (p := GoodL _ _ _) goodL_no fun _ _ h => ?_
  subst h
  refine rImm_ok (p := GoodL _ _ _) goodL_no fun _ h => ?_
  subst h
  refine gE_ok (p := GoodL _ _ _) goodL_no fun h => ?_
  subst h
  refine gE_ok (p := GoodL _ _ _) goodL_no fun h => ?_
  subst h
  refine gN_ok (p := GoodL _ _ _) goodL_no fun h => ?_
  subst h
  exact f190.l4.good k _ _ _ _ _ _ _ _
theorem f190.nat {R : Type} (k : Nat) (g : Bool → Option R) (s1 : ByteArray) (b2 : Bool) (a3 : Int) (a4 : Int) (xs5 : List S79) : f190.step k g s1 b2 a3 a4 xs5 = (f190 k s1 b2 a3 a4 xs5).bind g := by
  simp only [f190, f190.step, bind_ite, bind_sum, Option.bind_assoc, Option.bind_some, Option.bind_none]
theorem f190.ev (k : Nat) (s1 : ByteArray) (b2 : Bool) (a3 : Int) (a4 : Int) (xs5 : List S79) : evF (f190.X k) (bodyOf Try.f190) Try.f190.ntmps Try.f190.results.toList [.g [.s (.string s1), .s (.bool b2), .s (.int .i64 a3), .s (.int .i64 a4), .sl 79 xs5]] = f190.step k (fun x => f190.w x some) s1 b2 a3 a4 xs5 := by kernel_rfl
theorem f190.hok (k : Nat) : HOK (f190.X k) (bodyOf Try.f190) where
  l := allP_mem (by exact ⟨ls_of (h0 := fun S => f190.l4.hd k S.ts S.m S.n) (by kernel_rfl) (f190.l4.all k), trivial⟩)
  j := allP_mem (by exact trivial)
theorem f190.sound0 (k : Nat) : SoundC env Try.prog 190 (f190.hd k) := by
  intro ps_
  show GoodC _ _ _ ps_ (f190.hd k ps_)
  unfold f190.hd
  refine gC_ok (p := GoodC env Try.prog 190 _) goodC_no fun _ _ h => ?_
  subst h
  refine qG_ok (p := GoodC env Try.prog 190 _) goodC_no fun _ h => ?_
  subst h
  refine gC_ok (p := GoodC env Try.prog 190 _) goodC_no fun _ _ h => ?_
  subst h
  refine qS_ok (p := GoodC env Try.prog 190 _) goodC_no fun _ h => ?_
  subst h
  refine vS_ok (p := GoodC env Try.prog 190 _) goodC_no fun _ h => ?_
  subst h
  refine gC_ok (p := GoodC env Try.prog 190 _) goodC_no fun _ _ h => ?_
  subst h
  refine qS_ok (p := GoodC env Try.prog 190 _) goodC_no fun _ h => ?_
  subst h
  refine vB_ok (p := GoodC env Try.prog 190 _) goodC_no fun _ h => ?_
  subst h
  refine gC_ok (p := GoodC env Try.prog 190 _) goodC_no fun _ _ h => ?_
  subst h
  refine qS_ok (p := GoodC env Try.prog 190 _) goodC_no fun _ h => ?_
  subst h
  refine vI_ok (p := GoodC env Try.prog 190 _) goodC_no fun _ h => ?_
  subst h
  refine gC_ok (p := GoodC env Try.prog 190 _) goodC_no fun _ _ h => ?_
  subst h
  refine qS_ok (p := GoodC env Try.prog 190 _) goodC_no fun _ h => ?_
  subst h
  refine vI_ok (p := GoodC env Try.prog 190 _) goodC_no fun _ h => ?_
  subst h
  refine gC_ok (p := GoodC env Try.prog 190 _) goodC_no fun _ _ h => ?_
  subst h
  refine qSl_ok (p := GoodC env Try.prog 190 _) goodC_no fun _ h => ?_
  subst h
  refine gE_ok (p := GoodC env Try.prog 190 _) goodC_no fun h => ?_
  subst h
  refine gE_ok (p := GoodC env Try.prog 190 _) goodC_no fun h => ?_
  subst h
  exact fun_good (fun_sound envOK (cs_sound _ (by exact ⟨⟨f205.sound k, f205.fnok⟩, ⟨f206.sound k, f206.fnok⟩, trivial⟩)) (f190.hok k) Try.func190 rfl) ((f190.ev k _ _ _ _ _).trans (f190.nat k _ _ _ _ _ _))
theorem f190.sound (k : Nat) : SoundC env Try.prog 190 (f190.e k).F := soundC_coer (f190.sound0 k) [[.no, .no, .no, .no, .rd 79]]
theorem f190.says (k : Nat) (s1 : ByteArray) (b2 : Bool) (a3 : Int) (a4 : Int) (xs5 : List S79) (t21 : Bool) (h_ : f190 k s1 b2 a3 a4 xs5 = some t21) : SoundAt env Try.prog 190 [.g [.s (.string s1), .s (.bool b2), .s (.int .i64 a3), .s (.int .i64 a4), .sl 79 xs5]] ⟨.v (.c (.s (.bool t21))), [[]]⟩ :=
  fun_sound envOK (cs_sound _ (by exact ⟨⟨f205.sound k, f205.fnok⟩, ⟨f206.sound k, f206.fnok⟩, trivial⟩)) (f190.hok k) Try.func190 rfl _ _ (((f190.ev k s1 b2 a3 a4 xs5).trans (f190.nat k _ s1 b2 a3 a4 xs5)).trans (by rw [h_]; rfl))
theorem f190.fnok : FnOK Try.prog 190 := fn_ok Try.func190 (by kernel_rfl) rfl
def f83.step {R : Type} (k : Nat) (ret : Bool → Option R) (a1 : Int) (a2 : Int) (a3 : Int) : Option R :=
  if (decide (a1 ≥ a2)) = true then
    ret (decide (a1 ≤ a3))
  else
    ret false
def f83 (k : Nat) (a1 : Int) (a2 : Int) (a3 : Int) : Option Bool := f83.step k some a1 a2 a3
def f83.w {R : Type} : Bool → (Res env → Option R) → Option R := fun t4 K => K ⟨.v (.c (.s (.bool t4))), [[], [], []]⟩
theorem f83.wn (x : Bool) : ∃ res, ∀ {R : Type} (K : Res env → Option R), f83.w x K = K res := by
  exact ⟨_, fun _ => rfl⟩
def f83.hd (k : Nat) (ps_ : List (P2 env)) : Cl env :=
  gC Cl.no ps_ fun p_ ps_ => qC Cl.no p_ fun c_ => qS Cl.no c_ fun v_ => vI Cl.no .i64 v_ fun a1 => gC Cl.no ps_ fun p_ ps_ => qC Cl.no p_ fun c_ => qS Cl.no c_ fun v_ => vI Cl.no .i64 v_ fun a2 => gC Cl.no ps_ fun p_ ps_ => qC Cl.no p_ fun c_ => qS Cl.no c_ fun v_ => vI Cl.no .i64 v_ fun a3 => gE Cl.no ps_ <| { α := Bool, o := f83 k a1 a2 a3, w := f83.w, nat := fun x _ => f83.wn x }
def f83.e (k : Nat) : Entry env := ⟨f83.hd k, [], []⟩
def f83.X (k : Nat) : Ctx env := { C := lookE [], L := lookE [], J := lookE [], keep := lookD [], keepX := lookD [], span := lookN [], eff := fun n => memN n [], prep := lookP [], np := 0 }
theorem f83.nat {R : Type} (k : Nat) (g : Bool → Option R) (a1 : Int) (a2 : Int) (a3 : Int) : f83.step k g a1 a2 a3 = (f83 k a1 a2 a3).bind g := by
  simp only [f83, f83.step, bind_ite, bind_sum, Option.bind_assoc, Option.bind_some, Option.bind_none]
theorem f83.ev (k : Nat) (a1 : Int) (a2 : Int) (a3 : Int) : evF (f83.X k) (bodyOf Try.f83) Try.f83.ntmps Try.f83.results.toList [.v (.c (.s (.int .i64 a1))), .v (.c (.s (.int .i64 a2))), .v (.c (.s (.int .i64 a3)))] = f83.step k (fun x => f83.w x some) a1 a2 a3 := by kernel_rfl
theorem f83.hok (k : Nat) : HOK (f83.X k) (bodyOf Try.f83) where
  l := allP_mem (by exact trivial)
  j := allP_mem (by exact trivial)
theorem f83.sound (k : Nat) : SoundC env Try.prog 83 ((f83.e k).F) := by
  intro ps_
  show GoodC _ _ _ ps_ (f83.hd k ps_)
  unfold f83.hd
  refine gC_ok (p := GoodC env Try.prog 83 _) goodC_no fun _ _ h => ?_
  subst h
  refine qC_ok (p := GoodC env Try.prog 83 _) goodC_no fun _ h => ?_
  subst h
  refine qS_ok (p := GoodC env Try.prog 83 _) goodC_no fun _ h => ?_
  subst h
  refine vI_ok (p := GoodC env Try.prog 83 _) goodC_no fun _ h => ?_
  subst h
  refine gC_ok (p := GoodC env Try.prog 83 _) goodC_no fun _ _ h => ?_
  subst h
  refine qC_ok (p := GoodC env Try.prog 83 _) goodC_no fun _ h => ?_
  subst h
  refine qS_ok (p := GoodC env Try.prog 83 _) goodC_no fun _ h => ?_
  subst h
  refine vI_ok (p := GoodC env Try.prog 83 _) goodC_no fun _ h => ?_
  subst h
  refine gC_ok (p := GoodC env Try.prog 83 _) goodC_no fun _ _ h => ?_
  subst h
  refine qC_ok (p := GoodC env Try.prog 83 _) goodC_no fun _ h => ?_
  subst h
  refine qS_ok (p := GoodC env Try.prog 83 _) goodC_no fun _ h => ?_
  subst h
  refine vI_ok (p := GoodC env Try.prog 83 _) goodC_no fun _ h => ?_
  subst h
  refine gE_ok (p := GoodC env Try.prog 83 _) goodC_no fun h => ?_
  subst h
  exact fun_good (fun_sound envOK (cs_sound _ (by exact trivial)) (f83.hok k) Try.func83 rfl) ((f83.ev k _ _ _).trans (f83.nat k _ _ _ _))
theorem f83.says (k : Nat) (a1 : Int) (a2 : Int) (a3 : Int) (t5 : Bool) (h_ : f83 k a1 a2 a3 = some t5) : SoundAt env Try.prog 83 [.v (.c (.s (.int .i64 a1))), .v (.c (.s (.int .i64 a2))), .v (.c (.s (.int .i64 a3)))] ⟨.v (.c (.s (.bool t5))), [[], [], []]⟩ :=
  fun_sound envOK (cs_sound _ (by exact trivial)) (f83.hok k) Try.func83 rfl _ _ (((f83.ev k a1 a2 a3).trans (f83.nat k _ a1 a2 a3)).trans (by rw [h_]; rfl))
theorem f83.fnok : FnOK Try.prog 83 := fn_ok Try.func83 (by kernel_rfl) rfl
def f191.step {R : Type} (k : Nat) (ret : Bool → Option R) (s1 : ByteArray) (a2 : Int) (a3 : Int) : Option R :=
  (f205 k s1).bind fun t4 => if t4 = true then
      (f83 k a2 (0 : Int) (99 : Int)).bind fun t5 => if t5 = true then
          (f83 k a3 (0 : Int) (16 : Int)).bind fun t6 => ret t6
        else
          ret false
    else
      ret false
def f191 (k : Nat) (s1 : ByteArray) (a2 : Int) (a3 : Int) : Option Bool := f191.step k some s1 a2 a3
def f191.w {R : Type} : Bool → (Res env → Option R) → Option R := fun t7 K => K ⟨.v (.c (.s (.bool t7))), [[]]⟩
theorem f191.wn (x : Bool) : ∃ res, ∀ {R : Type} (K : Res env → Option R), f191.w x K = K res := by
  exact ⟨_, fun _ => rfl⟩
def f191.hd (k : Nat) (ps_ : List (P2 env)) : Cl env :=
  gC Cl.no ps_ fun p_ ps_ => qG Cl.no p_ fun cs_ => gC Cl.no cs_ fun c_ cs_ => qS Cl.no c_ fun v_ => vS Cl.no v_ fun s1 => gC Cl.no cs_ fun c_ cs_ => qS Cl.no c_ fun v_ => vI Cl.no .i64 v_ fun a2 => gC Cl.no cs_ fun c_ cs_ => qS Cl.no c_ fun v_ => vI Cl.no .i64 v_ fun a3 => gE Cl.no cs_ <| gE Cl.no ps_ <| { α := Bool, o := f191 k s1 a2 a3, w := f191.w, nat := fun x _ => f191.wn x }
def f191.e (k : Nat) : Entry env := ⟨f191.hd k, [], []⟩
def f191.X (k : Nat) : Ctx env := { C := lookE [(83, f83.e k), (205, f205.e k)], L := lookE [], J := lookE [], keep := lookD [], keepX := lookD [], span := lookN [], eff := fun n => memN n [], prep := lookP [], np := 0 }
theorem f191.nat {R : Type} (k : Nat) (g : Bool → Option R) (s1 : ByteArray) (a2 : Int) (a3 : Int) : f191.step k g s1 a2 a3 = (f191 k s1 a2 a3).bind g := by
  simp only [f191, f191.step, bind_ite, bind_sum, Option.bind_assoc, Option.bind_some, Option.bind_none]
theorem f191.ev (k : Nat) (s1 : ByteArray) (a2 : Int) (a3 : Int) : evF (f191.X k) (bodyOf Try.f191) Try.f191.ntmps Try.f191.results.toList [.g [.s (.string s1), .s (.int .i64 a2), .s (.int .i64 a3)]] = f191.step k (fun x => f191.w x some) s1 a2 a3 := by kernel_rfl
theorem f191.hok (k : Nat) : HOK (f191.X k) (bodyOf Try.f191) where
  l := allP_mem (by exact trivial)
  j := allP_mem (by exact trivial)
theorem f191.sound (k : Nat) : SoundC env Try.prog 191 ((f191.e k).F) := by
  intro ps_
  show GoodC _ _ _ ps_ (f191.hd k ps_)
  unfold f191.hd
  refine gC_ok (p := GoodC env Try.prog 191 _) goodC_no fun _ _ h => ?_
  subst h
  refine qG_ok (p := GoodC env Try.prog 191 _) goodC_no fun _ h => ?_
  subst h
  refine gC_ok (p := GoodC env Try.prog 191 _) goodC_no fun _ _ h => ?_
  subst h
  refine qS_ok (p := GoodC env Try.prog 191 _) goodC_no fun _ h => ?_
  subst h
  refine vS_ok (p := GoodC env Try.prog 191 _) goodC_no fun _ h => ?_
  subst h
  refine gC_ok (p := GoodC env Try.prog 191 _) goodC_no fun _ _ h => ?_
  subst h
  refine qS_ok (p := GoodC env Try.prog 191 _) goodC_no fun _ h => ?_
  subst h
  refine vI_ok (p := GoodC env Try.prog 191 _) goodC_no fun _ h => ?_
  subst h
  refine gC_ok (p := GoodC env Try.prog 191 _) goodC_no fun _ _ h => ?_
  subst h
  refine qS_ok (p := GoodC env Try.prog 191 _) goodC_no fun _ h => ?_
  subst h
  refine vI_ok (p := GoodC env Try.prog 191 _) goodC_no fun _ h => ?_
  subst h
  refine gE_ok (p := GoodC env Try.prog 191 _) goodC_no fun h => ?_
  subst h
  refine gE_ok (p := GoodC env Try.prog 191 _) goodC_no fun h => ?_
  subst h
  exact fun_good (fun_sound envOK (cs_sound _ (by exact ⟨⟨f83.sound k, f83.fnok⟩, ⟨f205.sound k, f205.fnok⟩, trivial⟩)) (f191.hok k) Try.func191 rfl) ((f191.ev k _ _ _).trans (f191.nat k _ _ _ _))
theorem f191.says (k : Nat) (s1 : ByteArray) (a2 : Int) (a3 : Int) (t8 : Bool) (h_ : f191 k s1 a2 a3 = some t8) : SoundAt env Try.prog 191 [.g [.s (.string s1), .s (.int .i64 a2), .s (.int .i64 a3)]] ⟨.v (.c (.s (.bool t8))), [[]]⟩ :=
  fun_sound envOK (cs_sound _ (by exact ⟨⟨f83.sound k, f83.fnok⟩, ⟨f205.sound k, f205.fnok⟩, trivial⟩)) (f191.hok k) Try.func191 rfl _ _ (((f191.ev k s1 a2 a3).trans (f191.nat k _ s1 a2 a3)).trans (by rw [h_]; rfl))
theorem f191.fnok : FnOK Try.prog 191 := fn_ok Try.func191 (by kernel_rfl) rfl
def f163i.w {R : Type} : Int → (Res env → Option R) → Option R := fun t29 K => K ⟨.v (.c (.s (.int .i64 t29))), [[], []]⟩
theorem f163i.wn (x : Int) : ∃ res, ∀ {R : Type} (K : Res env → Option R), f163i.w x K = K res := by
  exact ⟨_, fun _ => rfl⟩
def f163i.hdG (G_ : ByteArray → Bool → Int → Int → (List S79) → Bool → Option Int) (ps_ : List (P2 env)) : Cl env :=
  gC Cl.no ps_ fun p_ ps_ => qG Cl.no p_ fun cs_ => gC Cl.no cs_ fun c_ cs_ => qS Cl.no c_ fun v_ => vS Cl.no v_ fun s1 => gC Cl.no cs_ fun c_ cs_ => qS Cl.no c_ fun v_ => vB Cl.no v_ fun b2 => gC Cl.no cs_ fun c_ cs_ => qS Cl.no c_ fun v_ => vI Cl.no .i64 v_ fun a3 => gC Cl.no cs_ fun c_ cs_ => qS Cl.no c_ fun v_ => vI Cl.no .i64 v_ fun a4 => gC Cl.no cs_ fun c_ cs_ => qSl Cl.no 79 c_ fun xs5 => gE Cl.no cs_ <| gC Cl.no ps_ fun p_ ps_ => qC Cl.no p_ fun c_ => qS Cl.no c_ fun v_ => vB Cl.no v_ fun b6 => gE Cl.no ps_ <| { α := Int, o := G_ s1 b2 a3 a4 xs5 b6, w := f163i.w, nat := fun x _ => f163i.wn x }
def f163i.eG (G_ : ByteArray → Bool → Int → Int → (List S79) → Bool → Option Int) : Entry env := ⟨fun ps => f163i.hdG G_ (coer [[.no, .no, .no, .no, .rd 79], [.no]] ps), [], []⟩
theorem f163i.none_ : SoundC env Try.prog 163 (f163i.eG (fun _ _ _ _ _ _ => none)).F := by
  refine soundC_coer (F := f163i.hdG (fun _ _ _ _ _ _ => none)) ?_ [[.no, .no, .no, .no, .rd 79], [.no]]
  intro ps_
  show GoodC _ _ _ ps_ (f163i.hdG (fun _ _ _ _ _ _ => none) ps_)
  unfold f163i.hdG
  refine gC_ok (p := GoodC env Try.prog 163 _) goodC_no fun _ _ h => ?_
  subst h
  refine qG_ok (p := GoodC env Try.prog 163 _) goodC_no fun _ h => ?_
  subst h
  refine gC_ok (p := GoodC env Try.prog 163 _) goodC_no fun _ _ h => ?_
  subst h
  refine qS_ok (p := GoodC env Try.prog 163 _) goodC_no fun _ h => ?_
  subst h
  refine vS_ok (p := GoodC env Try.prog 163 _) goodC_no fun _ h => ?_
  subst h
  refine gC_ok (p := GoodC env Try.prog 163 _) goodC_no fun _ _ h => ?_
  subst h
  refine qS_ok (p := GoodC env Try.prog 163 _) goodC_no fun _ h => ?_
  subst h
  refine vB_ok (p := GoodC env Try.prog 163 _) goodC_no fun _ h => ?_
  subst h
  refine gC_ok (p := GoodC env Try.prog 163 _) goodC_no fun _ _ h => ?_
  subst h
  refine qS_ok (p := GoodC env Try.prog 163 _) goodC_no fun _ h => ?_
  subst h
  refine vI_ok (p := GoodC env Try.prog 163 _) goodC_no fun _ h => ?_
  subst h
  refine gC_ok (p := GoodC env Try.prog 163 _) goodC_no fun _ _ h => ?_
  subst h
  refine qS_ok (p := GoodC env Try.prog 163 _) goodC_no fun _ h => ?_
  subst h
  refine vI_ok (p := GoodC env Try.prog 163 _) goodC_no fun _ h => ?_
  subst h
  refine gC_ok (p := GoodC env Try.prog 163 _) goodC_no fun _ _ h => ?_
  subst h
  refine qSl_ok (p := GoodC env Try.prog 163 _) goodC_no fun _ h => ?_
  subst h
  refine gE_ok (p := GoodC env Try.prog 163 _) goodC_no fun h => ?_
  subst h
  refine gC_ok (p := GoodC env Try.prog 163 _) goodC_no fun _ _ h => ?_
  subst h
  refine qC_ok (p := GoodC env Try.prog 163 _) goodC_no fun _ h => ?_
  subst h
  refine qS_ok (p := GoodC env Try.prog 163 _) goodC_no fun _ h => ?_
  subst h
  refine vB_ok (p := GoodC env Try.prog 163 _) goodC_no fun _ h => ?_
  subst h
  refine gE_ok (p := GoodC env Try.prog 163 _) goodC_no fun h => ?_
  subst h
  intro x h; cases h
theorem f163.fnok : FnOK Try.prog 163 := fn_ok Try.func163 (by kernel_rfl) rfl
def f163i.l11.step {R : Type} (g163 : ByteArray → Bool → Int → Int → (List S79) → Bool → Option Int) (k : Nat) (rec_ : Int → (List S79) → Int → Int → Option R) (ret : ((Int × Int) ⊕ (Int)) → Option R) (a9 : Int) (xs10 : List S79) (a11 : Int) (a12 : Int) : Option R :=
  if (decide (a12 < a11)) = true then
    if (0 : Int) ≤ a12 then
      if a12 < ((List.length xs10 : Nat) : Int) then
        (g163 (List.getD xs10 (Int.toNat a12) (⟨ByteArray.empty, false, (0 : Int), (0 : Int), []⟩ : S79)).f0 (List.getD xs10 (Int.toNat a12) (⟨ByteArray.empty, false, (0 : Int), (0 : Int), []⟩ : S79)).f1 (List.getD xs10 (Int.toNat a12) (⟨ByteArray.empty, false, (0 : Int), (0 : Int), []⟩ : S79)).f2 (List.getD xs10 (Int.toNat a12) (⟨ByteArray.empty, false, (0 : Int), (0 : Int), []⟩ : S79)).f3 (List.getD xs10 (Int.toNat a12) (⟨ByteArray.empty, false, (0 : Int), (0 : Int), []⟩ : S79)).f4 false).bind fun t13 => if (decide (t13 < (0 : Int))) = true then
            ret (.inl ((-1 : Int), a9))
          else
            rec_ (IntKind.i64.wrap (a9 + t13)) xs10 a11 (IntKind.i64.wrap (a12 + (1 : Int)))
      else none
    else none
  else
    ret (.inr a9)
def f163i.l11 (g163 : ByteArray → Bool → Int → Int → (List S79) → Bool → Option Int) (k : Nat) : Nat → Int → (List S79) → Int → Int → Option ((Int × Int) ⊕ (Int))
  | 0, _, _, _, _ => none
  | j + 1, a9, xs10, a11, a12 => f163i.l11.step g163 k (fun a9 xs10 a11 a12 => f163i.l11 g163 k j a9 xs10 a11 a12) some a9 xs10 a11 a12
def f163i.l11.w {R : Type} : ((Int × Int) ⊕ (Int)) → (Exit → St env → Option R) → Option R := fun x K => Sum.elim (fun t25 => K .ret ⟨fullT [4, 5] 0 57 [.v (.c (.s (.int .i64 t25.1))), .v (.c (.s (.int .i64 t25.2)))], [], 626⟩) (fun t26 => K (.exit 0) ⟨fullT [5] 0 57 [.v (.c (.s (.int .i64 t26)))], [], 626⟩) x
def f163i.l11.st (a9 : Int) (xs10 : List S79) (a11 : Int) (a12 : Int) : St env := ⟨fullT [5, 42, 43, 44] 0 57 [.v (.c (.s (.int .i64 a9))), .v (.c (.imm 79 xs10)), .v (.c (.s (.int .i64 a11))), .v (.c (.s (.int .i64 a12)))], [], 354⟩
def f163i.l11_1.step {R : Type} (g163 : ByteArray → Bool → Int → Int → (List S79) → Bool → Option Int) (k : Nat) (rec_ : Int → (List S79) → Int → Int → Option R) (ret : ((Int × Int) ⊕ (Int)) → Option R) (a16 : Int) (xs17 : List S79) (a18 : Int) (a19 : Int) : Option R :=
  if (decide (a19 < a18)) = true then
    if (0 : Int) ≤ a19 then
      if a19 < ((List.length xs17 : Nat) : Int) then
        (g163 (List.getD xs17 (Int.toNat a19) (⟨ByteArray.empty, false, (0 : Int), (0 : Int), []⟩ : S79)).f0 (List.getD xs17 (Int.toNat a19) (⟨ByteArray.empty, false, (0 : Int), (0 : Int), []⟩ : S79)).f1 (List.getD xs17 (Int.toNat a19) (⟨ByteArray.empty, false, (0 : Int), (0 : Int), []⟩ : S79)).f2 (List.getD xs17 (Int.toNat a19) (⟨ByteArray.empty, false, (0 : Int), (0 : Int), []⟩ : S79)).f3 (List.getD xs17 (Int.toNat a19) (⟨ByteArray.empty, false, (0 : Int), (0 : Int), []⟩ : S79)).f4 false).bind fun t20 => if (decide (t20 < (0 : Int))) = true then
            ret (.inl ((-1 : Int), a16))
          else
            rec_ (IntKind.i64.wrap (a16 + t20)) xs17 a18 (IntKind.i64.wrap (a19 + (1 : Int)))
      else none
    else none
  else
    ret (.inr a16)
def f163i.l11_1 (g163 : ByteArray → Bool → Int → Int → (List S79) → Bool → Option Int) (k : Nat) : Nat → Int → (List S79) → Int → Int → Option ((Int × Int) ⊕ (Int))
  | 0, _, _, _, _ => none
  | j + 1, a16, xs17, a18, a19 => f163i.l11_1.step g163 k (fun a16 xs17 a18 a19 => f163i.l11_1 g163 k j a16 xs17 a18 a19) some a16 xs17 a18 a19
def f163i.l11_1.w {R : Type} : ((Int × Int) ⊕ (Int)) → (Exit → St env → Option R) → Option R := fun x K => Sum.elim (fun t27 => K .ret ⟨fullT [4, 5] 0 57 [.v (.c (.s (.int .i64 t27.1))), .v (.c (.s (.int .i64 t27.2)))], [], 754⟩) (fun t28 => K (.exit 0) ⟨fullT [5] 0 57 [.v (.c (.s (.int .i64 t28)))], [], 754⟩) x
def f163i.l11_1.st (a16 : Int) (xs17 : List S79) (a18 : Int) (a19 : Int) : St env := ⟨fullT [5, 42, 43, 44] 0 57 [.v (.c (.s (.int .i64 a16))), .v (.c (.imm 79 xs17)), .v (.c (.s (.int .i64 a18))), .v (.c (.s (.int .i64 a19)))], [], 482⟩
def f163i.l11_1.hd (g163 : ByteArray → Bool → Int → Int → (List S79) → Bool → Option Int) (k : Nat) (ts_ : List (AV env)) (mm_ : Mem env) (n_ : Nat) : LCl env :=
  gTs LCl.no [5, 42, 43, 44] 57 ts_ fun l_ => gV LCl.no l_ fun a_ l_ => rV LCl.no a_ fun v_ => vI LCl.no .i64 v_ fun a16 => gV LCl.no l_ fun a_ l_ => rImm LCl.no 79 a_ fun xs17 => gV LCl.no l_ fun a_ l_ => rV LCl.no a_ fun v_ => vI LCl.no .i64 v_ fun a18 => gV LCl.no l_ fun a_ l_ => rV LCl.no a_ fun v_ => vI LCl.no .i64 v_ fun a19 => gE LCl.no l_ <| gE LCl.no mm_ <| gN LCl.no 482 n_ { α := (Int × Int) ⊕ (Int), o := f163i.l11_1 g163 k k a16 xs17 a18 a19, w := f163i.l11_1.w }
def f163i.l11.hd (g163 : ByteArray → Bool → Int → Int → (List S79) → Bool → Option Int) (k : Nat) (ts_ : List (AV env)) (mm_ : Mem env) (n_ : Nat) : LCl env :=
  gTs (f163i.l11_1.hd g163 k ts_ mm_ n_) [5, 42, 43, 44] 57 ts_ fun l_ => gV (f163i.l11_1.hd g163 k ts_ mm_ n_) l_ fun a_ l_ => rV (f163i.l11_1.hd g163 k ts_ mm_ n_) a_ fun v_ => vI (f163i.l11_1.hd g163 k ts_ mm_ n_) .i64 v_ fun a9 => gV (f163i.l11_1.hd g163 k ts_ mm_ n_) l_ fun a_ l_ => rImm (f163i.l11_1.hd g163 k ts_ mm_ n_) 79 a_ fun xs10 => gV (f163i.l11_1.hd g163 k ts_ mm_ n_) l_ fun a_ l_ => rV (f163i.l11_1.hd g163 k ts_ mm_ n_) a_ fun v_ => vI (f163i.l11_1.hd g163 k ts_ mm_ n_) .i64 v_ fun a11 => gV (f163i.l11_1.hd g163 k ts_ mm_ n_) l_ fun a_ l_ => rV (f163i.l11_1.hd g163 k ts_ mm_ n_) a_ fun v_ => vI (f163i.l11_1.hd g163 k ts_ mm_ n_) .i64 v_ fun a12 => gE (f163i.l11_1.hd g163 k ts_ mm_ n_) l_ <| gE (f163i.l11_1.hd g163 k ts_ mm_ n_) mm_ <| gN (f163i.l11_1.hd g163 k ts_ mm_ n_) 354 n_ { α := (Int × Int) ⊕ (Int), o := f163i.l11 g163 k k a9 xs10 a11 a12, w := f163i.l11.w }
def f163i.step {R : Type} (g163 : ByteArray → Bool → Int → Int → (List S79) → Bool → Option Int) (k : Nat) (ret : Int → Option R) (s1 : ByteArray) (b2 : Bool) (a3 : Int) (a4 : Int) (xs5 : List S79) (b6 : Bool) : Option R :=
  (f190 k s1 b2 a3 a4 xs5).bind fun t7 => if (!t7) = true then
      ret (-1 : Int)
    else
      if b2 = true then
        (f191 k s1 a3 a4).bind fun t8 => if (!t8) = true then
            ret (-1 : Int)
          else
            (f163i.l11 g163 k k (1 : Int) xs5 (((List.length xs5) : Nat) : Int) (0 : Int)).bind (Sum.elim (fun t14 => ret t14.1) (fun t15 => ret t15))
      else
        if (decide (a3 ≠ (0 : Int))) = false then
          if (decide (a4 ≠ (0 : Int))) = false then
            if (!b6) = true then
              if (decide ((((List.length xs5) : Nat) : Int) ≠ (2 : Int))) = true then
                ret (-1 : Int)
              else
                (f163i.l11_1 g163 k k (0 : Int) xs5 (((List.length xs5) : Nat) : Int) (0 : Int)).bind (Sum.elim (fun t21 => ret t21.1) (fun t22 => ret t22))
            else
              (f163i.l11_1 g163 k k (0 : Int) xs5 (((List.length xs5) : Nat) : Int) (0 : Int)).bind (Sum.elim (fun t23 => ret t23.1) (fun t24 => ret t24))
          else
            ret (-1 : Int)
        else
          ret (-1 : Int)
def f163i (g163 : ByteArray → Bool → Int → Int → (List S79) → Bool → Option Int) (k : Nat) (s1 : ByteArray) (b2 : Bool) (a3 : Int) (a4 : Int) (xs5 : List S79) (b6 : Bool) : Option Int := f163i.step g163 k some s1 b2 a3 a4 xs5 b6
def f163i.hd (g163 : ByteArray → Bool → Int → Int → (List S79) → Bool → Option Int) (k : Nat) (ps_ : List (P2 env)) : Cl env := f163i.hdG (f163i g163 k) ps_
def f163i.e (g163 : ByteArray → Bool → Int → Int → (List S79) → Bool → Option Int) (k : Nat) : Entry env := f163i.eG (f163i g163 k)
def f163i.X (g163 : ByteArray → Bool → Int → Int → (List S79) → Bool → Option Int) (k : Nat) : Ctx env := { C := lookE [(163, f163i.eG g163), (190, f190.e k), (191, f191.e k)], L := lookE [(11, fun S => f163i.l11.hd g163 k S.ts S.m S.n)], J := lookE [], keep := lookD [(11, [5, 42, 43, 44])], keepX := lookD [(11, [4, 5])], span := lookN [(11, 272)], eff := fun n => memN n [], prep := lookP [], np := 0 }
theorem f163i.l11_1.nat {R : Type} (g163 : ByteArray → Bool → Int → Int → (List S79) → Bool → Option Int) (k : Nat) (rec_ : Int → (List S79) → Int → Int → Option ((Int × Int) ⊕ (Int))) (g : ((Int × Int) ⊕ (Int)) → Option R) (a16 : Int) (xs17 : List S79) (a18 : Int) (a19 : Int) : (f163i.l11_1.step g163 k rec_ some a16 xs17 a18 a19).bind g = f163i.l11_1.step g163 k (fun a16 xs17 a18 a19 => (rec_ a16 xs17 a18 a19).bind g) g a16 xs17 a18 a19 := by
  simp only [f163i.l11_1.step, bind_ite, bind_sum, Option.bind_assoc, Option.bind_some, Option.bind_none]
theorem f163i.l11_1.good (g163 : ByteArray → Bool → Int → Int → (List S79) → Bool → Option Int) (k : Nat) (a16 : Int) (xs17 : List S79) (a18 : Int) (a19 : Int) : GoodL (f163i.X g163 k) (nthC 0 (loopsOf (bodyOf Try.f163))) (f163i.l11_1.st a16 xs17 a18 a19) { α := ((Int × Int) ⊕ (Int)), o := f163i.l11_1 g163 k k a16 xs17 a18 a19, w := f163i.l11_1.w } :=
  loop_good (ι := Int × (List S79) × Int × Int) (α := ((Int × Int) ⊕ (Int))) (fun i => f163i.l11_1.st i.1 i.2.1 i.2.2.1 i.2.2.2) (fun j i => f163i.l11_1 g163 k j i.1 i.2.1 i.2.2.1 i.2.2.2) f163i.l11_1.w (fun rec_ ret i => f163i.l11_1.step g163 k (fun a16 xs17 a18 a19 => rec_ (a16, xs17, a18, a19)) ret i.1 i.2.1 i.2.2.1 i.2.2.2)
    (fun _ => rfl) (fun _ _ => rfl) (fun rec_ g i => f163i.l11_1.nat g163 k _ g i.1 i.2.1 i.2.2.1 i.2.2.2) (fun {R} i0 i rec_ K => by kernel_rfl) k (a16, xs17, a18, a19)
theorem f163i.l11_1.all (g163 : ByteArray → Bool → Int → Int → (List S79) → Bool → Option Int) (k : Nat) (S : St env) : GoodL (f163i.X g163 k) (nthC 0 (loopsOf (bodyOf Try.f163))) S (f163i.l11_1.hd g163 k S.ts S.m S.n) := by
  obtain ⟨ts_, m_, n_⟩ := S
  show GoodL _ _ _ (f163i.l11_1.hd g163 k ts_ m_ n_)
  unfold f163i.l11_1.hd
  refine gTs_ok (p := GoodL _ _ _) goodL_no fun _ h => ?_
  subst h
  refine gV_ok (p := GoodL _ _ _) goodL_no fun _ _ h => ?_
  subst h
  refine rV_ok (p := GoodL _ _ _) goodL_no fun _ h => ?_
  subst h
  refine vI_ok (p := GoodL _ _ _) goodL_no fun _ h => ?_
  subst h
  refine gV_ok (p := GoodL _ _ _) goodL_no fun _ _ h => ?_
  subst h
  refine rImm_ok (p := GoodL _ _ _) goodL_no fun _ h => ?_
  subst h
  refine gV_ok (p := GoodL _ _ _) goodL_no fun _ _ h => ?_
  subst h
  refine rV_ok (p := GoodL _ _ _) goodL_no fun _ h => ?_
  subst h
  refine vI_ok (p := GoodL _ _ _) goodL_no fun _ h => ?_
  subst h
  refine gV_ok (p := GoodL _ _ _) goodL_no fun _ _ h => ?_
  subst h
  refine rV_ok (p := GoodL _ _ _) goodL_no fun _ h => ?_
  subst h
  refine vI_ok (p := GoodL _ _ _) goodL_no fun _ h => ?_
  subst h
  refine gE_ok (p := GoodL _ _ _) goodL_no fun h => ?_
  subst h
  refine gE_ok (p := GoodL _ _ _) goodL_no fun h => ?_
  subst h
  refine gN_ok (p := GoodL _ _ _) goodL_no fun h => ?_
  subst h
  exact f163i.l11_1.good g163 k _ _ _ _
theorem f163i.l11.nat {R : Type} (g163 : ByteArray → Bool → Int → Int → (List S79) → Bool → Option Int) (k : Nat) (rec_ : Int → (List S79) → Int → Int → Option ((Int × Int) ⊕ (Int))) (g : ((Int × Int) ⊕ (Int)) → Option R) (a9 : Int) (xs10 : List S79) (a11 : Int) (a12 : Int) : (f163i.l11.step g163 k rec_ some a9 xs10 a11 a12).bind g = f163i.l11.step g163 k (fun a9 xs10 a11 a12 => (rec_ a9 xs10 a11 a12).bind g) g a9 xs10 a11 a12 := by
  simp only [f163i.l11.step, bind_ite, bind_sum, Option.bind_assoc, Option.bind_some, Option.bind_none]
theorem f163i.l11.good (g163 : ByteArray → Bool → Int → Int → (List S79) → Bool → Option Int) (k : Nat) (a9 : Int) (xs10 : List S79) (a11 : Int) (a12 : Int) : GoodL (f163i.X g163 k) (nthC 0 (loopsOf (bodyOf Try.f163))) (f163i.l11.st a9 xs10 a11 a12) { α := ((Int × Int) ⊕ (Int)), o := f163i.l11 g163 k k a9 xs10 a11 a12, w := f163i.l11.w } :=
  loop_good (ι := Int × (List S79) × Int × Int) (α := ((Int × Int) ⊕ (Int))) (fun i => f163i.l11.st i.1 i.2.1 i.2.2.1 i.2.2.2) (fun j i => f163i.l11 g163 k j i.1 i.2.1 i.2.2.1 i.2.2.2) f163i.l11.w (fun rec_ ret i => f163i.l11.step g163 k (fun a9 xs10 a11 a12 => rec_ (a9, xs10, a11, a12)) ret i.1 i.2.1 i.2.2.1 i.2.2.2)
    (fun _ => rfl) (fun _ _ => rfl) (fun rec_ g i => f163i.l11.nat g163 k _ g i.1 i.2.1 i.2.2.1 i.2.2.2) (fun {R} i0 i rec_ K => by kernel_rfl) k (a9, xs10, a11, a12)
theorem f163i.l11.all (g163 : ByteArray → Bool → Int → Int → (List S79) → Bool → Option Int) (k : Nat) (S : St env) : GoodL (f163i.X g163 k) (nthC 0 (loopsOf (bodyOf Try.f163))) S (f163i.l11.hd g163 k S.ts S.m S.n) := by
  obtain ⟨ts_, m_, n_⟩ := S
  have hN_ := f163i.l11_1.all g163 k ⟨ts_, m_, n_⟩
  show GoodL _ _ _ (f163i.l11.hd g163 k ts_ m_ n_)
  unfold f163i.l11.hd
  refine gTs_ok (p := GoodL _ _ _) hN_ fun _ h => ?_
  subst h
  refine gV_ok (p := GoodL _ _ _) hN_ fun _ _ h => ?_
  subst h
  refine rV_ok (p := GoodL _ _ _) hN_ fun _ h => ?_
  subst h
  refine vI_ok (p := GoodL _ _ _) hN_ fun _ h => ?_
  subst h
  refine gV_ok (p := GoodL _ _ _) hN_ fun _ _ h => ?_
  subst h
  refine rImm_ok (p := GoodL _ _ _) hN_ fun _ h => ?_
  subst h
  refine gV_ok (p := GoodL _ _ _) hN_ fun _ _ h => ?_
  subst h
  refine rV_ok (p := GoodL _ _ _) hN_ fun _ h => ?_
  subst h
  refine vI_ok (p := GoodL _ _ _) hN_ fun _ h => ?_
  subst h
  refine gV_ok (p := GoodL _ _ _) hN_ fun _ _ h => ?_
  subst h
  refine rV_ok (p := GoodL _ _ _) hN_ fun _ h => ?_
  subst h
  refine vI_ok (p := GoodL _ _ _) hN_ fun _ h => ?_
  subst h
  refine gE_ok (p := GoodL _ _ _) hN_ fun h => ?_
  subst h
  refine gE_ok (p := GoodL _ _ _) hN_ fun h => ?_
  subst h
  refine gN_ok (p := GoodL _ _ _) hN_ fun h => ?_
  subst h
  exact f163i.l11.good g163 k _ _ _ _
theorem f163i.nat {R : Type} (g163 : ByteArray → Bool → Int → Int → (List S79) → Bool → Option Int) (k : Nat) (g : Int → Option R) (s1 : ByteArray) (b2 : Bool) (a3 : Int) (a4 : Int) (xs5 : List S79) (b6 : Bool) : f163i.step g163 k g s1 b2 a3 a4 xs5 b6 = (f163i g163 k s1 b2 a3 a4 xs5 b6).bind g := by
  simp only [f163i, f163i.step, bind_ite, bind_sum, Option.bind_assoc, Option.bind_some, Option.bind_none]
theorem f163i.ev (g163 : ByteArray → Bool → Int → Int → (List S79) → Bool → Option Int) (k : Nat) (s1 : ByteArray) (b2 : Bool) (a3 : Int) (a4 : Int) (xs5 : List S79) (b6 : Bool) : evF (f163i.X g163 k) (bodyOf Try.f163) Try.f163.ntmps Try.f163.results.toList [.g [.s (.string s1), .s (.bool b2), .s (.int .i64 a3), .s (.int .i64 a4), .sl 79 xs5], .v (.c (.s (.bool b6)))] = f163i.step g163 k (fun x => f163i.w x some) s1 b2 a3 a4 xs5 b6 := by kernel_rfl
theorem f163i.hok (g163 : ByteArray → Bool → Int → Int → (List S79) → Bool → Option Int) (k : Nat) : HOK (f163i.X g163 k) (bodyOf Try.f163) where
  l := allP_mem (by exact ⟨ls_of (h0 := fun S => f163i.l11.hd g163 k S.ts S.m S.n) (by kernel_rfl) (f163i.l11.all g163 k), trivial⟩)
  j := allP_mem (by exact trivial)
theorem f163i.sound0 (g163 : ByteArray → Bool → Int → Int → (List S79) → Bool → Option Int) (hg_ : SoundC env Try.prog 163 (f163i.eG g163).F) (k : Nat) : SoundC env Try.prog 163 (f163i.hd g163 k) := by
  intro ps_
  show GoodC _ _ _ ps_ (f163i.hd g163 k ps_)
  unfold f163i.hd f163i.hdG
  refine gC_ok (p := GoodC env Try.prog 163 _) goodC_no fun _ _ h => ?_
  subst h
  refine qG_ok (p := GoodC env Try.prog 163 _) goodC_no fun _ h => ?_
  subst h
  refine gC_ok (p := GoodC env Try.prog 163 _) goodC_no fun _ _ h => ?_
  subst h
  refine qS_ok (p := GoodC env Try.prog 163 _) goodC_no fun _ h => ?_
  subst h
  refine vS_ok (p := GoodC env Try.prog 163 _) goodC_no fun _ h => ?_
  subst h
  refine gC_ok (p := GoodC env Try.prog 163 _) goodC_no fun _ _ h => ?_
  subst h
  refine qS_ok (p := GoodC env Try.prog 163 _) goodC_no fun _ h => ?_
  subst h
  refine vB_ok (p := GoodC env Try.prog 163 _) goodC_no fun _ h => ?_
  subst h
  refine gC_ok (p := GoodC env Try.prog 163 _) goodC_no fun _ _ h => ?_
  subst h
  refine qS_ok (p := GoodC env Try.prog 163 _) goodC_no fun _ h => ?_
  subst h
  refine vI_ok (p := GoodC env Try.prog 163 _) goodC_no fun _ h => ?_
  subst h
  refine gC_ok (p := GoodC env Try.prog 163 _) goodC_no fun _ _ h => ?_
  subst h
  refine qS_ok (p := GoodC env Try.prog 163 _) goodC_no fun _ h => ?_
  subst h
  refine vI_ok (p := GoodC env Try.prog 163 _) goodC_no fun _ h => ?_
  subst h
  refine gC_ok (p := GoodC env Try.prog 163 _) goodC_no fun _ _ h => ?_
  subst h
  refine qSl_ok (p := GoodC env Try.prog 163 _) goodC_no fun _ h => ?_
  subst h
  refine gE_ok (p := GoodC env Try.prog 163 _) goodC_no fun h => ?_
  subst h
  refine gC_ok (p := GoodC env Try.prog 163 _) goodC_no fun _ _ h => ?_
  subst h
  refine qC_ok (p := GoodC env Try.prog 163 _) goodC_no fun _ h => ?_
  subst h
  refine qS_ok (p := GoodC env Try.prog 163 _) goodC_no fun _ h => ?_
  subst h
  refine vB_ok (p := GoodC env Try.prog 163 _) goodC_no fun _ h => ?_
  subst h
  refine gE_ok (p := GoodC env Try.prog 163 _) goodC_no fun h => ?_
  subst h
  exact fun_good (fun_sound envOK (cs_sound _ (by exact ⟨⟨hg_, f163.fnok⟩, ⟨f190.sound k, f190.fnok⟩, ⟨f191.sound k, f191.fnok⟩, trivial⟩)) (f163i.hok g163 k) Try.func163 rfl) ((f163i.ev g163 k _ _ _ _ _ _).trans (f163i.nat g163 k _ _ _ _ _ _ _))
theorem f163i.sound (g163 : ByteArray → Bool → Int → Int → (List S79) → Bool → Option Int) (hg_ : SoundC env Try.prog 163 (f163i.eG g163).F) (k : Nat) : SoundC env Try.prog 163 (f163i.e g163 k).F := soundC_coer (f163i.sound0 g163 hg_ k) [[.no, .no, .no, .no, .rd 79], [.no]]
def f163i.r (k : Nat) : Nat → ByteArray → Bool → Int → Int → (List S79) → Bool → Option Int
  | 0 => fun _ _ _ _ _ _ => none
  | j + 1 => fun s1 b2 a3 a4 xs5 b6 => f163i (f163i.r k j) k s1 b2 a3 a4 xs5 b6
theorem f163i.all_ (k : Nat) : ∀ j, SoundC env Try.prog 163 (f163i.eG (f163i.r k j)).F
  | 0 => f163i.none_
  | j + 1 => f163i.sound (f163i.r k j) (f163i.all_ k j) k
def f163 (k : Nat) (s1 : ByteArray) (b2 : Bool) (a3 : Int) (a4 : Int) (xs5 : List S79) (b6 : Bool) : Option Int := f163i.r k k s1 b2 a3 a4 xs5 b6
def f163.e (k : Nat) : Entry env := f163i.eG (f163 k)
theorem f163.sound (k : Nat) : SoundC env Try.prog 163 (f163.e k).F := f163i.all_ k k
def f117.step {R : Type} (k : Nat) (ret : Bool → Option R) (s1 : ByteArray) (b2 : Bool) (a3 : Int) (a4 : Int) (xs5 : List S79) : Option R :=
  if (decide (ByteArray.toList s1 = ByteArray.toList (⟨#[]⟩ : ByteArray))) = true then
    (f163 k s1 b2 a3 a4 xs5 true).bind fun t6 => (f83 k t6 (0 : Int) (60 : Int)).bind fun t7 => ret t7
  else
    ret false
def f117 (k : Nat) (s1 : ByteArray) (b2 : Bool) (a3 : Int) (a4 : Int) (xs5 : List S79) : Option Bool := f117.step k some s1 b2 a3 a4 xs5
def f117.w {R : Type} : Bool → (Res env → Option R) → Option R := fun t8 K => K ⟨.v (.c (.s (.bool t8))), [[]]⟩
theorem f117.wn (x : Bool) : ∃ res, ∀ {R : Type} (K : Res env → Option R), f117.w x K = K res := by
  exact ⟨_, fun _ => rfl⟩
def f117.hd (k : Nat) (ps_ : List (P2 env)) : Cl env :=
  gC Cl.no ps_ fun p_ ps_ => qG Cl.no p_ fun cs_ => gC Cl.no cs_ fun c_ cs_ => qS Cl.no c_ fun v_ => vS Cl.no v_ fun s1 => gC Cl.no cs_ fun c_ cs_ => qS Cl.no c_ fun v_ => vB Cl.no v_ fun b2 => gC Cl.no cs_ fun c_ cs_ => qS Cl.no c_ fun v_ => vI Cl.no .i64 v_ fun a3 => gC Cl.no cs_ fun c_ cs_ => qS Cl.no c_ fun v_ => vI Cl.no .i64 v_ fun a4 => gC Cl.no cs_ fun c_ cs_ => qSl Cl.no 79 c_ fun xs5 => gE Cl.no cs_ <| gE Cl.no ps_ <| { α := Bool, o := f117 k s1 b2 a3 a4 xs5, w := f117.w, nat := fun x _ => f117.wn x }
def f117.e (k : Nat) : Entry env := ⟨fun ps => f117.hd k (coer [[.no, .no, .no, .no, .rd 79]] ps), [], []⟩
def f117.X (k : Nat) : Ctx env := { C := lookE [(83, f83.e k), (163, f163.e k)], L := lookE [], J := lookE [], keep := lookD [], keepX := lookD [], span := lookN [], eff := fun n => memN n [], prep := lookP [], np := 0 }
theorem f117.nat {R : Type} (k : Nat) (g : Bool → Option R) (s1 : ByteArray) (b2 : Bool) (a3 : Int) (a4 : Int) (xs5 : List S79) : f117.step k g s1 b2 a3 a4 xs5 = (f117 k s1 b2 a3 a4 xs5).bind g := by
  simp only [f117, f117.step, bind_ite, bind_sum, Option.bind_assoc, Option.bind_some, Option.bind_none]
theorem f117.ev (k : Nat) (s1 : ByteArray) (b2 : Bool) (a3 : Int) (a4 : Int) (xs5 : List S79) : evF (f117.X k) (bodyOf Try.f117) Try.f117.ntmps Try.f117.results.toList [.g [.s (.string s1), .s (.bool b2), .s (.int .i64 a3), .s (.int .i64 a4), .sl 79 xs5]] = f117.step k (fun x => f117.w x some) s1 b2 a3 a4 xs5 := by kernel_rfl
theorem f117.hok (k : Nat) : HOK (f117.X k) (bodyOf Try.f117) where
  l := allP_mem (by exact trivial)
  j := allP_mem (by exact trivial)
theorem f117.sound0 (k : Nat) : SoundC env Try.prog 117 (f117.hd k) := by
  intro ps_
  show GoodC _ _ _ ps_ (f117.hd k ps_)
  unfold f117.hd
  refine gC_ok (p := GoodC env Try.prog 117 _) goodC_no fun _ _ h => ?_
  subst h
  refine qG_ok (p := GoodC env Try.prog 117 _) goodC_no fun _ h => ?_
  subst h
  refine gC_ok (p := GoodC env Try.prog 117 _) goodC_no fun _ _ h => ?_
  subst h
  refine qS_ok (p := GoodC env Try.prog 117 _) goodC_no fun _ h => ?_
  subst h
  refine vS_ok (p := GoodC env Try.prog 117 _) goodC_no fun _ h => ?_
  subst h
  refine gC_ok (p := GoodC env Try.prog 117 _) goodC_no fun _ _ h => ?_
  subst h
  refine qS_ok (p := GoodC env Try.prog 117 _) goodC_no fun _ h => ?_
  subst h
  refine vB_ok (p := GoodC env Try.prog 117 _) goodC_no fun _ h => ?_
  subst h
  refine gC_ok (p := GoodC env Try.prog 117 _) goodC_no fun _ _ h => ?_
  subst h
  refine qS_ok (p := GoodC env Try.prog 117 _) goodC_no fun _ h => ?_
  subst h
  refine vI_ok (p := GoodC env Try.prog 117 _) goodC_no fun _ h => ?_
  subst h
  refine gC_ok (p := GoodC env Try.prog 117 _) goodC_no fun _ _ h => ?_
  subst h
  refine qS_ok (p := GoodC env Try.prog 117 _) goodC_no fun _ h => ?_
  subst h
  refine vI_ok (p := GoodC env Try.prog 117 _) goodC_no fun _ h => ?_
  subst h
  refine gC_ok (p := GoodC env Try.prog 117 _) goodC_no fun _ _ h => ?_
  subst h
  refine qSl_ok (p := GoodC env Try.prog 117 _) goodC_no fun _ h => ?_
  subst h
  refine gE_ok (p := GoodC env Try.prog 117 _) goodC_no fun h => ?_
  subst h
  refine gE_ok (p := GoodC env Try.prog 117 _) goodC_no fun h => ?_
  subst h
  exact fun_good (fun_sound envOK (cs_sound _ (by exact ⟨⟨f83.sound k, f83.fnok⟩, ⟨f163.sound k, f163.fnok⟩, trivial⟩)) (f117.hok k) Try.func117 rfl) ((f117.ev k _ _ _ _ _).trans (f117.nat k _ _ _ _ _ _))
theorem f117.sound (k : Nat) : SoundC env Try.prog 117 (f117.e k).F := soundC_coer (f117.sound0 k) [[.no, .no, .no, .no, .rd 79]]
theorem f117.says (k : Nat) (s1 : ByteArray) (b2 : Bool) (a3 : Int) (a4 : Int) (xs5 : List S79) (t9 : Bool) (h_ : f117 k s1 b2 a3 a4 xs5 = some t9) : SoundAt env Try.prog 117 [.g [.s (.string s1), .s (.bool b2), .s (.int .i64 a3), .s (.int .i64 a4), .sl 79 xs5]] ⟨.v (.c (.s (.bool t9))), [[]]⟩ :=
  fun_sound envOK (cs_sound _ (by exact ⟨⟨f83.sound k, f83.fnok⟩, ⟨f163.sound k, f163.fnok⟩, trivial⟩)) (f117.hok k) Try.func117 rfl _ _ (((f117.ev k s1 b2 a3 a4 xs5).trans (f117.nat k _ s1 b2 a3 a4 xs5)).trans (by rw [h_]; rfl))
theorem f117.fnok : FnOK Try.prog 117 := fn_ok Try.func117 (by kernel_rfl) rfl
def f118i.w {R : Type} : ((List S158) × Bool) → (Res env → Option R) → Option R := fun t21 K => K ⟨.v (.c (.own true 158 t21.1)), [[], [.s (.bool t21.2)]]⟩
theorem f118i.wn (x : ((List S158) × Bool)) : ∃ res, ∀ {R : Type} (K : Res env → Option R), f118i.w x K = K res := by
  exact ⟨_, fun _ => rfl⟩
def f118i.hdG (G_ : ByteArray → Bool → Int → Int → (List S79) → (List S158) → Option ((List S158) × Bool)) (ps_ : List (P2 env)) : Cl env :=
  gC Cl.no ps_ fun p_ ps_ => qG Cl.no p_ fun cs_ => gC Cl.no cs_ fun c_ cs_ => qS Cl.no c_ fun v_ => vS Cl.no v_ fun s1 => gC Cl.no cs_ fun c_ cs_ => qS Cl.no c_ fun v_ => vB Cl.no v_ fun b2 => gC Cl.no cs_ fun c_ cs_ => qS Cl.no c_ fun v_ => vI Cl.no .i64 v_ fun a3 => gC Cl.no cs_ fun c_ cs_ => qS Cl.no c_ fun v_ => vI Cl.no .i64 v_ fun a4 => gC Cl.no cs_ fun c_ cs_ => qSl Cl.no 79 c_ fun xs5 => gE Cl.no cs_ <| gC Cl.no ps_ fun p_ ps_ => qC Cl.no p_ fun c_ => qWr Cl.no 158 c_ fun xs6 => gE Cl.no ps_ <| { α := (List S158) × Bool, o := G_ s1 b2 a3 a4 xs5 xs6, w := f118i.w, nat := fun x _ => f118i.wn x }
def f118i.eG (G_ : ByteArray → Bool → Int → Int → (List S79) → (List S158) → Option ((List S158) × Bool)) : Entry env := ⟨fun ps => f118i.hdG G_ (coer [[.no, .no, .no, .no, .rd 79], [.wr 158]] ps), [(1, 0)], []⟩
theorem f118i.none_ : SoundC env Try.prog 118 (f118i.eG (fun _ _ _ _ _ _ => none)).F := by
  refine soundC_coer (F := f118i.hdG (fun _ _ _ _ _ _ => none)) ?_ [[.no, .no, .no, .no, .rd 79], [.wr 158]]
  intro ps_
  show GoodC _ _ _ ps_ (f118i.hdG (fun _ _ _ _ _ _ => none) ps_)
  unfold f118i.hdG
  refine gC_ok (p := GoodC env Try.prog 118 _) goodC_no fun _ _ h => ?_
  subst h
  refine qG_ok (p := GoodC env Try.prog 118 _) goodC_no fun _ h => ?_
  subst h
  refine gC_ok (p := GoodC env Try.prog 118 _) goodC_no fun _ _ h => ?_
  subst h
  refine qS_ok (p := GoodC env Try.prog 118 _) goodC_no fun _ h => ?_
  subst h
  refine vS_ok (p := GoodC env Try.prog 118 _) goodC_no fun _ h => ?_
  subst h
  refine gC_ok (p := GoodC env Try.prog 118 _) goodC_no fun _ _ h => ?_
  subst h
  refine qS_ok (p := GoodC env Try.prog 118 _) goodC_no fun _ h => ?_
  subst h
  refine vB_ok (p := GoodC env Try.prog 118 _) goodC_no fun _ h => ?_
  subst h
  refine gC_ok (p := GoodC env Try.prog 118 _) goodC_no fun _ _ h => ?_
  subst h
  refine qS_ok (p := GoodC env Try.prog 118 _) goodC_no fun _ h => ?_
  subst h
  refine vI_ok (p := GoodC env Try.prog 118 _) goodC_no fun _ h => ?_
  subst h
  refine gC_ok (p := GoodC env Try.prog 118 _) goodC_no fun _ _ h => ?_
  subst h
  refine qS_ok (p := GoodC env Try.prog 118 _) goodC_no fun _ h => ?_
  subst h
  refine vI_ok (p := GoodC env Try.prog 118 _) goodC_no fun _ h => ?_
  subst h
  refine gC_ok (p := GoodC env Try.prog 118 _) goodC_no fun _ _ h => ?_
  subst h
  refine qSl_ok (p := GoodC env Try.prog 118 _) goodC_no fun _ h => ?_
  subst h
  refine gE_ok (p := GoodC env Try.prog 118 _) goodC_no fun h => ?_
  subst h
  refine gC_ok (p := GoodC env Try.prog 118 _) goodC_no fun _ _ h => ?_
  subst h
  refine qC_ok (p := GoodC env Try.prog 118 _) goodC_no fun _ h => ?_
  subst h
  refine qWr_ok (p := GoodC env Try.prog 118 _) goodC_no fun _ h => ?_
  subst h
  refine gE_ok (p := GoodC env Try.prog 118 _) goodC_no fun h => ?_
  subst h
  intro x h; cases h
theorem f118.fnok : FnOK Try.prog 118 := fn_ok Try.func118 (by kernel_rfl) rfl
def f118i.l4.step {R : Type} (g118 : ByteArray → Bool → Int → Int → (List S79) → (List S158) → Option ((List S158) × Bool)) (k : Nat) (rec_ : (List S79) → Int → Int → (List S158) → Option R) (ret : ((List S158)) → Option R) (xs7 : List S79) (a8 : Int) (a9 : Int) (xs10 : List S158) : Option R :=
  if (decide (a9 < a8)) = true then
    if (0 : Int) ≤ a9 then
      if a9 < ((List.length xs7 : Nat) : Int) then
        (g118 (List.getD xs7 (Int.toNat a9) (⟨ByteArray.empty, false, (0 : Int), (0 : Int), []⟩ : S79)).f0 (List.getD xs7 (Int.toNat a9) (⟨ByteArray.empty, false, (0 : Int), (0 : Int), []⟩ : S79)).f1 (List.getD xs7 (Int.toNat a9) (⟨ByteArray.empty, false, (0 : Int), (0 : Int), []⟩ : S79)).f2 (List.getD xs7 (Int.toNat a9) (⟨ByteArray.empty, false, (0 : Int), (0 : Int), []⟩ : S79)).f3 (List.getD xs7 (Int.toNat a9) (⟨ByteArray.empty, false, (0 : Int), (0 : Int), []⟩ : S79)).f4 xs10).bind fun t11 => rec_ xs7 a8 (IntKind.i64.wrap (a9 + (1 : Int))) t11.1
      else none
    else none
  else
    ret xs10
def f118i.l4 (g118 : ByteArray → Bool → Int → Int → (List S79) → (List S158) → Option ((List S158) × Bool)) (k : Nat) : Nat → (List S79) → Int → Int → (List S158) → Option ((List S158))
  | 0, _, _, _, _ => none
  | j + 1, xs7, a8, a9, xs10 => f118i.l4.step g118 k (fun xs7 a8 a9 xs10 => f118i.l4 g118 k j xs7 a8 a9 xs10) some xs7 a8 a9 xs10
def f118i.l4.w {R : Type} : ((List S158)) → (Exit → St env → Option R) → Option R := fun t19 K => K (.exit 0) ⟨fullT [1] 0 31 [.v (.c (.row 434))], [(434, .row true 158 t19)], 626⟩
def f118i.l4.st (xs7 : List S79) (a8 : Int) (a9 : Int) (xs10 : List S158) : St env := ⟨fullT [1, 20, 21, 22] 0 31 [.v (.c (.row 434)), .v (.c (.imm 79 xs7)), .v (.c (.s (.int .i64 a8))), .v (.c (.s (.int .i64 a9)))], [(434, .row true 158 xs10)], 450⟩
def f118i.l4_1.step {R : Type} (g118 : ByteArray → Bool → Int → Int → (List S79) → (List S158) → Option ((List S158) × Bool)) (k : Nat) (rec_ : (List S79) → Int → Int → (List S158) → Option R) (ret : ((List S158)) → Option R) (xs13 : List S79) (a14 : Int) (a15 : Int) (xs16 : List S158) : Option R :=
  if (decide (a15 < a14)) = true then
    if (0 : Int) ≤ a15 then
      if a15 < ((List.length xs13 : Nat) : Int) then
        (g118 (List.getD xs13 (Int.toNat a15) (⟨ByteArray.empty, false, (0 : Int), (0 : Int), []⟩ : S79)).f0 (List.getD xs13 (Int.toNat a15) (⟨ByteArray.empty, false, (0 : Int), (0 : Int), []⟩ : S79)).f1 (List.getD xs13 (Int.toNat a15) (⟨ByteArray.empty, false, (0 : Int), (0 : Int), []⟩ : S79)).f2 (List.getD xs13 (Int.toNat a15) (⟨ByteArray.empty, false, (0 : Int), (0 : Int), []⟩ : S79)).f3 (List.getD xs13 (Int.toNat a15) (⟨ByteArray.empty, false, (0 : Int), (0 : Int), []⟩ : S79)).f4 xs16).bind fun t17 => rec_ xs13 a14 (IntKind.i64.wrap (a15 + (1 : Int))) t17.1
      else none
    else none
  else
    ret xs16
def f118i.l4_1 (g118 : ByteArray → Bool → Int → Int → (List S79) → (List S158) → Option ((List S158) × Bool)) (k : Nat) : Nat → (List S79) → Int → Int → (List S158) → Option ((List S158))
  | 0, _, _, _, _ => none
  | j + 1, xs13, a14, a15, xs16 => f118i.l4_1.step g118 k (fun xs13 a14 a15 xs16 => f118i.l4_1 g118 k j xs13 a14 a15 xs16) some xs13 a14 a15 xs16
def f118i.l4_1.w {R : Type} : ((List S158)) → (Exit → St env → Option R) → Option R := fun t20 K => K (.exit 0) ⟨fullT [1] 0 31 [.v (.c (.row 258))], [(258, .row true 158 t20)], 450⟩
def f118i.l4_1.st (xs13 : List S79) (a14 : Int) (a15 : Int) (xs16 : List S158) : St env := ⟨fullT [1, 20, 21, 22] 0 31 [.v (.c (.row 258)), .v (.c (.imm 79 xs13)), .v (.c (.s (.int .i64 a14))), .v (.c (.s (.int .i64 a15)))], [(258, .row true 158 xs16)], 274⟩
def f118i.l4_1.hd (g118 : ByteArray → Bool → Int → Int → (List S79) → (List S158) → Option ((List S158) × Bool)) (k : Nat) (ts_ : List (AV env)) (mm_ : Mem env) (n_ : Nat) : LCl env :=
  gTs LCl.no [1, 20, 21, 22] 31 ts_ fun l_ => gV LCl.no l_ fun a_ l_ => rRow LCl.no 258 a_ <| gV LCl.no l_ fun a_ l_ => rImm LCl.no 79 a_ fun xs13 => gV LCl.no l_ fun a_ l_ => rV LCl.no a_ fun v_ => vI LCl.no .i64 v_ fun a14 => gV LCl.no l_ fun a_ l_ => rV LCl.no a_ fun v_ => vI LCl.no .i64 v_ fun a15 => gE LCl.no l_ <| mRow LCl.no 258 true 158 mm_ fun xs16 m_ => gE LCl.no m_ <| gN LCl.no 274 n_ { α := (List S158), o := f118i.l4_1 g118 k k xs13 a14 a15 xs16, w := f118i.l4_1.w }
def f118i.l4.hd (g118 : ByteArray → Bool → Int → Int → (List S79) → (List S158) → Option ((List S158) × Bool)) (k : Nat) (ts_ : List (AV env)) (mm_ : Mem env) (n_ : Nat) : LCl env :=
  gTs (f118i.l4_1.hd g118 k ts_ mm_ n_) [1, 20, 21, 22] 31 ts_ fun l_ => gV (f118i.l4_1.hd g118 k ts_ mm_ n_) l_ fun a_ l_ => rRow (f118i.l4_1.hd g118 k ts_ mm_ n_) 434 a_ <| gV (f118i.l4_1.hd g118 k ts_ mm_ n_) l_ fun a_ l_ => rImm (f118i.l4_1.hd g118 k ts_ mm_ n_) 79 a_ fun xs7 => gV (f118i.l4_1.hd g118 k ts_ mm_ n_) l_ fun a_ l_ => rV (f118i.l4_1.hd g118 k ts_ mm_ n_) a_ fun v_ => vI (f118i.l4_1.hd g118 k ts_ mm_ n_) .i64 v_ fun a8 => gV (f118i.l4_1.hd g118 k ts_ mm_ n_) l_ fun a_ l_ => rV (f118i.l4_1.hd g118 k ts_ mm_ n_) a_ fun v_ => vI (f118i.l4_1.hd g118 k ts_ mm_ n_) .i64 v_ fun a9 => gE (f118i.l4_1.hd g118 k ts_ mm_ n_) l_ <| mRow (f118i.l4_1.hd g118 k ts_ mm_ n_) 434 true 158 mm_ fun xs10 m_ => gE (f118i.l4_1.hd g118 k ts_ mm_ n_) m_ <| gN (f118i.l4_1.hd g118 k ts_ mm_ n_) 450 n_ { α := (List S158), o := f118i.l4 g118 k k xs7 a8 a9 xs10, w := f118i.l4.w }
def f118i.step {R : Type} (g118 : ByteArray → Bool → Int → Int → (List S79) → (List S158) → Option ((List S158) × Bool)) (k : Nat) (ret : ((List S158) × Bool) → Option R) (s1 : ByteArray) (b2 : Bool) (a3 : Int) (a4 : Int) (xs5 : List S79) (xs6 : List S158) : Option R :=
  if b2 = true then
    if (List.length xs6 + List.length ([(⟨s1, a3, a4⟩ : S158)] : List S158)) * 32 ≤ maxN then
      (f118i.l4 g118 k k xs5 (((List.length xs5) : Nat) : Int) (0 : Int) (xs6 ++ ([(⟨s1, a3, a4⟩ : S158)] : List S158))).bind fun t12 => ret (t12, false)
    else none
  else
    (f118i.l4_1 g118 k k xs5 (((List.length xs5) : Nat) : Int) (0 : Int) xs6).bind fun t18 => ret (t18, false)
def f118i (g118 : ByteArray → Bool → Int → Int → (List S79) → (List S158) → Option ((List S158) × Bool)) (k : Nat) (s1 : ByteArray) (b2 : Bool) (a3 : Int) (a4 : Int) (xs5 : List S79) (xs6 : List S158) : Option ((List S158) × Bool) := f118i.step g118 k some s1 b2 a3 a4 xs5 xs6
def f118i.hd (g118 : ByteArray → Bool → Int → Int → (List S79) → (List S158) → Option ((List S158) × Bool)) (k : Nat) (ps_ : List (P2 env)) : Cl env := f118i.hdG (f118i g118 k) ps_
def f118i.e (g118 : ByteArray → Bool → Int → Int → (List S79) → (List S158) → Option ((List S158) × Bool)) (k : Nat) : Entry env := f118i.eG (f118i g118 k)
def f118i.X (g118 : ByteArray → Bool → Int → Int → (List S79) → (List S158) → Option ((List S158) × Bool)) (k : Nat) : Ctx env := { C := lookE [(118, f118i.eG g118)], L := lookE [(4, fun S => f118i.l4.hd g118 k S.ts S.m S.n)], J := lookE [], keep := lookD [(4, [1, 20, 21, 22])], keepX := lookD [(4, [1])], span := lookN [(4, 176)], eff := fun n => memN n [], prep := lookP [(4, [.mvT 1])], np := 130 }
theorem f118i.l4_1.nat {R : Type} (g118 : ByteArray → Bool → Int → Int → (List S79) → (List S158) → Option ((List S158) × Bool)) (k : Nat) (rec_ : (List S79) → Int → Int → (List S158) → Option ((List S158))) (g : ((List S158)) → Option R) (xs13 : List S79) (a14 : Int) (a15 : Int) (xs16 : List S158) : (f118i.l4_1.step g118 k rec_ some xs13 a14 a15 xs16).bind g = f118i.l4_1.step g118 k (fun xs13 a14 a15 xs16 => (rec_ xs13 a14 a15 xs16).bind g) g xs13 a14 a15 xs16 := by
  simp only [f118i.l4_1.step, bind_ite, bind_sum, Option.bind_assoc, Option.bind_some, Option.bind_none]
theorem f118i.l4_1.good (g118 : ByteArray → Bool → Int → Int → (List S79) → (List S158) → Option ((List S158) × Bool)) (k : Nat) (xs13 : List S79) (a14 : Int) (a15 : Int) (xs16 : List S158) : GoodL (f118i.X g118 k) (nthC 0 (loopsOf (bodyOf Try.f118))) (f118i.l4_1.st xs13 a14 a15 xs16) { α := ((List S158)), o := f118i.l4_1 g118 k k xs13 a14 a15 xs16, w := f118i.l4_1.w } :=
  loop_good (ι := (List S79) × Int × Int × (List S158)) (α := ((List S158))) (fun i => f118i.l4_1.st i.1 i.2.1 i.2.2.1 i.2.2.2) (fun j i => f118i.l4_1 g118 k j i.1 i.2.1 i.2.2.1 i.2.2.2) f118i.l4_1.w (fun rec_ ret i => f118i.l4_1.step g118 k (fun xs13 a14 a15 xs16 => rec_ (xs13, a14, a15, xs16)) ret i.1 i.2.1 i.2.2.1 i.2.2.2)
    (fun _ => rfl) (fun _ _ => rfl) (fun rec_ g i => f118i.l4_1.nat g118 k _ g i.1 i.2.1 i.2.2.1 i.2.2.2) (fun {R} i0 i rec_ K => by kernel_rfl) k (xs13, a14, a15, xs16)
theorem f118i.l4_1.all (g118 : ByteArray → Bool → Int → Int → (List S79) → (List S158) → Option ((List S158) × Bool)) (k : Nat) (S : St env) : GoodL (f118i.X g118 k) (nthC 0 (loopsOf (bodyOf Try.f118))) S (f118i.l4_1.hd g118 k S.ts S.m S.n) := by
  obtain ⟨ts_, m_, n_⟩ := S
  show GoodL _ _ _ (f118i.l4_1.hd g118 k ts_ m_ n_)
  unfold f118i.l4_1.hd
  refine gTs_ok (p := GoodL _ _ _) goodL_no fun _ h => ?_
  subst h
  refine gV_ok (p := GoodL _ _ _) goodL_no fun _ _ h => ?_
  subst h
  refine rRow_ok (p := GoodL _ _ _) goodL_no fun h => ?_
  subst h
  refine gV_ok (p := GoodL _ _ _) goodL_no fun _ _ h => ?_
  subst h
  refine rImm_ok (p := GoodL _ _ _) goodL_no fun _ h => ?_
  subst h
  refine gV_ok (p := GoodL _ _ _) goodL_no fun _ _ h => ?_
  subst h
  refine rV_ok (p := GoodL _ _ _) goodL_no fun _ h => ?_
  subst h
  refine vI_ok (p := GoodL _ _ _) goodL_no fun _ h => ?_
  subst h
  refine gV_ok (p := GoodL _ _ _) goodL_no fun _ _ h => ?_
  subst h
  refine rV_ok (p := GoodL _ _ _) goodL_no fun _ h => ?_
  subst h
  refine vI_ok (p := GoodL _ _ _) goodL_no fun _ h => ?_
  subst h
  refine gE_ok (p := GoodL _ _ _) goodL_no fun h => ?_
  subst h
  refine mRow_ok (p := GoodL _ _ _) goodL_no fun _ _ h => ?_
  subst h
  refine gE_ok (p := GoodL _ _ _) goodL_no fun h => ?_
  subst h
  refine gN_ok (p := GoodL _ _ _) goodL_no fun h => ?_
  subst h
  exact f118i.l4_1.good g118 k _ _ _ _
theorem f118i.l4.nat {R : Type} (g118 : ByteArray → Bool → Int → Int → (List S79) → (List S158) → Option ((List S158) × Bool)) (k : Nat) (rec_ : (List S79) → Int → Int → (List S158) → Option ((List S158))) (g : ((List S158)) → Option R) (xs7 : List S79) (a8 : Int) (a9 : Int) (xs10 : List S158) : (f118i.l4.step g118 k rec_ some xs7 a8 a9 xs10).bind g = f118i.l4.step g118 k (fun xs7 a8 a9 xs10 => (rec_ xs7 a8 a9 xs10).bind g) g xs7 a8 a9 xs10 := by
  simp only [f118i.l4.step, bind_ite, bind_sum, Option.bind_assoc, Option.bind_some, Option.bind_none]
theorem f118i.l4.good (g118 : ByteArray → Bool → Int → Int → (List S79) → (List S158) → Option ((List S158) × Bool)) (k : Nat) (xs7 : List S79) (a8 : Int) (a9 : Int) (xs10 : List S158) : GoodL (f118i.X g118 k) (nthC 0 (loopsOf (bodyOf Try.f118))) (f118i.l4.st xs7 a8 a9 xs10) { α := ((List S158)), o := f118i.l4 g118 k k xs7 a8 a9 xs10, w := f118i.l4.w } :=
  loop_good (ι := (List S79) × Int × Int × (List S158)) (α := ((List S158))) (fun i => f118i.l4.st i.1 i.2.1 i.2.2.1 i.2.2.2) (fun j i => f118i.l4 g118 k j i.1 i.2.1 i.2.2.1 i.2.2.2) f118i.l4.w (fun rec_ ret i => f118i.l4.step g118 k (fun xs7 a8 a9 xs10 => rec_ (xs7, a8, a9, xs10)) ret i.1 i.2.1 i.2.2.1 i.2.2.2)
    (fun _ => rfl) (fun _ _ => rfl) (fun rec_ g i => f118i.l4.nat g118 k _ g i.1 i.2.1 i.2.2.1 i.2.2.2) (fun {R} i0 i rec_ K => by kernel_rfl) k (xs7, a8, a9, xs10)
theorem f118i.l4.all (g118 : ByteArray → Bool → Int → Int → (List S79) → (List S158) → Option ((List S158) × Bool)) (k : Nat) (S : St env) : GoodL (f118i.X g118 k) (nthC 0 (loopsOf (bodyOf Try.f118))) S (f118i.l4.hd g118 k S.ts S.m S.n) := by
  obtain ⟨ts_, m_, n_⟩ := S
  have hN_ := f118i.l4_1.all g118 k ⟨ts_, m_, n_⟩
  show GoodL _ _ _ (f118i.l4.hd g118 k ts_ m_ n_)
  unfold f118i.l4.hd
  refine gTs_ok (p := GoodL _ _ _) hN_ fun _ h => ?_
  subst h
  refine gV_ok (p := GoodL _ _ _) hN_ fun _ _ h => ?_
  subst h
  refine rRow_ok (p := GoodL _ _ _) hN_ fun h => ?_
  subst h
  refine gV_ok (p := GoodL _ _ _) hN_ fun _ _ h => ?_
  subst h
  refine rImm_ok (p := GoodL _ _ _) hN_ fun _ h => ?_
  subst h
  refine gV_ok (p := GoodL _ _ _) hN_ fun _ _ h => ?_
  subst h
  refine rV_ok (p := GoodL _ _ _) hN_ fun _ h => ?_
  subst h
  refine vI_ok (p := GoodL _ _ _) hN_ fun _ h => ?_
  subst h
  refine gV_ok (p := GoodL _ _ _) hN_ fun _ _ h => ?_
  subst h
  refine rV_ok (p := GoodL _ _ _) hN_ fun _ h => ?_
  subst h
  refine vI_ok (p := GoodL _ _ _) hN_ fun _ h => ?_
  subst h
  refine gE_ok (p := GoodL _ _ _) hN_ fun h => ?_
  subst h
  refine mRow_ok (p := GoodL _ _ _) hN_ fun _ _ h => ?_
  subst h
  refine gE_ok (p := GoodL _ _ _) hN_ fun h => ?_
  subst h
  refine gN_ok (p := GoodL _ _ _) hN_ fun h => ?_
  subst h
  exact f118i.l4.good g118 k _ _ _ _
theorem f118i.nat {R : Type} (g118 : ByteArray → Bool → Int → Int → (List S79) → (List S158) → Option ((List S158) × Bool)) (k : Nat) (g : ((List S158) × Bool) → Option R) (s1 : ByteArray) (b2 : Bool) (a3 : Int) (a4 : Int) (xs5 : List S79) (xs6 : List S158) : f118i.step g118 k g s1 b2 a3 a4 xs5 xs6 = (f118i g118 k s1 b2 a3 a4 xs5 xs6).bind g := by
  simp only [f118i, f118i.step, bind_ite, bind_sum, Option.bind_assoc, Option.bind_some, Option.bind_none]
theorem f118i.ev (g118 : ByteArray → Bool → Int → Int → (List S79) → (List S158) → Option ((List S158) × Bool)) (k : Nat) (s1 : ByteArray) (b2 : Bool) (a3 : Int) (a4 : Int) (xs5 : List S79) (xs6 : List S158) : evF (f118i.X g118 k) (bodyOf Try.f118) Try.f118.ntmps Try.f118.results.toList [.g [.s (.string s1), .s (.bool b2), .s (.int .i64 a3), .s (.int .i64 a4), .sl 79 xs5], .v (.c (.wr 158 xs6))] = f118i.step g118 k (fun x => f118i.w x some) s1 b2 a3 a4 xs5 xs6 := by kernel_rfl
theorem f118i.hok (g118 : ByteArray → Bool → Int → Int → (List S79) → (List S158) → Option ((List S158) × Bool)) (k : Nat) : HOK (f118i.X g118 k) (bodyOf Try.f118) where
  l := allP_mem (by exact ⟨ls_of (h0 := fun S => f118i.l4.hd g118 k S.ts S.m S.n) (by kernel_rfl) (f118i.l4.all g118 k), trivial⟩)
  j := allP_mem (by exact trivial)
theorem f118i.sound0 (g118 : ByteArray → Bool → Int → Int → (List S79) → (List S158) → Option ((List S158) × Bool)) (hg_ : SoundC env Try.prog 118 (f118i.eG g118).F) (k : Nat) : SoundC env Try.prog 118 (f118i.hd g118 k) := by
  intro ps_
  show GoodC _ _ _ ps_ (f118i.hd g118 k ps_)
  unfold f118i.hd f118i.hdG
  refine gC_ok (p := GoodC env Try.prog 118 _) goodC_no fun _ _ h => ?_
  subst h
  refine qG_ok (p := GoodC env Try.prog 118 _) goodC_no fun _ h => ?_
  subst h
  refine gC_ok (p := GoodC env Try.prog 118 _) goodC_no fun _ _ h => ?_
  subst h
  refine qS_ok (p := GoodC env Try.prog 118 _) goodC_no fun _ h => ?_
  subst h
  refine vS_ok (p := GoodC env Try.prog 118 _) goodC_no fun _ h => ?_
  subst h
  refine gC_ok (p := GoodC env Try.prog 118 _) goodC_no fun _ _ h => ?_
  subst h
  refine qS_ok (p := GoodC env Try.prog 118 _) goodC_no fun _ h => ?_
  subst h
  refine vB_ok (p := GoodC env Try.prog 118 _) goodC_no fun _ h => ?_
  subst h
  refine gC_ok (p := GoodC env Try.prog 118 _) goodC_no fun _ _ h => ?_
  subst h
  refine qS_ok (p := GoodC env Try.prog 118 _) goodC_no fun _ h => ?_
  subst h
  refine vI_ok (p := GoodC env Try.prog 118 _) goodC_no fun _ h => ?_
  subst h
  refine gC_ok (p := GoodC env Try.prog 118 _) goodC_no fun _ _ h => ?_
  subst h
  refine qS_ok (p := GoodC env Try.prog 118 _) goodC_no fun _ h => ?_
  subst h
  refine vI_ok (p := GoodC env Try.prog 118 _) goodC_no fun _ h => ?_
  subst h
  refine gC_ok (p := GoodC env Try.prog 118 _) goodC_no fun _ _ h => ?_
  subst h
  refine qSl_ok (p := GoodC env Try.prog 118 _) goodC_no fun _ h => ?_
  subst h
  refine gE_ok (p := GoodC env Try.prog 118 _) goodC_no fun h => ?_
  subst h
  refine gC_ok (p := GoodC env Try.prog 118 _) goodC_no fun _ _ h => ?_
  subst h
  refine qC_ok (p := GoodC env Try.prog 118 _) goodC_no fun _ h => ?_
  subst h
  refine qWr_ok (p := GoodC env Try.prog 118 _) goodC_no fun _ h => ?_
  subst h
  refine gE_ok (p := GoodC env Try.prog 118 _) goodC_no fun h => ?_
  subst h
  exact fun_good (fun_sound envOK (cs_sound _ (by exact ⟨⟨hg_, f118.fnok⟩, trivial⟩)) (f118i.hok g118 k) Try.func118 rfl) ((f118i.ev g118 k _ _ _ _ _ _).trans (f118i.nat g118 k _ _ _ _ _ _ _))
theorem f118i.sound (g118 : ByteArray → Bool → Int → Int → (List S79) → (List S158) → Option ((List S158) × Bool)) (hg_ : SoundC env Try.prog 118 (f118i.eG g118).F) (k : Nat) : SoundC env Try.prog 118 (f118i.e g118 k).F := soundC_coer (f118i.sound0 g118 hg_ k) [[.no, .no, .no, .no, .rd 79], [.wr 158]]
def f118i.r (k : Nat) : Nat → ByteArray → Bool → Int → Int → (List S79) → (List S158) → Option ((List S158) × Bool)
  | 0 => fun _ _ _ _ _ _ => none
  | j + 1 => fun s1 b2 a3 a4 xs5 xs6 => f118i (f118i.r k j) k s1 b2 a3 a4 xs5 xs6
theorem f118i.all_ (k : Nat) : ∀ j, SoundC env Try.prog 118 (f118i.eG (f118i.r k j)).F
  | 0 => f118i.none_
  | j + 1 => f118i.sound (f118i.r k j) (f118i.all_ k j) k
def f118 (k : Nat) (s1 : ByteArray) (b2 : Bool) (a3 : Int) (a4 : Int) (xs5 : List S79) (xs6 : List S158) : Option ((List S158) × Bool) := f118i.r k k s1 b2 a3 a4 xs5 xs6
def f118.e (k : Nat) : Entry env := f118i.eG (f118 k)
theorem f118.sound (k : Nat) : SoundC env Try.prog 118 (f118.e k).F := f118i.all_ k k
def f49.step {R : Type} (k : Nat) (ret : (Int ⊕ ((List S158) × Int)) → Option R) (s1 : ByteArray) (b2 : Bool) (a3 : Int) (a4 : Int) (xs5 : List S79) : Option R :=
  (f117 k s1 b2 a3 a4 xs5).bind fun t6 => if (!t6) = true then
      ret (.inl (1 : Int))
    else
      (f118 k s1 b2 a3 a4 xs5 ([] : List S158)).bind fun t7 => ret (.inr (t7.1, (0 : Int)))
def f49 (k : Nat) (s1 : ByteArray) (b2 : Bool) (a3 : Int) (a4 : Int) (xs5 : List S79) : Option (Int ⊕ ((List S158) × Int)) := f49.step k some s1 b2 a3 a4 xs5
def f49.w {R : Type} : (Int ⊕ ((List S158) × Int)) → (Res env → Option R) → Option R := fun x K => Sum.elim (fun t8 => K ⟨.tup [.c (.s (.slice none 0 0)), .c (.s (.int .i64 t8))], [[]]⟩) (fun t9 => K ⟨.tup [.c (.own true 158 t9.1), .c (.s (.int .i64 t9.2))], [[]]⟩) x
theorem f49.wn (x : (Int ⊕ ((List S158) × Int))) : ∃ res, ∀ {R : Type} (K : Res env → Option R), f49.w x K = K res := by
  rcases x with x | x <;> exact ⟨_, fun _ => rfl⟩
def f49.hd (k : Nat) (ps_ : List (P2 env)) : Cl env :=
  gC Cl.no ps_ fun p_ ps_ => qG Cl.no p_ fun cs_ => gC Cl.no cs_ fun c_ cs_ => qS Cl.no c_ fun v_ => vS Cl.no v_ fun s1 => gC Cl.no cs_ fun c_ cs_ => qS Cl.no c_ fun v_ => vB Cl.no v_ fun b2 => gC Cl.no cs_ fun c_ cs_ => qS Cl.no c_ fun v_ => vI Cl.no .i64 v_ fun a3 => gC Cl.no cs_ fun c_ cs_ => qS Cl.no c_ fun v_ => vI Cl.no .i64 v_ fun a4 => gC Cl.no cs_ fun c_ cs_ => qSl Cl.no 79 c_ fun xs5 => gE Cl.no cs_ <| gE Cl.no ps_ <| { α := Int ⊕ ((List S158) × Int), o := f49 k s1 b2 a3 a4 xs5, w := f49.w, nat := fun x _ => f49.wn x }
def f49.e (k : Nat) : Entry env := ⟨fun ps => f49.hd k (coer [[.no, .no, .no, .no, .rd 79]] ps), [], []⟩
def f49.X (k : Nat) : Ctx env := { C := lookE [(117, f117.e k), (118, f118.e k)], L := lookE [], J := lookE [], keep := lookD [], keepX := lookD [], span := lookN [], eff := fun n => memN n [], prep := lookP [], np := 0 }
theorem f49.nat {R : Type} (k : Nat) (g : (Int ⊕ ((List S158) × Int)) → Option R) (s1 : ByteArray) (b2 : Bool) (a3 : Int) (a4 : Int) (xs5 : List S79) : f49.step k g s1 b2 a3 a4 xs5 = (f49 k s1 b2 a3 a4 xs5).bind g := by
  simp only [f49, f49.step, bind_ite, bind_sum, Option.bind_assoc, Option.bind_some, Option.bind_none]
theorem f49.ev (k : Nat) (s1 : ByteArray) (b2 : Bool) (a3 : Int) (a4 : Int) (xs5 : List S79) : evF (f49.X k) (bodyOf Try.f49) Try.f49.ntmps Try.f49.results.toList [.g [.s (.string s1), .s (.bool b2), .s (.int .i64 a3), .s (.int .i64 a4), .sl 79 xs5]] = f49.step k (fun x => f49.w x some) s1 b2 a3 a4 xs5 := by kernel_rfl
theorem f49.hok (k : Nat) : HOK (f49.X k) (bodyOf Try.f49) where
  l := allP_mem (by exact trivial)
  j := allP_mem (by exact trivial)
theorem f49.sound0 (k : Nat) : SoundC env Try.prog 49 (f49.hd k) := by
  intro ps_
  show GoodC _ _ _ ps_ (f49.hd k ps_)
  unfold f49.hd
  refine gC_ok (p := GoodC env Try.prog 49 _) goodC_no fun _ _ h => ?_
  subst h
  refine qG_ok (p := GoodC env Try.prog 49 _) goodC_no fun _ h => ?_
  subst h
  refine gC_ok (p := GoodC env Try.prog 49 _) goodC_no fun _ _ h => ?_
  subst h
  refine qS_ok (p := GoodC env Try.prog 49 _) goodC_no fun _ h => ?_
  subst h
  refine vS_ok (p := GoodC env Try.prog 49 _) goodC_no fun _ h => ?_
  subst h
  refine gC_ok (p := GoodC env Try.prog 49 _) goodC_no fun _ _ h => ?_
  subst h
  refine qS_ok (p := GoodC env Try.prog 49 _) goodC_no fun _ h => ?_
  subst h
  refine vB_ok (p := GoodC env Try.prog 49 _) goodC_no fun _ h => ?_
  subst h
  refine gC_ok (p := GoodC env Try.prog 49 _) goodC_no fun _ _ h => ?_
  subst h
  refine qS_ok (p := GoodC env Try.prog 49 _) goodC_no fun _ h => ?_
  subst h
  refine vI_ok (p := GoodC env Try.prog 49 _) goodC_no fun _ h => ?_
  subst h
  refine gC_ok (p := GoodC env Try.prog 49 _) goodC_no fun _ _ h => ?_
  subst h
  refine qS_ok (p := GoodC env Try.prog 49 _) goodC_no fun _ h => ?_
  subst h
  refine vI_ok (p := GoodC env Try.prog 49 _) goodC_no fun _ h => ?_
  subst h
  refine gC_ok (p := GoodC env Try.prog 49 _) goodC_no fun _ _ h => ?_
  subst h
  refine qSl_ok (p := GoodC env Try.prog 49 _) goodC_no fun _ h => ?_
  subst h
  refine gE_ok (p := GoodC env Try.prog 49 _) goodC_no fun h => ?_
  subst h
  refine gE_ok (p := GoodC env Try.prog 49 _) goodC_no fun h => ?_
  subst h
  exact fun_good (fun_sound envOK (cs_sound _ (by exact ⟨⟨f117.sound k, f117.fnok⟩, ⟨f118.sound k, f118.fnok⟩, trivial⟩)) (f49.hok k) Try.func49 rfl) ((f49.ev k _ _ _ _ _).trans (f49.nat k _ _ _ _ _ _))
theorem f49.sound (k : Nat) : SoundC env Try.prog 49 (f49.e k).F := soundC_coer (f49.sound0 k) [[.no, .no, .no, .no, .rd 79]]
theorem f49.fnok : FnOK Try.prog 49 := fn_ok Try.func49 (by kernel_rfl) rfl
def f119.step {R : Type} (k : Nat) (ret : Bool → Option R) (s1 : ByteArray) (a2 : Int) (a3 : Int) (s4 : ByteArray) (a5 : Int) (a6 : Int) : Option R :=
  if (decide (ByteArray.toList s1 ≠ ByteArray.toList s4)) = true then
    ret false
  else
    if (decide (a2 ≠ a5)) = true then
      ret false
    else
      if (decide (a3 ≠ a6)) = true then
        ret false
      else
        ret true
def f119 (k : Nat) (s1 : ByteArray) (a2 : Int) (a3 : Int) (s4 : ByteArray) (a5 : Int) (a6 : Int) : Option Bool := f119.step k some s1 a2 a3 s4 a5 a6
def f119.w {R : Type} : Bool → (Res env → Option R) → Option R := fun t7 K => K ⟨.v (.c (.s (.bool t7))), [[], []]⟩
theorem f119.wn (x : Bool) : ∃ res, ∀ {R : Type} (K : Res env → Option R), f119.w x K = K res := by
  exact ⟨_, fun _ => rfl⟩
def f119.hd (k : Nat) (ps_ : List (P2 env)) : Cl env :=
  gC Cl.no ps_ fun p_ ps_ => qG Cl.no p_ fun cs_ => gC Cl.no cs_ fun c_ cs_ => qS Cl.no c_ fun v_ => vS Cl.no v_ fun s1 => gC Cl.no cs_ fun c_ cs_ => qS Cl.no c_ fun v_ => vI Cl.no .i64 v_ fun a2 => gC Cl.no cs_ fun c_ cs_ => qS Cl.no c_ fun v_ => vI Cl.no .i64 v_ fun a3 => gE Cl.no cs_ <| gC Cl.no ps_ fun p_ ps_ => qG Cl.no p_ fun cs_ => gC Cl.no cs_ fun c_ cs_ => qS Cl.no c_ fun v_ => vS Cl.no v_ fun s4 => gC Cl.no cs_ fun c_ cs_ => qS Cl.no c_ fun v_ => vI Cl.no .i64 v_ fun a5 => gC Cl.no cs_ fun c_ cs_ => qS Cl.no c_ fun v_ => vI Cl.no .i64 v_ fun a6 => gE Cl.no cs_ <| gE Cl.no ps_ <| { α := Bool, o := f119 k s1 a2 a3 s4 a5 a6, w := f119.w, nat := fun x _ => f119.wn x }
def f119.e (k : Nat) : Entry env := ⟨f119.hd k, [], []⟩
def f119.X (k : Nat) : Ctx env := { C := lookE [], L := lookE [], J := lookE [], keep := lookD [], keepX := lookD [], span := lookN [], eff := fun n => memN n [], prep := lookP [], np := 0 }
theorem f119.nat {R : Type} (k : Nat) (g : Bool → Option R) (s1 : ByteArray) (a2 : Int) (a3 : Int) (s4 : ByteArray) (a5 : Int) (a6 : Int) : f119.step k g s1 a2 a3 s4 a5 a6 = (f119 k s1 a2 a3 s4 a5 a6).bind g := by
  simp only [f119, f119.step, bind_ite, bind_sum, Option.bind_assoc, Option.bind_some, Option.bind_none]
theorem f119.ev (k : Nat) (s1 : ByteArray) (a2 : Int) (a3 : Int) (s4 : ByteArray) (a5 : Int) (a6 : Int) : evF (f119.X k) (bodyOf Try.f119) Try.f119.ntmps Try.f119.results.toList [.g [.s (.string s1), .s (.int .i64 a2), .s (.int .i64 a3)], .g [.s (.string s4), .s (.int .i64 a5), .s (.int .i64 a6)]] = f119.step k (fun x => f119.w x some) s1 a2 a3 s4 a5 a6 := by kernel_rfl
theorem f119.hok (k : Nat) : HOK (f119.X k) (bodyOf Try.f119) where
  l := allP_mem (by exact trivial)
  j := allP_mem (by exact trivial)
theorem f119.sound (k : Nat) : SoundC env Try.prog 119 ((f119.e k).F) := by
  intro ps_
  show GoodC _ _ _ ps_ (f119.hd k ps_)
  unfold f119.hd
  refine gC_ok (p := GoodC env Try.prog 119 _) goodC_no fun _ _ h => ?_
  subst h
  refine qG_ok (p := GoodC env Try.prog 119 _) goodC_no fun _ h => ?_
  subst h
  refine gC_ok (p := GoodC env Try.prog 119 _) goodC_no fun _ _ h => ?_
  subst h
  refine qS_ok (p := GoodC env Try.prog 119 _) goodC_no fun _ h => ?_
  subst h
  refine vS_ok (p := GoodC env Try.prog 119 _) goodC_no fun _ h => ?_
  subst h
  refine gC_ok (p := GoodC env Try.prog 119 _) goodC_no fun _ _ h => ?_
  subst h
  refine qS_ok (p := GoodC env Try.prog 119 _) goodC_no fun _ h => ?_
  subst h
  refine vI_ok (p := GoodC env Try.prog 119 _) goodC_no fun _ h => ?_
  subst h
  refine gC_ok (p := GoodC env Try.prog 119 _) goodC_no fun _ _ h => ?_
  subst h
  refine qS_ok (p := GoodC env Try.prog 119 _) goodC_no fun _ h => ?_
  subst h
  refine vI_ok (p := GoodC env Try.prog 119 _) goodC_no fun _ h => ?_
  subst h
  refine gE_ok (p := GoodC env Try.prog 119 _) goodC_no fun h => ?_
  subst h
  refine gC_ok (p := GoodC env Try.prog 119 _) goodC_no fun _ _ h => ?_
  subst h
  refine qG_ok (p := GoodC env Try.prog 119 _) goodC_no fun _ h => ?_
  subst h
  refine gC_ok (p := GoodC env Try.prog 119 _) goodC_no fun _ _ h => ?_
  subst h
  refine qS_ok (p := GoodC env Try.prog 119 _) goodC_no fun _ h => ?_
  subst h
  refine vS_ok (p := GoodC env Try.prog 119 _) goodC_no fun _ h => ?_
  subst h
  refine gC_ok (p := GoodC env Try.prog 119 _) goodC_no fun _ _ h => ?_
  subst h
  refine qS_ok (p := GoodC env Try.prog 119 _) goodC_no fun _ h => ?_
  subst h
  refine vI_ok (p := GoodC env Try.prog 119 _) goodC_no fun _ h => ?_
  subst h
  refine gC_ok (p := GoodC env Try.prog 119 _) goodC_no fun _ _ h => ?_
  subst h
  refine qS_ok (p := GoodC env Try.prog 119 _) goodC_no fun _ h => ?_
  subst h
  refine vI_ok (p := GoodC env Try.prog 119 _) goodC_no fun _ h => ?_
  subst h
  refine gE_ok (p := GoodC env Try.prog 119 _) goodC_no fun h => ?_
  subst h
  refine gE_ok (p := GoodC env Try.prog 119 _) goodC_no fun h => ?_
  subst h
  exact fun_good (fun_sound envOK (cs_sound _ (by exact trivial)) (f119.hok k) Try.func119 rfl) ((f119.ev k _ _ _ _ _ _).trans (f119.nat k _ _ _ _ _ _ _))
theorem f119.says (k : Nat) (s1 : ByteArray) (a2 : Int) (a3 : Int) (s4 : ByteArray) (a5 : Int) (a6 : Int) (t8 : Bool) (h_ : f119 k s1 a2 a3 s4 a5 a6 = some t8) : SoundAt env Try.prog 119 [.g [.s (.string s1), .s (.int .i64 a2), .s (.int .i64 a3)], .g [.s (.string s4), .s (.int .i64 a5), .s (.int .i64 a6)]] ⟨.v (.c (.s (.bool t8))), [[], []]⟩ :=
  fun_sound envOK (cs_sound _ (by exact trivial)) (f119.hok k) Try.func119 rfl _ _ (((f119.ev k s1 a2 a3 s4 a5 a6).trans (f119.nat k _ s1 a2 a3 s4 a5 a6)).trans (by rw [h_]; rfl))
theorem f119.fnok : FnOK Try.prog 119 := fn_ok Try.func119 (by kernel_rfl) rfl
def f50.l4.step {R : Type} (k : Nat) (rec_ : (List S158) → (List S158) → Int → Option R) (ret : (Bool ⊕ (Unit)) → Option R) (xs3 : List S158) (xs4 : List S158) (a5 : Int) : Option R :=
  if (decide (a5 < (((List.length xs3) : Nat) : Int))) = true then
    if (0 : Int) ≤ a5 then
      if a5 < ((List.length xs3 : Nat) : Int) then
        if (0 : Int) ≤ a5 then
          if a5 < ((List.length xs4 : Nat) : Int) then
            (f119 k (List.getD xs3 (Int.toNat a5) (⟨ByteArray.empty, (0 : Int), (0 : Int)⟩ : S158)).f0 (List.getD xs3 (Int.toNat a5) (⟨ByteArray.empty, (0 : Int), (0 : Int)⟩ : S158)).f1 (List.getD xs3 (Int.toNat a5) (⟨ByteArray.empty, (0 : Int), (0 : Int)⟩ : S158)).f2 (List.getD xs4 (Int.toNat a5) (⟨ByteArray.empty, (0 : Int), (0 : Int)⟩ : S158)).f0 (List.getD xs4 (Int.toNat a5) (⟨ByteArray.empty, (0 : Int), (0 : Int)⟩ : S158)).f1 (List.getD xs4 (Int.toNat a5) (⟨ByteArray.empty, (0 : Int), (0 : Int)⟩ : S158)).f2).bind fun t6 => if (!t6) = true then
                ret (.inl false)
              else
                rec_ xs3 xs4 (IntKind.i64.wrap (a5 + (1 : Int)))
          else none
        else none
      else none
    else none
  else
    ret (.inr ())
def f50.l4 (k : Nat) : Nat → (List S158) → (List S158) → Int → Option (Bool ⊕ (Unit))
  | 0, _, _, _ => none
  | j + 1, xs3, xs4, a5 => f50.l4.step k (fun xs3 xs4 a5 => f50.l4 k j xs3 xs4 a5) some xs3 xs4 a5
def f50.l4.w {R : Type} : (Bool ⊕ (Unit)) → (Exit → St env → Option R) → Option R := fun x K => Sum.elim (fun t9 => K .ret ⟨fullT [4] 0 27 [.v (.c (.s (.bool t9)))], [], 402⟩) (fun t10 => K (.exit 0) ⟨fullT [] 0 27 [], [], 402⟩) x
def f50.l4.st (xs3 : List S158) (xs4 : List S158) (a5 : Int) : St env := ⟨fullT [0, 1, 5] 0 27 [.v (.c (.imm 158 xs3)), .v (.c (.imm 158 xs4)), .v (.c (.s (.int .i64 a5)))], [], 114⟩
def f50.l4.hd (k : Nat) (ts_ : List (AV env)) (mm_ : Mem env) (n_ : Nat) : LCl env :=
  gTs LCl.no [0, 1, 5] 27 ts_ fun l_ => gV LCl.no l_ fun a_ l_ => rImm LCl.no 158 a_ fun xs3 => gV LCl.no l_ fun a_ l_ => rImm LCl.no 158 a_ fun xs4 => gV LCl.no l_ fun a_ l_ => rV LCl.no a_ fun v_ => vI LCl.no .i64 v_ fun a5 => gE LCl.no l_ <| gE LCl.no mm_ <| gN LCl.no 114 n_ { α := Bool ⊕ (Unit), o := f50.l4 k k xs3 xs4 a5, w := f50.l4.w }
def f50.step {R : Type} (k : Nat) (ret : Bool → Option R) (xs1 : List S158) (xs2 : List S158) : Option R :=
  if (decide ((((List.length xs1) : Nat) : Int) ≠ (((List.length xs2) : Nat) : Int))) = true then
    ret false
  else
    (f50.l4 k k xs1 xs2 (0 : Int)).bind (Sum.elim (fun t7 => ret t7) (fun t8 => ret true))
def f50 (k : Nat) (xs1 : List S158) (xs2 : List S158) : Option Bool := f50.step k some xs1 xs2
def f50.w {R : Type} : Bool → (Res env → Option R) → Option R := fun t11 K => K ⟨.v (.c (.s (.bool t11))), [[], []]⟩
theorem f50.wn (x : Bool) : ∃ res, ∀ {R : Type} (K : Res env → Option R), f50.w x K = K res := by
  exact ⟨_, fun _ => rfl⟩
def f50.hd (k : Nat) (ps_ : List (P2 env)) : Cl env :=
  gC Cl.no ps_ fun p_ ps_ => qC Cl.no p_ fun c_ => qSl Cl.no 158 c_ fun xs1 => gC Cl.no ps_ fun p_ ps_ => qC Cl.no p_ fun c_ => qSl Cl.no 158 c_ fun xs2 => gE Cl.no ps_ <| { α := Bool, o := f50 k xs1 xs2, w := f50.w, nat := fun x _ => f50.wn x }
def f50.e (k : Nat) : Entry env := ⟨fun ps => f50.hd k (coer [[.rd 158], [.rd 158]] ps), [], []⟩
def f50.X (k : Nat) : Ctx env := { C := lookE [(119, f119.e k)], L := lookE [(4, fun S => f50.l4.hd k S.ts S.m S.n)], J := lookE [], keep := lookD [(4, [0, 1, 5])], keepX := lookD [(4, [4])], span := lookN [(4, 288)], eff := fun n => memN n [], prep := lookP [], np := 0 }
theorem f50.l4.nat {R : Type} (k : Nat) (rec_ : (List S158) → (List S158) → Int → Option (Bool ⊕ (Unit))) (g : (Bool ⊕ (Unit)) → Option R) (xs3 : List S158) (xs4 : List S158) (a5 : Int) : (f50.l4.step k rec_ some xs3 xs4 a5).bind g = f50.l4.step k (fun xs3 xs4 a5 => (rec_ xs3 xs4 a5).bind g) g xs3 xs4 a5 := by
  simp only [f50.l4.step, bind_ite, bind_sum, Option.bind_assoc, Option.bind_some, Option.bind_none]
theorem f50.l4.good (k : Nat) (xs3 : List S158) (xs4 : List S158) (a5 : Int) : GoodL (f50.X k) (nthC 0 (loopsOf (bodyOf Try.f50))) (f50.l4.st xs3 xs4 a5) { α := (Bool ⊕ (Unit)), o := f50.l4 k k xs3 xs4 a5, w := f50.l4.w } :=
  loop_good (ι := (List S158) × (List S158) × Int) (α := (Bool ⊕ (Unit))) (fun i => f50.l4.st i.1 i.2.1 i.2.2) (fun j i => f50.l4 k j i.1 i.2.1 i.2.2) f50.l4.w (fun rec_ ret i => f50.l4.step k (fun xs3 xs4 a5 => rec_ (xs3, xs4, a5)) ret i.1 i.2.1 i.2.2)
    (fun _ => rfl) (fun _ _ => rfl) (fun rec_ g i => f50.l4.nat k _ g i.1 i.2.1 i.2.2) (fun {R} i0 i rec_ K => by kernel_rfl) k (xs3, xs4, a5)
theorem f50.l4.all (k : Nat) (S : St env) : GoodL (f50.X k) (nthC 0 (loopsOf (bodyOf Try.f50))) S (f50.l4.hd k S.ts S.m S.n) := by
  obtain ⟨ts_, m_, n_⟩ := S
  show GoodL _ _ _ (f50.l4.hd k ts_ m_ n_)
  unfold f50.l4.hd
  refine gTs_ok (p := GoodL _ _ _) goodL_no fun _ h => ?_
  subst h
  refine gV_ok (p := GoodL _ _ _) goodL_no fun _ _ h => ?_
  subst h
  refine rImm_ok (p := GoodL _ _ _) goodL_no fun _ h => ?_
  subst h
  refine gV_ok (p := GoodL _ _ _) goodL_no fun _ _ h => ?_
  subst h
  refine rImm_ok (p := GoodL _ _ _) goodL_no fun _ h => ?_
  subst h
  refine gV_ok (p := GoodL _ _ _) goodL_no fun _ _ h => ?_
  subst h
  refine rV_ok (p := GoodL _ _ _) goodL_no fun _ h => ?_
  subst h
  refine vI_ok (p := GoodL _ _ _) goodL_no fun _ h => ?_
  subst h
  refine gE_ok (p := GoodL _ _ _) goodL_no fun h => ?_
  subst h
  refine gE_ok (p := GoodL _ _ _) goodL_no fun h => ?_
  subst h
  refine gN_ok (p := GoodL _ _ _) goodL_no fun h => ?_
  subst h
  exact f50.l4.good k _ _ _
theorem f50.nat {R : Type} (k : Nat) (g : Bool → Option R) (xs1 : List S158) (xs2 : List S158) : f50.step k g xs1 xs2 = (f50 k xs1 xs2).bind g := by
  simp only [f50, f50.step, bind_ite, bind_sum, Option.bind_assoc, Option.bind_some, Option.bind_none]
theorem f50.ev (k : Nat) (xs1 : List S158) (xs2 : List S158) : evF (f50.X k) (bodyOf Try.f50) Try.f50.ntmps Try.f50.results.toList [.v (.c (.sl 158 xs1)), .v (.c (.sl 158 xs2))] = f50.step k (fun x => f50.w x some) xs1 xs2 := by kernel_rfl
theorem f50.hok (k : Nat) : HOK (f50.X k) (bodyOf Try.f50) where
  l := allP_mem (by exact ⟨ls_of (h0 := fun S => f50.l4.hd k S.ts S.m S.n) (by kernel_rfl) (f50.l4.all k), trivial⟩)
  j := allP_mem (by exact trivial)
theorem f50.sound0 (k : Nat) : SoundC env Try.prog 50 (f50.hd k) := by
  intro ps_
  show GoodC _ _ _ ps_ (f50.hd k ps_)
  unfold f50.hd
  refine gC_ok (p := GoodC env Try.prog 50 _) goodC_no fun _ _ h => ?_
  subst h
  refine qC_ok (p := GoodC env Try.prog 50 _) goodC_no fun _ h => ?_
  subst h
  refine qSl_ok (p := GoodC env Try.prog 50 _) goodC_no fun _ h => ?_
  subst h
  refine gC_ok (p := GoodC env Try.prog 50 _) goodC_no fun _ _ h => ?_
  subst h
  refine qC_ok (p := GoodC env Try.prog 50 _) goodC_no fun _ h => ?_
  subst h
  refine qSl_ok (p := GoodC env Try.prog 50 _) goodC_no fun _ h => ?_
  subst h
  refine gE_ok (p := GoodC env Try.prog 50 _) goodC_no fun h => ?_
  subst h
  exact fun_good (fun_sound envOK (cs_sound _ (by exact ⟨⟨f119.sound k, f119.fnok⟩, trivial⟩)) (f50.hok k) Try.func50 rfl) ((f50.ev k _ _).trans (f50.nat k _ _ _))
theorem f50.sound (k : Nat) : SoundC env Try.prog 50 (f50.e k).F := soundC_coer (f50.sound0 k) [[.rd 158], [.rd 158]]
theorem f50.says (k : Nat) (xs1 : List S158) (xs2 : List S158) (t12 : Bool) (h_ : f50 k xs1 xs2 = some t12) : SoundAt env Try.prog 50 [.v (.c (.sl 158 xs1)), .v (.c (.sl 158 xs2))] ⟨.v (.c (.s (.bool t12))), [[], []]⟩ :=
  fun_sound envOK (cs_sound _ (by exact ⟨⟨f119.sound k, f119.fnok⟩, trivial⟩)) (f50.hok k) Try.func50 rfl _ _ (((f50.ev k xs1 xs2).trans (f50.nat k _ xs1 xs2)).trans (by rw [h_]; rfl))
theorem f50.fnok : FnOK Try.prog 50 := fn_ok Try.func50 (by kernel_rfl) rfl
def f51i.w {R : Type} : Bool → (Res env → Option R) → Option R := fun t12 K => K ⟨.v (.c (.s (.bool t12))), [[], []]⟩
theorem f51i.wn (x : Bool) : ∃ res, ∀ {R : Type} (K : Res env → Option R), f51i.w x K = K res := by
  exact ⟨_, fun _ => rfl⟩
def f51i.hdG (G_ : ByteArray → Bool → Int → Int → (List S79) → ByteArray → Bool → Int → Int → (List S79) → Option Bool) (ps_ : List (P2 env)) : Cl env :=
  gC Cl.no ps_ fun p_ ps_ => qG Cl.no p_ fun cs_ => gC Cl.no cs_ fun c_ cs_ => qS Cl.no c_ fun v_ => vS Cl.no v_ fun s1 => gC Cl.no cs_ fun c_ cs_ => qS Cl.no c_ fun v_ => vB Cl.no v_ fun b2 => gC Cl.no cs_ fun c_ cs_ => qS Cl.no c_ fun v_ => vI Cl.no .i64 v_ fun a3 => gC Cl.no cs_ fun c_ cs_ => qS Cl.no c_ fun v_ => vI Cl.no .i64 v_ fun a4 => gC Cl.no cs_ fun c_ cs_ => qSl Cl.no 79 c_ fun xs5 => gE Cl.no cs_ <| gC Cl.no ps_ fun p_ ps_ => qG Cl.no p_ fun cs_ => gC Cl.no cs_ fun c_ cs_ => qS Cl.no c_ fun v_ => vS Cl.no v_ fun s6 => gC Cl.no cs_ fun c_ cs_ => qS Cl.no c_ fun v_ => vB Cl.no v_ fun b7 => gC Cl.no cs_ fun c_ cs_ => qS Cl.no c_ fun v_ => vI Cl.no .i64 v_ fun a8 => gC Cl.no cs_ fun c_ cs_ => qS Cl.no c_ fun v_ => vI Cl.no .i64 v_ fun a9 => gC Cl.no cs_ fun c_ cs_ => qSl Cl.no 79 c_ fun xs10 => gE Cl.no cs_ <| gE Cl.no ps_ <| { α := Bool, o := G_ s1 b2 a3 a4 xs5 s6 b7 a8 a9 xs10, w := f51i.w, nat := fun x _ => f51i.wn x }
def f51i.eG (G_ : ByteArray → Bool → Int → Int → (List S79) → ByteArray → Bool → Int → Int → (List S79) → Option Bool) : Entry env := ⟨fun ps => f51i.hdG G_ (coer [[.no, .no, .no, .no, .rd 79], [.no, .no, .no, .no, .rd 79]] ps), [], []⟩
theorem f51i.none_ : SoundC env Try.prog 51 (f51i.eG (fun _ _ _ _ _ _ _ _ _ _ => none)).F := by
  refine soundC_coer (F := f51i.hdG (fun _ _ _ _ _ _ _ _ _ _ => none)) ?_ [[.no, .no, .no, .no, .rd 79], [.no, .no, .no, .no, .rd 79]]
  intro ps_
  show GoodC _ _ _ ps_ (f51i.hdG (fun _ _ _ _ _ _ _ _ _ _ => none) ps_)
  unfold f51i.hdG
  refine gC_ok (p := GoodC env Try.prog 51 _) goodC_no fun _ _ h => ?_
  subst h
  refine qG_ok (p := GoodC env Try.prog 51 _) goodC_no fun _ h => ?_
  subst h
  refine gC_ok (p := GoodC env Try.prog 51 _) goodC_no fun _ _ h => ?_
  subst h
  refine qS_ok (p := GoodC env Try.prog 51 _) goodC_no fun _ h => ?_
  subst h
  refine vS_ok (p := GoodC env Try.prog 51 _) goodC_no fun _ h => ?_
  subst h
  refine gC_ok (p := GoodC env Try.prog 51 _) goodC_no fun _ _ h => ?_
  subst h
  refine qS_ok (p := GoodC env Try.prog 51 _) goodC_no fun _ h => ?_
  subst h
  refine vB_ok (p := GoodC env Try.prog 51 _) goodC_no fun _ h => ?_
  subst h
  refine gC_ok (p := GoodC env Try.prog 51 _) goodC_no fun _ _ h => ?_
  subst h
  refine qS_ok (p := GoodC env Try.prog 51 _) goodC_no fun _ h => ?_
  subst h
  refine vI_ok (p := GoodC env Try.prog 51 _) goodC_no fun _ h => ?_
  subst h
  refine gC_ok (p := GoodC env Try.prog 51 _) goodC_no fun _ _ h => ?_
  subst h
  refine qS_ok (p := GoodC env Try.prog 51 _) goodC_no fun _ h => ?_
  subst h
  refine vI_ok (p := GoodC env Try.prog 51 _) goodC_no fun _ h => ?_
  subst h
  refine gC_ok (p := GoodC env Try.prog 51 _) goodC_no fun _ _ h => ?_
  subst h
  refine qSl_ok (p := GoodC env Try.prog 51 _) goodC_no fun _ h => ?_
  subst h
  refine gE_ok (p := GoodC env Try.prog 51 _) goodC_no fun h => ?_
  subst h
  refine gC_ok (p := GoodC env Try.prog 51 _) goodC_no fun _ _ h => ?_
  subst h
  refine qG_ok (p := GoodC env Try.prog 51 _) goodC_no fun _ h => ?_
  subst h
  refine gC_ok (p := GoodC env Try.prog 51 _) goodC_no fun _ _ h => ?_
  subst h
  refine qS_ok (p := GoodC env Try.prog 51 _) goodC_no fun _ h => ?_
  subst h
  refine vS_ok (p := GoodC env Try.prog 51 _) goodC_no fun _ h => ?_
  subst h
  refine gC_ok (p := GoodC env Try.prog 51 _) goodC_no fun _ _ h => ?_
  subst h
  refine qS_ok (p := GoodC env Try.prog 51 _) goodC_no fun _ h => ?_
  subst h
  refine vB_ok (p := GoodC env Try.prog 51 _) goodC_no fun _ h => ?_
  subst h
  refine gC_ok (p := GoodC env Try.prog 51 _) goodC_no fun _ _ h => ?_
  subst h
  refine qS_ok (p := GoodC env Try.prog 51 _) goodC_no fun _ h => ?_
  subst h
  refine vI_ok (p := GoodC env Try.prog 51 _) goodC_no fun _ h => ?_
  subst h
  refine gC_ok (p := GoodC env Try.prog 51 _) goodC_no fun _ _ h => ?_
  subst h
  refine qS_ok (p := GoodC env Try.prog 51 _) goodC_no fun _ h => ?_
  subst h
  refine vI_ok (p := GoodC env Try.prog 51 _) goodC_no fun _ h => ?_
  subst h
  refine gC_ok (p := GoodC env Try.prog 51 _) goodC_no fun _ _ h => ?_
  subst h
  refine qSl_ok (p := GoodC env Try.prog 51 _) goodC_no fun _ h => ?_
  subst h
  refine gE_ok (p := GoodC env Try.prog 51 _) goodC_no fun h => ?_
  subst h
  refine gE_ok (p := GoodC env Try.prog 51 _) goodC_no fun h => ?_
  subst h
  intro x h; cases h
theorem f51.fnok : FnOK Try.prog 51 := fn_ok Try.func51 (by kernel_rfl) rfl
def f120i.l4.step {R : Type} (g51 : ByteArray → Bool → Int → Int → (List S79) → ByteArray → Bool → Int → Int → (List S79) → Option Bool) (k : Nat) (rec_ : (List S79) → (List S79) → Int → Option R) (ret : (Bool ⊕ (Unit)) → Option R) (xs3 : List S79) (xs4 : List S79) (a5 : Int) : Option R :=
  if (decide (a5 < (((List.length xs3) : Nat) : Int))) = true then
    if (0 : Int) ≤ a5 then
      if a5 < ((List.length xs3 : Nat) : Int) then
        if (0 : Int) ≤ a5 then
          if a5 < ((List.length xs4 : Nat) : Int) then
            (g51 (List.getD xs3 (Int.toNat a5) (⟨ByteArray.empty, false, (0 : Int), (0 : Int), []⟩ : S79)).f0 (List.getD xs3 (Int.toNat a5) (⟨ByteArray.empty, false, (0 : Int), (0 : Int), []⟩ : S79)).f1 (List.getD xs3 (Int.toNat a5) (⟨ByteArray.empty, false, (0 : Int), (0 : Int), []⟩ : S79)).f2 (List.getD xs3 (Int.toNat a5) (⟨ByteArray.empty, false, (0 : Int), (0 : Int), []⟩ : S79)).f3 (List.getD xs3 (Int.toNat a5) (⟨ByteArray.empty, false, (0 : Int), (0 : Int), []⟩ : S79)).f4 (List.getD xs4 (Int.toNat a5) (⟨ByteArray.empty, false, (0 : Int), (0 : Int), []⟩ : S79)).f0 (List.getD xs4 (Int.toNat a5) (⟨ByteArray.empty, false, (0 : Int), (0 : Int), []⟩ : S79)).f1 (List.getD xs4 (Int.toNat a5) (⟨ByteArray.empty, false, (0 : Int), (0 : Int), []⟩ : S79)).f2 (List.getD xs4 (Int.toNat a5) (⟨ByteArray.empty, false, (0 : Int), (0 : Int), []⟩ : S79)).f3 (List.getD xs4 (Int.toNat a5) (⟨ByteArray.empty, false, (0 : Int), (0 : Int), []⟩ : S79)).f4).bind fun t6 => if (!t6) = true then
                ret (.inl false)
              else
                rec_ xs3 xs4 (IntKind.i64.wrap (a5 + (1 : Int)))
          else none
        else none
      else none
    else none
  else
    ret (.inr ())
def f120i.l4 (g51 : ByteArray → Bool → Int → Int → (List S79) → ByteArray → Bool → Int → Int → (List S79) → Option Bool) (k : Nat) : Nat → (List S79) → (List S79) → Int → Option (Bool ⊕ (Unit))
  | 0, _, _, _ => none
  | j + 1, xs3, xs4, a5 => f120i.l4.step g51 k (fun xs3 xs4 a5 => f120i.l4 g51 k j xs3 xs4 a5) some xs3 xs4 a5
def f120i.l4.w {R : Type} : (Bool ⊕ (Unit)) → (Exit → St env → Option R) → Option R := fun x K => Sum.elim (fun t9 => K .ret ⟨fullT [4] 0 27 [.v (.c (.s (.bool t9)))], [], 402⟩) (fun t10 => K (.exit 0) ⟨fullT [] 0 27 [], [], 402⟩) x
def f120i.l4.st (xs3 : List S79) (xs4 : List S79) (a5 : Int) : St env := ⟨fullT [0, 1, 5] 0 27 [.v (.c (.imm 79 xs3)), .v (.c (.imm 79 xs4)), .v (.c (.s (.int .i64 a5)))], [], 114⟩
def f120i.l4.hd (g51 : ByteArray → Bool → Int → Int → (List S79) → ByteArray → Bool → Int → Int → (List S79) → Option Bool) (k : Nat) (ts_ : List (AV env)) (mm_ : Mem env) (n_ : Nat) : LCl env :=
  gTs LCl.no [0, 1, 5] 27 ts_ fun l_ => gV LCl.no l_ fun a_ l_ => rImm LCl.no 79 a_ fun xs3 => gV LCl.no l_ fun a_ l_ => rImm LCl.no 79 a_ fun xs4 => gV LCl.no l_ fun a_ l_ => rV LCl.no a_ fun v_ => vI LCl.no .i64 v_ fun a5 => gE LCl.no l_ <| gE LCl.no mm_ <| gN LCl.no 114 n_ { α := Bool ⊕ (Unit), o := f120i.l4 g51 k k xs3 xs4 a5, w := f120i.l4.w }
def f120i.step {R : Type} (g51 : ByteArray → Bool → Int → Int → (List S79) → ByteArray → Bool → Int → Int → (List S79) → Option Bool) (k : Nat) (ret : Bool → Option R) (xs1 : List S79) (xs2 : List S79) : Option R :=
  if (decide ((((List.length xs1) : Nat) : Int) ≠ (((List.length xs2) : Nat) : Int))) = true then
    ret false
  else
    (f120i.l4 g51 k k xs1 xs2 (0 : Int)).bind (Sum.elim (fun t7 => ret t7) (fun t8 => ret true))
def f120i (g51 : ByteArray → Bool → Int → Int → (List S79) → ByteArray → Bool → Int → Int → (List S79) → Option Bool) (k : Nat) (xs1 : List S79) (xs2 : List S79) : Option Bool := f120i.step g51 k some xs1 xs2
def f120i.w {R : Type} : Bool → (Res env → Option R) → Option R := fun t11 K => K ⟨.v (.c (.s (.bool t11))), [[], []]⟩
theorem f120i.wn (x : Bool) : ∃ res, ∀ {R : Type} (K : Res env → Option R), f120i.w x K = K res := by
  exact ⟨_, fun _ => rfl⟩
def f120i.hd (g51 : ByteArray → Bool → Int → Int → (List S79) → ByteArray → Bool → Int → Int → (List S79) → Option Bool) (k : Nat) (ps_ : List (P2 env)) : Cl env :=
  gC Cl.no ps_ fun p_ ps_ => qC Cl.no p_ fun c_ => qSl Cl.no 79 c_ fun xs1 => gC Cl.no ps_ fun p_ ps_ => qC Cl.no p_ fun c_ => qSl Cl.no 79 c_ fun xs2 => gE Cl.no ps_ <| { α := Bool, o := f120i g51 k xs1 xs2, w := f120i.w, nat := fun x _ => f120i.wn x }
def f120i.e (g51 : ByteArray → Bool → Int → Int → (List S79) → ByteArray → Bool → Int → Int → (List S79) → Option Bool) (k : Nat) : Entry env := ⟨fun ps => f120i.hd g51 k (coer [[.rd 79], [.rd 79]] ps), [], []⟩
def f120i.X (g51 : ByteArray → Bool → Int → Int → (List S79) → ByteArray → Bool → Int → Int → (List S79) → Option Bool) (k : Nat) : Ctx env := { C := lookE [(51, f51i.eG g51)], L := lookE [(4, fun S => f120i.l4.hd g51 k S.ts S.m S.n)], J := lookE [], keep := lookD [(4, [0, 1, 5])], keepX := lookD [(4, [4])], span := lookN [(4, 288)], eff := fun n => memN n [], prep := lookP [], np := 0 }
theorem f120i.l4.nat {R : Type} (g51 : ByteArray → Bool → Int → Int → (List S79) → ByteArray → Bool → Int → Int → (List S79) → Option Bool) (k : Nat) (rec_ : (List S79) → (List S79) → Int → Option (Bool ⊕ (Unit))) (g : (Bool ⊕ (Unit)) → Option R) (xs3 : List S79) (xs4 : List S79) (a5 : Int) : (f120i.l4.step g51 k rec_ some xs3 xs4 a5).bind g = f120i.l4.step g51 k (fun xs3 xs4 a5 => (rec_ xs3 xs4 a5).bind g) g xs3 xs4 a5 := by
  simp only [f120i.l4.step, bind_ite, bind_sum, Option.bind_assoc, Option.bind_some, Option.bind_none]
theorem f120i.l4.good (g51 : ByteArray → Bool → Int → Int → (List S79) → ByteArray → Bool → Int → Int → (List S79) → Option Bool) (k : Nat) (xs3 : List S79) (xs4 : List S79) (a5 : Int) : GoodL (f120i.X g51 k) (nthC 0 (loopsOf (bodyOf Try.f120))) (f120i.l4.st xs3 xs4 a5) { α := (Bool ⊕ (Unit)), o := f120i.l4 g51 k k xs3 xs4 a5, w := f120i.l4.w } :=
  loop_good (ι := (List S79) × (List S79) × Int) (α := (Bool ⊕ (Unit))) (fun i => f120i.l4.st i.1 i.2.1 i.2.2) (fun j i => f120i.l4 g51 k j i.1 i.2.1 i.2.2) f120i.l4.w (fun rec_ ret i => f120i.l4.step g51 k (fun xs3 xs4 a5 => rec_ (xs3, xs4, a5)) ret i.1 i.2.1 i.2.2)
    (fun _ => rfl) (fun _ _ => rfl) (fun rec_ g i => f120i.l4.nat g51 k _ g i.1 i.2.1 i.2.2) (fun {R} i0 i rec_ K => by kernel_rfl) k (xs3, xs4, a5)
theorem f120i.l4.all (g51 : ByteArray → Bool → Int → Int → (List S79) → ByteArray → Bool → Int → Int → (List S79) → Option Bool) (k : Nat) (S : St env) : GoodL (f120i.X g51 k) (nthC 0 (loopsOf (bodyOf Try.f120))) S (f120i.l4.hd g51 k S.ts S.m S.n) := by
  obtain ⟨ts_, m_, n_⟩ := S
  show GoodL _ _ _ (f120i.l4.hd g51 k ts_ m_ n_)
  unfold f120i.l4.hd
  refine gTs_ok (p := GoodL _ _ _) goodL_no fun _ h => ?_
  subst h
  refine gV_ok (p := GoodL _ _ _) goodL_no fun _ _ h => ?_
  subst h
  refine rImm_ok (p := GoodL _ _ _) goodL_no fun _ h => ?_
  subst h
  refine gV_ok (p := GoodL _ _ _) goodL_no fun _ _ h => ?_
  subst h
  refine rImm_ok (p := GoodL _ _ _) goodL_no fun _ h => ?_
  subst h
  refine gV_ok (p := GoodL _ _ _) goodL_no fun _ _ h => ?_
  subst h
  refine rV_ok (p := GoodL _ _ _) goodL_no fun _ h => ?_
  subst h
  refine vI_ok (p := GoodL _ _ _) goodL_no fun _ h => ?_
  subst h
  refine gE_ok (p := GoodL _ _ _) goodL_no fun h => ?_
  subst h
  refine gE_ok (p := GoodL _ _ _) goodL_no fun h => ?_
  subst h
  refine gN_ok (p := GoodL _ _ _) goodL_no fun h => ?_
  subst h
  exact f120i.l4.good g51 k _ _ _
theorem f120i.nat {R : Type} (g51 : ByteArray → Bool → Int → Int → (List S79) → ByteArray → Bool → Int → Int → (List S79) → Option Bool) (k : Nat) (g : Bool → Option R) (xs1 : List S79) (xs2 : List S79) : f120i.step g51 k g xs1 xs2 = (f120i g51 k xs1 xs2).bind g := by
  simp only [f120i, f120i.step, bind_ite, bind_sum, Option.bind_assoc, Option.bind_some, Option.bind_none]
theorem f120i.ev (g51 : ByteArray → Bool → Int → Int → (List S79) → ByteArray → Bool → Int → Int → (List S79) → Option Bool) (k : Nat) (xs1 : List S79) (xs2 : List S79) : evF (f120i.X g51 k) (bodyOf Try.f120) Try.f120.ntmps Try.f120.results.toList [.v (.c (.sl 79 xs1)), .v (.c (.sl 79 xs2))] = f120i.step g51 k (fun x => f120i.w x some) xs1 xs2 := by kernel_rfl
theorem f120i.hok (g51 : ByteArray → Bool → Int → Int → (List S79) → ByteArray → Bool → Int → Int → (List S79) → Option Bool) (k : Nat) : HOK (f120i.X g51 k) (bodyOf Try.f120) where
  l := allP_mem (by exact ⟨ls_of (h0 := fun S => f120i.l4.hd g51 k S.ts S.m S.n) (by kernel_rfl) (f120i.l4.all g51 k), trivial⟩)
  j := allP_mem (by exact trivial)
theorem f120i.sound0 (g51 : ByteArray → Bool → Int → Int → (List S79) → ByteArray → Bool → Int → Int → (List S79) → Option Bool) (hg_ : SoundC env Try.prog 51 (f51i.eG g51).F) (k : Nat) : SoundC env Try.prog 120 (f120i.hd g51 k) := by
  intro ps_
  show GoodC _ _ _ ps_ (f120i.hd g51 k ps_)
  unfold f120i.hd
  refine gC_ok (p := GoodC env Try.prog 120 _) goodC_no fun _ _ h => ?_
  subst h
  refine qC_ok (p := GoodC env Try.prog 120 _) goodC_no fun _ h => ?_
  subst h
  refine qSl_ok (p := GoodC env Try.prog 120 _) goodC_no fun _ h => ?_
  subst h
  refine gC_ok (p := GoodC env Try.prog 120 _) goodC_no fun _ _ h => ?_
  subst h
  refine qC_ok (p := GoodC env Try.prog 120 _) goodC_no fun _ h => ?_
  subst h
  refine qSl_ok (p := GoodC env Try.prog 120 _) goodC_no fun _ h => ?_
  subst h
  refine gE_ok (p := GoodC env Try.prog 120 _) goodC_no fun h => ?_
  subst h
  exact fun_good (fun_sound envOK (cs_sound _ (by exact ⟨⟨hg_, f51.fnok⟩, trivial⟩)) (f120i.hok g51 k) Try.func120 rfl) ((f120i.ev g51 k _ _).trans (f120i.nat g51 k _ _ _))
theorem f120i.sound (g51 : ByteArray → Bool → Int → Int → (List S79) → ByteArray → Bool → Int → Int → (List S79) → Option Bool) (hg_ : SoundC env Try.prog 51 (f51i.eG g51).F) (k : Nat) : SoundC env Try.prog 120 (f120i.e g51 k).F := soundC_coer (f120i.sound0 g51 hg_ k) [[.rd 79], [.rd 79]]
theorem f120.fnok : FnOK Try.prog 120 := fn_ok Try.func120 (by kernel_rfl) rfl
def f51i.step {R : Type} (g51 : ByteArray → Bool → Int → Int → (List S79) → ByteArray → Bool → Int → Int → (List S79) → Option Bool) (k : Nat) (ret : Bool → Option R) (s1 : ByteArray) (b2 : Bool) (a3 : Int) (a4 : Int) (xs5 : List S79) (s6 : ByteArray) (b7 : Bool) (a8 : Int) (a9 : Int) (xs10 : List S79) : Option R :=
  if (decide (ByteArray.toList s1 ≠ ByteArray.toList s6)) = true then
    ret false
  else
    if (!(b2 == b7)) = true then
      ret false
    else
      if (decide (a3 ≠ a8)) = true then
        ret false
      else
        if (decide (a4 ≠ a9)) = true then
          ret false
        else
          (f120i g51 k xs5 xs10).bind fun t11 => if (!t11) = true then
              ret false
            else
              ret true
def f51i (g51 : ByteArray → Bool → Int → Int → (List S79) → ByteArray → Bool → Int → Int → (List S79) → Option Bool) (k : Nat) (s1 : ByteArray) (b2 : Bool) (a3 : Int) (a4 : Int) (xs5 : List S79) (s6 : ByteArray) (b7 : Bool) (a8 : Int) (a9 : Int) (xs10 : List S79) : Option Bool := f51i.step g51 k some s1 b2 a3 a4 xs5 s6 b7 a8 a9 xs10
def f51i.hd (g51 : ByteArray → Bool → Int → Int → (List S79) → ByteArray → Bool → Int → Int → (List S79) → Option Bool) (k : Nat) (ps_ : List (P2 env)) : Cl env := f51i.hdG (f51i g51 k) ps_
def f51i.e (g51 : ByteArray → Bool → Int → Int → (List S79) → ByteArray → Bool → Int → Int → (List S79) → Option Bool) (k : Nat) : Entry env := f51i.eG (f51i g51 k)
def f51i.X (g51 : ByteArray → Bool → Int → Int → (List S79) → ByteArray → Bool → Int → Int → (List S79) → Option Bool) (k : Nat) : Ctx env := { C := lookE [(120, f120i.e g51 k)], L := lookE [], J := lookE [], keep := lookD [], keepX := lookD [], span := lookN [], eff := fun n => memN n [], prep := lookP [], np := 0 }
theorem f51i.nat {R : Type} (g51 : ByteArray → Bool → Int → Int → (List S79) → ByteArray → Bool → Int → Int → (List S79) → Option Bool) (k : Nat) (g : Bool → Option R) (s1 : ByteArray) (b2 : Bool) (a3 : Int) (a4 : Int) (xs5 : List S79) (s6 : ByteArray) (b7 : Bool) (a8 : Int) (a9 : Int) (xs10 : List S79) : f51i.step g51 k g s1 b2 a3 a4 xs5 s6 b7 a8 a9 xs10 = (f51i g51 k s1 b2 a3 a4 xs5 s6 b7 a8 a9 xs10).bind g := by
  simp only [f51i, f51i.step, bind_ite, bind_sum, Option.bind_assoc, Option.bind_some, Option.bind_none]
theorem f51i.ev (g51 : ByteArray → Bool → Int → Int → (List S79) → ByteArray → Bool → Int → Int → (List S79) → Option Bool) (k : Nat) (s1 : ByteArray) (b2 : Bool) (a3 : Int) (a4 : Int) (xs5 : List S79) (s6 : ByteArray) (b7 : Bool) (a8 : Int) (a9 : Int) (xs10 : List S79) : evF (f51i.X g51 k) (bodyOf Try.f51) Try.f51.ntmps Try.f51.results.toList [.g [.s (.string s1), .s (.bool b2), .s (.int .i64 a3), .s (.int .i64 a4), .sl 79 xs5], .g [.s (.string s6), .s (.bool b7), .s (.int .i64 a8), .s (.int .i64 a9), .sl 79 xs10]] = f51i.step g51 k (fun x => f51i.w x some) s1 b2 a3 a4 xs5 s6 b7 a8 a9 xs10 := by kernel_rfl
theorem f51i.hok (g51 : ByteArray → Bool → Int → Int → (List S79) → ByteArray → Bool → Int → Int → (List S79) → Option Bool) (k : Nat) : HOK (f51i.X g51 k) (bodyOf Try.f51) where
  l := allP_mem (by exact trivial)
  j := allP_mem (by exact trivial)
theorem f51i.sound0 (g51 : ByteArray → Bool → Int → Int → (List S79) → ByteArray → Bool → Int → Int → (List S79) → Option Bool) (hg_ : SoundC env Try.prog 51 (f51i.eG g51).F) (k : Nat) : SoundC env Try.prog 51 (f51i.hd g51 k) := by
  intro ps_
  show GoodC _ _ _ ps_ (f51i.hd g51 k ps_)
  unfold f51i.hd f51i.hdG
  refine gC_ok (p := GoodC env Try.prog 51 _) goodC_no fun _ _ h => ?_
  subst h
  refine qG_ok (p := GoodC env Try.prog 51 _) goodC_no fun _ h => ?_
  subst h
  refine gC_ok (p := GoodC env Try.prog 51 _) goodC_no fun _ _ h => ?_
  subst h
  refine qS_ok (p := GoodC env Try.prog 51 _) goodC_no fun _ h => ?_
  subst h
  refine vS_ok (p := GoodC env Try.prog 51 _) goodC_no fun _ h => ?_
  subst h
  refine gC_ok (p := GoodC env Try.prog 51 _) goodC_no fun _ _ h => ?_
  subst h
  refine qS_ok (p := GoodC env Try.prog 51 _) goodC_no fun _ h => ?_
  subst h
  refine vB_ok (p := GoodC env Try.prog 51 _) goodC_no fun _ h => ?_
  subst h
  refine gC_ok (p := GoodC env Try.prog 51 _) goodC_no fun _ _ h => ?_
  subst h
  refine qS_ok (p := GoodC env Try.prog 51 _) goodC_no fun _ h => ?_
  subst h
  refine vI_ok (p := GoodC env Try.prog 51 _) goodC_no fun _ h => ?_
  subst h
  refine gC_ok (p := GoodC env Try.prog 51 _) goodC_no fun _ _ h => ?_
  subst h
  refine qS_ok (p := GoodC env Try.prog 51 _) goodC_no fun _ h => ?_
  subst h
  refine vI_ok (p := GoodC env Try.prog 51 _) goodC_no fun _ h => ?_
  subst h
  refine gC_ok (p := GoodC env Try.prog 51 _) goodC_no fun _ _ h => ?_
  subst h
  refine qSl_ok (p := GoodC env Try.prog 51 _) goodC_no fun _ h => ?_
  subst h
  refine gE_ok (p := GoodC env Try.prog 51 _) goodC_no fun h => ?_
  subst h
  refine gC_ok (p := GoodC env Try.prog 51 _) goodC_no fun _ _ h => ?_
  subst h
  refine qG_ok (p := GoodC env Try.prog 51 _) goodC_no fun _ h => ?_
  subst h
  refine gC_ok (p := GoodC env Try.prog 51 _) goodC_no fun _ _ h => ?_
  subst h
  refine qS_ok (p := GoodC env Try.prog 51 _) goodC_no fun _ h => ?_
  subst h
  refine vS_ok (p := GoodC env Try.prog 51 _) goodC_no fun _ h => ?_
  subst h
  refine gC_ok (p := GoodC env Try.prog 51 _) goodC_no fun _ _ h => ?_
  subst h
  refine qS_ok (p := GoodC env Try.prog 51 _) goodC_no fun _ h => ?_
  subst h
  refine vB_ok (p := GoodC env Try.prog 51 _) goodC_no fun _ h => ?_
  subst h
  refine gC_ok (p := GoodC env Try.prog 51 _) goodC_no fun _ _ h => ?_
  subst h
  refine qS_ok (p := GoodC env Try.prog 51 _) goodC_no fun _ h => ?_
  subst h
  refine vI_ok (p := GoodC env Try.prog 51 _) goodC_no fun _ h => ?_
  subst h
  refine gC_ok (p := GoodC env Try.prog 51 _) goodC_no fun _ _ h => ?_
  subst h
  refine qS_ok (p := GoodC env Try.prog 51 _) goodC_no fun _ h => ?_
  subst h
  refine vI_ok (p := GoodC env Try.prog 51 _) goodC_no fun _ h => ?_
  subst h
  refine gC_ok (p := GoodC env Try.prog 51 _) goodC_no fun _ _ h => ?_
  subst h
  refine qSl_ok (p := GoodC env Try.prog 51 _) goodC_no fun _ h => ?_
  subst h
  refine gE_ok (p := GoodC env Try.prog 51 _) goodC_no fun h => ?_
  subst h
  refine gE_ok (p := GoodC env Try.prog 51 _) goodC_no fun h => ?_
  subst h
  exact fun_good (fun_sound envOK (cs_sound _ (by exact ⟨⟨f120i.sound g51 hg_ k, f120.fnok⟩, trivial⟩)) (f51i.hok g51 k) Try.func51 rfl) ((f51i.ev g51 k _ _ _ _ _ _ _ _ _ _).trans (f51i.nat g51 k _ _ _ _ _ _ _ _ _ _ _))
theorem f51i.sound (g51 : ByteArray → Bool → Int → Int → (List S79) → ByteArray → Bool → Int → Int → (List S79) → Option Bool) (hg_ : SoundC env Try.prog 51 (f51i.eG g51).F) (k : Nat) : SoundC env Try.prog 51 (f51i.e g51 k).F := soundC_coer (f51i.sound0 g51 hg_ k) [[.no, .no, .no, .no, .rd 79], [.no, .no, .no, .no, .rd 79]]
def f51i.r (k : Nat) : Nat → ByteArray → Bool → Int → Int → (List S79) → ByteArray → Bool → Int → Int → (List S79) → Option Bool
  | 0 => fun _ _ _ _ _ _ _ _ _ _ => none
  | j + 1 => fun s1 b2 a3 a4 xs5 s6 b7 a8 a9 xs10 => f51i (f51i.r k j) k s1 b2 a3 a4 xs5 s6 b7 a8 a9 xs10
theorem f51i.all_ (k : Nat) : ∀ j, SoundC env Try.prog 51 (f51i.eG (f51i.r k j)).F
  | 0 => f51i.none_
  | j + 1 => f51i.sound (f51i.r k j) (f51i.all_ k j) k
def f51 (k : Nat) (s1 : ByteArray) (b2 : Bool) (a3 : Int) (a4 : Int) (xs5 : List S79) (s6 : ByteArray) (b7 : Bool) (a8 : Int) (a9 : Int) (xs10 : List S79) : Option Bool := f51i.r k k s1 b2 a3 a4 xs5 s6 b7 a8 a9 xs10
def f51.e (k : Nat) : Entry env := f51i.eG (f51 k)
theorem f51.sound (k : Nat) : SoundC env Try.prog 51 (f51.e k).F := f51i.all_ k k
def f120 (k : Nat) (xs1 : List S79) (xs2 : List S79) : Option Bool := f120i (f51 k) k xs1 xs2
def f120.e (k : Nat) : Entry env := f120i.e (f51 k) k
theorem f120.sound (k : Nat) : SoundC env Try.prog 120 (f120.e k).F := f120i.sound (f51 k) (f51.sound k) k
def f122.l4.step {R : Type} (k : Nat) (rec_ : Int → ByteArray → Option R) (ret : ByteArray → Option R) (a2 : Int) (s3 : ByteArray) : Option R :=
  if (decide (a2 > (0 : Int))) = true then
    if ByteArray.size (strOf ([(IntKind.u8.wrap (IntKind.i64.wrap ((48 : Int) + (Int.tmod a2 (10 : Int)))))] : List Int)) + ByteArray.size s3 ≤ maxN then
      rec_ (IntKind.i64.wrap (Int.tdiv a2 (10 : Int))) ((strOf ([(IntKind.u8.wrap (IntKind.i64.wrap ((48 : Int) + (Int.tmod a2 (10 : Int)))))] : List Int)) ++ s3)
    else none
  else
    ret s3
def f122.l4 (k : Nat) : Nat → Int → ByteArray → Option ByteArray
  | 0, _, _ => none
  | j + 1, a2, s3 => f122.l4.step k (fun a2 s3 => f122.l4 k j a2 s3) some a2 s3
def f122.l4.w {R : Type} : ByteArray → (Exit → St env → Option R) → Option R := fun t5 K => K (.exit 0) ⟨fullT [3] 0 20 [.v (.c (.s (.string t5)))], [], 289⟩
def f122.l4.st (a2 : Int) (s3 : ByteArray) : St env := ⟨fullT [0, 3] 0 20 [.v (.c (.s (.int .i64 a2))), .v (.c (.s (.string s3)))], [], 65⟩
def f122.l4.hd (k : Nat) (ts_ : List (AV env)) (mm_ : Mem env) (n_ : Nat) : LCl env :=
  gTs LCl.no [0, 3] 20 ts_ fun l_ => gV LCl.no l_ fun a_ l_ => rV LCl.no a_ fun v_ => vI LCl.no .i64 v_ fun a2 => gV LCl.no l_ fun a_ l_ => rV LCl.no a_ fun v_ => vS LCl.no v_ fun s3 => gE LCl.no l_ <| gE LCl.no mm_ <| gN LCl.no 65 n_ { α := ByteArray, o := f122.l4 k k a2 s3, w := f122.l4.w }
def f122.step {R : Type} (k : Nat) (ret : ByteArray → Option R) (a1 : Int) : Option R :=
  if (decide (a1 ≤ (0 : Int))) = true then
    ret (⟨#[109, 48]⟩ : ByteArray)
  else
    (f122.l4 k k a1 (⟨#[]⟩ : ByteArray)).bind fun t4 => if ByteArray.size (⟨#[109]⟩ : ByteArray) + ByteArray.size t4 ≤ maxN then
        ret ((⟨#[109]⟩ : ByteArray) ++ t4)
      else none
def f122 (k : Nat) (a1 : Int) : Option ByteArray := f122.step k some a1
def f122.w {R : Type} : ByteArray → (Res env → Option R) → Option R := fun t6 K => K ⟨.v (.c (.s (.string t6))), [[]]⟩
theorem f122.wn (x : ByteArray) : ∃ res, ∀ {R : Type} (K : Res env → Option R), f122.w x K = K res := by
  exact ⟨_, fun _ => rfl⟩
def f122.hd (k : Nat) (ps_ : List (P2 env)) : Cl env :=
  gC Cl.no ps_ fun p_ ps_ => qC Cl.no p_ fun c_ => qS Cl.no c_ fun v_ => vI Cl.no .i64 v_ fun a1 => gE Cl.no ps_ <| { α := ByteArray, o := f122 k a1, w := f122.w, nat := fun x _ => f122.wn x }
def f122.e (k : Nat) : Entry env := ⟨f122.hd k, [], []⟩
def f122.X (k : Nat) : Ctx env := { C := lookE [], L := lookE [(4, fun S => f122.l4.hd k S.ts S.m S.n)], J := lookE [], keep := lookD [(4, [0, 3])], keepX := lookD [(4, [3])], span := lookN [(4, 224)], eff := fun n => memN n [], prep := lookP [], np := 0 }
theorem f122.l4.nat {R : Type} (k : Nat) (rec_ : Int → ByteArray → Option ByteArray) (g : ByteArray → Option R) (a2 : Int) (s3 : ByteArray) : (f122.l4.step k rec_ some a2 s3).bind g = f122.l4.step k (fun a2 s3 => (rec_ a2 s3).bind g) g a2 s3 := by
  simp only [f122.l4.step, bind_ite, bind_sum, Option.bind_assoc, Option.bind_some, Option.bind_none]
theorem f122.l4.good (k : Nat) (a2 : Int) (s3 : ByteArray) : GoodL (f122.X k) (nthC 0 (loopsOf (bodyOf Try.f122))) (f122.l4.st a2 s3) { α := ByteArray, o := f122.l4 k k a2 s3, w := f122.l4.w } :=
  loop_good (ι := Int × ByteArray) (α := ByteArray) (fun i => f122.l4.st i.1 i.2) (fun j i => f122.l4 k j i.1 i.2) f122.l4.w (fun rec_ ret i => f122.l4.step k (fun a2 s3 => rec_ (a2, s3)) ret i.1 i.2)
    (fun _ => rfl) (fun _ _ => rfl) (fun rec_ g i => f122.l4.nat k _ g i.1 i.2) (fun {R} i0 i rec_ K => by kernel_rfl) k (a2, s3)
theorem f122.l4.all (k : Nat) (S : St env) : GoodL (f122.X k) (nthC 0 (loopsOf (bodyOf Try.f122))) S (f122.l4.hd k S.ts S.m S.n) := by
  obtain ⟨ts_, m_, n_⟩ := S
  show GoodL _ _ _ (f122.l4.hd k ts_ m_ n_)
  unfold f122.l4.hd
  refine gTs_ok (p := GoodL _ _ _) goodL_no fun _ h => ?_
  subst h
  refine gV_ok (p := GoodL _ _ _) goodL_no fun _ _ h => ?_
  subst h
  refine rV_ok (p := GoodL _ _ _) goodL_no fun _ h => ?_
  subst h
  refine vI_ok (p := GoodL _ _ _) goodL_no fun _ h => ?_
  subst h
  refine gV_ok (p := GoodL _ _ _) goodL_no fun _ _ h => ?_
  subst h
  refine rV_ok (p := GoodL _ _ _) goodL_no fun _ h => ?_
  subst h
  refine vS_ok (p := GoodL _ _ _) goodL_no fun _ h => ?_
  subst h
  refine gE_ok (p := GoodL _ _ _) goodL_no fun h => ?_
  subst h
  refine gE_ok (p := GoodL _ _ _) goodL_no fun h => ?_
  subst h
  refine gN_ok (p := GoodL _ _ _) goodL_no fun h => ?_
  subst h
  exact f122.l4.good k _ _
theorem f122.nat {R : Type} (k : Nat) (g : ByteArray → Option R) (a1 : Int) : f122.step k g a1 = (f122 k a1).bind g := by
  simp only [f122, f122.step, bind_ite, bind_sum, Option.bind_assoc, Option.bind_some, Option.bind_none]
theorem f122.ev (k : Nat) (a1 : Int) : evF (f122.X k) (bodyOf Try.f122) Try.f122.ntmps Try.f122.results.toList [.v (.c (.s (.int .i64 a1)))] = f122.step k (fun x => f122.w x some) a1 := by kernel_rfl
theorem f122.hok (k : Nat) : HOK (f122.X k) (bodyOf Try.f122) where
  l := allP_mem (by exact ⟨ls_of (h0 := fun S => f122.l4.hd k S.ts S.m S.n) (by kernel_rfl) (f122.l4.all k), trivial⟩)
  j := allP_mem (by exact trivial)
theorem f122.sound (k : Nat) : SoundC env Try.prog 122 ((f122.e k).F) := by
  intro ps_
  show GoodC _ _ _ ps_ (f122.hd k ps_)
  unfold f122.hd
  refine gC_ok (p := GoodC env Try.prog 122 _) goodC_no fun _ _ h => ?_
  subst h
  refine qC_ok (p := GoodC env Try.prog 122 _) goodC_no fun _ h => ?_
  subst h
  refine qS_ok (p := GoodC env Try.prog 122 _) goodC_no fun _ h => ?_
  subst h
  refine vI_ok (p := GoodC env Try.prog 122 _) goodC_no fun _ h => ?_
  subst h
  refine gE_ok (p := GoodC env Try.prog 122 _) goodC_no fun h => ?_
  subst h
  exact fun_good (fun_sound envOK (cs_sound _ (by exact trivial)) (f122.hok k) Try.func122 rfl) ((f122.ev k _).trans (f122.nat k _ _))
theorem f122.says (k : Nat) (a1 : Int) (t7 : ByteArray) (h_ : f122 k a1 = some t7) : SoundAt env Try.prog 122 [.v (.c (.s (.int .i64 a1)))] ⟨.v (.c (.s (.string t7))), [[]]⟩ :=
  fun_sound envOK (cs_sound _ (by exact trivial)) (f122.hok k) Try.func122 rfl _ _ (((f122.ev k a1).trans (f122.nat k _ a1)).trans (by rw [h_]; rfl))
theorem f122.fnok : FnOK Try.prog 122 := fn_ok Try.func122 (by kernel_rfl) rfl
def f121i.w {R : Type} : (Int × (List S79)) → (Res env → Option R) → Option R := fun t10 K => K ⟨.v (.c (.s (.int .i64 t10.1))), [[.sl 79 t10.2], []]⟩
theorem f121i.wn (x : (Int × (List S79))) : ∃ res, ∀ {R : Type} (K : Res env → Option R), f121i.w x K = K res := by
  exact ⟨_, fun _ => rfl⟩
def f121i.hdG (G_ : (List S79) → Int → Option (Int × (List S79))) (ps_ : List (P2 env)) : Cl env :=
  gC Cl.no ps_ fun p_ ps_ => qC Cl.no p_ fun c_ => qWr Cl.no 79 c_ fun xs1 => gC Cl.no ps_ fun p_ ps_ => qC Cl.no p_ fun c_ => qS Cl.no c_ fun v_ => vI Cl.no .i64 v_ fun a2 => gE Cl.no ps_ <| { α := Int × (List S79), o := G_ xs1 a2, w := f121i.w, nat := fun x _ => f121i.wn x }
def f121i.eG (G_ : (List S79) → Int → Option (Int × (List S79))) : Entry env := ⟨fun ps => f121i.hdG G_ (coer [[.wr 79], [.no]] ps), [(0, 0)], []⟩
theorem f121i.none_ : SoundC env Try.prog 121 (f121i.eG (fun _ _ => none)).F := by
  refine soundC_coer (F := f121i.hdG (fun _ _ => none)) ?_ [[.wr 79], [.no]]
  intro ps_
  show GoodC _ _ _ ps_ (f121i.hdG (fun _ _ => none) ps_)
  unfold f121i.hdG
  refine gC_ok (p := GoodC env Try.prog 121 _) goodC_no fun _ _ h => ?_
  subst h
  refine qC_ok (p := GoodC env Try.prog 121 _) goodC_no fun _ h => ?_
  subst h
  refine qWr_ok (p := GoodC env Try.prog 121 _) goodC_no fun _ h => ?_
  subst h
  refine gC_ok (p := GoodC env Try.prog 121 _) goodC_no fun _ _ h => ?_
  subst h
  refine qC_ok (p := GoodC env Try.prog 121 _) goodC_no fun _ h => ?_
  subst h
  refine qS_ok (p := GoodC env Try.prog 121 _) goodC_no fun _ h => ?_
  subst h
  refine vI_ok (p := GoodC env Try.prog 121 _) goodC_no fun _ h => ?_
  subst h
  refine gE_ok (p := GoodC env Try.prog 121 _) goodC_no fun h => ?_
  subst h
  intro x h; cases h
theorem f121.fnok : FnOK Try.prog 121 := fn_ok Try.func121 (by kernel_rfl) rfl
def f121i.l2.step {R : Type} (g121 : (List S79) → Int → Option (Int × (List S79))) (k : Nat) (rec_ : Int → Int → (List S79) → Option R) (ret : (Int × (List S79)) → Option R) (a3 : Int) (a4 : Int) (xs5 : List S79) : Option R :=
  if (decide (a4 < (((List.length xs5) : Nat) : Int))) = true then
    (f122 k a3).bind fun t6 => if (0 : Int) ≤ a4 then
        if a4 < ((List.length xs5 : Nat) : Int) then
          if (0 : Int) ≤ a4 then
            if a4 < ((List.length (set79 xs5 (Int.toNat a4) 0 [.s (.string t6)]) : Nat) : Int) then
              if (0 : Int) ≤ a4 then
                if a4 < ((List.length (set79 (set79 xs5 (Int.toNat a4) 0 [.s (.string t6)]) (Int.toNat a4) 1 [.s (.bool (decide ((Int.tmod (IntKind.i64.wrap (a3 + (1 : Int))) (3 : Int)) = (0 : Int))))]) : Nat) : Int) then
                  if (0 : Int) ≤ a4 then
                    if a4 < ((List.length (set79 (set79 (set79 xs5 (Int.toNat a4) 0 [.s (.string t6)]) (Int.toNat a4) 1 [.s (.bool (decide ((Int.tmod (IntKind.i64.wrap (a3 + (1 : Int))) (3 : Int)) = (0 : Int))))]) (Int.toNat a4) 2 [.s (.int .i64 (IntKind.i64.wrap ((IntKind.i64.wrap (a3 + (1 : Int))) + (1 : Int))))]) : Nat) : Int) then
                      if (0 : Int) ≤ a4 then
                        if a4 < ((List.length (set79 (set79 (set79 (set79 xs5 (Int.toNat a4) 0 [.s (.string t6)]) (Int.toNat a4) 1 [.s (.bool (decide ((Int.tmod (IntKind.i64.wrap (a3 + (1 : Int))) (3 : Int)) = (0 : Int))))]) (Int.toNat a4) 2 [.s (.int .i64 (IntKind.i64.wrap ((IntKind.i64.wrap (a3 + (1 : Int))) + (1 : Int))))]) (Int.toNat a4) 3 [.s (.int .i64 (IntKind.i64.wrap ((IntKind.i64.wrap ((IntKind.i64.wrap (a3 + (1 : Int))) + (1 : Int))) + (1 : Int))))]) : Nat) : Int) then
                          (g121 (List.getD (set79 (set79 (set79 (set79 xs5 (Int.toNat a4) 0 [.s (.string t6)]) (Int.toNat a4) 1 [.s (.bool (decide ((Int.tmod (IntKind.i64.wrap (a3 + (1 : Int))) (3 : Int)) = (0 : Int))))]) (Int.toNat a4) 2 [.s (.int .i64 (IntKind.i64.wrap ((IntKind.i64.wrap (a3 + (1 : Int))) + (1 : Int))))]) (Int.toNat a4) 3 [.s (.int .i64 (IntKind.i64.wrap ((IntKind.i64.wrap ((IntKind.i64.wrap (a3 + (1 : Int))) + (1 : Int))) + (1 : Int))))]) (Int.toNat a4) (⟨ByteArray.empty, false, (0 : Int), (0 : Int), []⟩ : S79)).f4 (IntKind.i64.wrap ((IntKind.i64.wrap ((IntKind.i64.wrap ((IntKind.i64.wrap (a3 + (1 : Int))) + (1 : Int))) + (1 : Int))) + (1 : Int)))).bind fun t7 => rec_ t7.1 (IntKind.i64.wrap (a4 + (1 : Int))) (set79 (set79 (set79 (set79 (set79 xs5 (Int.toNat a4) 0 [.s (.string t6)]) (Int.toNat a4) 1 [.s (.bool (decide ((Int.tmod (IntKind.i64.wrap (a3 + (1 : Int))) (3 : Int)) = (0 : Int))))]) (Int.toNat a4) 2 [.s (.int .i64 (IntKind.i64.wrap ((IntKind.i64.wrap (a3 + (1 : Int))) + (1 : Int))))]) (Int.toNat a4) 3 [.s (.int .i64 (IntKind.i64.wrap ((IntKind.i64.wrap ((IntKind.i64.wrap (a3 + (1 : Int))) + (1 : Int))) + (1 : Int))))]) (Int.toNat a4) 4 [.sl 79 t7.2])
                        else none
                      else none
                    else none
                  else none
                else none
              else none
            else none
          else none
        else none
      else none
  else
    ret (a3, xs5)
def f121i.l2 (g121 : (List S79) → Int → Option (Int × (List S79))) (k : Nat) : Nat → Int → Int → (List S79) → Option (Int × (List S79))
  | 0, _, _, _ => none
  | j + 1, a3, a4, xs5 => f121i.l2.step g121 k (fun a3 a4 xs5 => f121i.l2 g121 k j a3 a4 xs5) some a3 a4 xs5
def f121i.l2.w {R : Type} : (Int × (List S79)) → (Exit → St env → Option R) → Option R := fun t9 K => K (.exit 0) ⟨fullT [0, 1] 0 51 [.v (.c (.row 2)), .v (.c (.s (.int .i64 t9.1)))], [(2, .row true 79 t9.2)], 1026⟩
def f121i.l2.st (a3 : Int) (a4 : Int) (xs5 : List S79) : St env := ⟨fullT [0, 1, 5] 0 51 [.v (.c (.row 2)), .v (.c (.s (.int .i64 a3))), .v (.c (.s (.int .i64 a4)))], [(2, .row true 79 xs5)], 162⟩
def f121i.l2.hd (g121 : (List S79) → Int → Option (Int × (List S79))) (k : Nat) (ts_ : List (AV env)) (mm_ : Mem env) (n_ : Nat) : LCl env :=
  gTs LCl.no [0, 1, 5] 51 ts_ fun l_ => gV LCl.no l_ fun a_ l_ => rRow LCl.no 2 a_ <| gV LCl.no l_ fun a_ l_ => rV LCl.no a_ fun v_ => vI LCl.no .i64 v_ fun a3 => gV LCl.no l_ fun a_ l_ => rV LCl.no a_ fun v_ => vI LCl.no .i64 v_ fun a4 => gE LCl.no l_ <| mRow LCl.no 2 true 79 mm_ fun xs5 m_ => gE LCl.no m_ <| gN LCl.no 162 n_ { α := Int × (List S79), o := f121i.l2 g121 k k a3 a4 xs5, w := f121i.l2.w }
def f121i.step {R : Type} (g121 : (List S79) → Int → Option (Int × (List S79))) (k : Nat) (ret : (Int × (List S79)) → Option R) (xs1 : List S79) (a2 : Int) : Option R :=
  (f121i.l2 g121 k k a2 (0 : Int) xs1).bind fun t8 => ret (t8.1, t8.2)
def f121i (g121 : (List S79) → Int → Option (Int × (List S79))) (k : Nat) (xs1 : List S79) (a2 : Int) : Option (Int × (List S79)) := f121i.step g121 k some xs1 a2
def f121i.hd (g121 : (List S79) → Int → Option (Int × (List S79))) (k : Nat) (ps_ : List (P2 env)) : Cl env := f121i.hdG (f121i g121 k) ps_
def f121i.e (g121 : (List S79) → Int → Option (Int × (List S79))) (k : Nat) : Entry env := f121i.eG (f121i g121 k)
def f121i.X (g121 : (List S79) → Int → Option (Int × (List S79))) (k : Nat) : Ctx env := { C := lookE [(121, f121i.eG g121), (122, f122.e k)], L := lookE [(2, fun S => f121i.l2.hd g121 k S.ts S.m S.n)], J := lookE [], keep := lookD [(2, [0, 1, 5])], keepX := lookD [(2, [0, 1])], span := lookN [(2, 864)], eff := fun n => memN n [], prep := lookP [], np := 130 }
theorem f121i.l2.nat {R : Type} (g121 : (List S79) → Int → Option (Int × (List S79))) (k : Nat) (rec_ : Int → Int → (List S79) → Option (Int × (List S79))) (g : (Int × (List S79)) → Option R) (a3 : Int) (a4 : Int) (xs5 : List S79) : (f121i.l2.step g121 k rec_ some a3 a4 xs5).bind g = f121i.l2.step g121 k (fun a3 a4 xs5 => (rec_ a3 a4 xs5).bind g) g a3 a4 xs5 := by
  simp only [f121i.l2.step, bind_ite, bind_sum, Option.bind_assoc, Option.bind_some, Option.bind_none]
theorem f121i.l2.good (g121 : (List S79) → Int → Option (Int × (List S79))) (k : Nat) (a3 : Int) (a4 : Int) (xs5 : List S79) : GoodL (f121i.X g121 k) (nthC 0 (loopsOf (bodyOf Try.f121))) (f121i.l2.st a3 a4 xs5) { α := (Int × (List S79)), o := f121i.l2 g121 k k a3 a4 xs5, w := f121i.l2.w } :=
  loop_good (ι := Int × Int × (List S79)) (α := (Int × (List S79))) (fun i => f121i.l2.st i.1 i.2.1 i.2.2) (fun j i => f121i.l2 g121 k j i.1 i.2.1 i.2.2) f121i.l2.w (fun rec_ ret i => f121i.l2.step g121 k (fun a3 a4 xs5 => rec_ (a3, a4, xs5)) ret i.1 i.2.1 i.2.2)
    (fun _ => rfl) (fun _ _ => rfl) (fun rec_ g i => f121i.l2.nat g121 k _ g i.1 i.2.1 i.2.2) (fun {R} i0 i rec_ K => by kernel_rfl) k (a3, a4, xs5)
theorem f121i.l2.all (g121 : (List S79) → Int → Option (Int × (List S79))) (k : Nat) (S : St env) : GoodL (f121i.X g121 k) (nthC 0 (loopsOf (bodyOf Try.f121))) S (f121i.l2.hd g121 k S.ts S.m S.n) := by
  obtain ⟨ts_, m_, n_⟩ := S
  show GoodL _ _ _ (f121i.l2.hd g121 k ts_ m_ n_)
  unfold f121i.l2.hd
  refine gTs_ok (p := GoodL _ _ _) goodL_no fun _ h => ?_
  subst h
  refine gV_ok (p := GoodL _ _ _) goodL_no fun _ _ h => ?_
  subst h
  refine rRow_ok (p := GoodL _ _ _) goodL_no fun h => ?_
  subst h
  refine gV_ok (p := GoodL _ _ _) goodL_no fun _ _ h => ?_
  subst h
  refine rV_ok (p := GoodL _ _ _) goodL_no fun _ h => ?_
  subst h
  refine vI_ok (p := GoodL _ _ _) goodL_no fun _ h => ?_
  subst h
  refine gV_ok (p := GoodL _ _ _) goodL_no fun _ _ h => ?_
  subst h
  refine rV_ok (p := GoodL _ _ _) goodL_no fun _ h => ?_
  subst h
  refine vI_ok (p := GoodL _ _ _) goodL_no fun _ h => ?_
  subst h
  refine gE_ok (p := GoodL _ _ _) goodL_no fun h => ?_
  subst h
  refine mRow_ok (p := GoodL _ _ _) goodL_no fun _ _ h => ?_
  subst h
  refine gE_ok (p := GoodL _ _ _) goodL_no fun h => ?_
  subst h
  refine gN_ok (p := GoodL _ _ _) goodL_no fun h => ?_
  subst h
  exact f121i.l2.good g121 k _ _ _
theorem f121i.nat {R : Type} (g121 : (List S79) → Int → Option (Int × (List S79))) (k : Nat) (g : (Int × (List S79)) → Option R) (xs1 : List S79) (a2 : Int) : f121i.step g121 k g xs1 a2 = (f121i g121 k xs1 a2).bind g := by
  simp only [f121i, f121i.step, bind_ite, bind_sum, Option.bind_assoc, Option.bind_some, Option.bind_none]
theorem f121i.ev (g121 : (List S79) → Int → Option (Int × (List S79))) (k : Nat) (xs1 : List S79) (a2 : Int) : evF (f121i.X g121 k) (bodyOf Try.f121) Try.f121.ntmps Try.f121.results.toList [.v (.c (.wr 79 xs1)), .v (.c (.s (.int .i64 a2)))] = f121i.step g121 k (fun x => f121i.w x some) xs1 a2 := by kernel_rfl
theorem f121i.hok (g121 : (List S79) → Int → Option (Int × (List S79))) (k : Nat) : HOK (f121i.X g121 k) (bodyOf Try.f121) where
  l := allP_mem (by exact ⟨ls_of (h0 := fun S => f121i.l2.hd g121 k S.ts S.m S.n) (by kernel_rfl) (f121i.l2.all g121 k), trivial⟩)
  j := allP_mem (by exact trivial)
theorem f121i.sound0 (g121 : (List S79) → Int → Option (Int × (List S79))) (hg_ : SoundC env Try.prog 121 (f121i.eG g121).F) (k : Nat) : SoundC env Try.prog 121 (f121i.hd g121 k) := by
  intro ps_
  show GoodC _ _ _ ps_ (f121i.hd g121 k ps_)
  unfold f121i.hd f121i.hdG
  refine gC_ok (p := GoodC env Try.prog 121 _) goodC_no fun _ _ h => ?_
  subst h
  refine qC_ok (p := GoodC env Try.prog 121 _) goodC_no fun _ h => ?_
  subst h
  refine qWr_ok (p := GoodC env Try.prog 121 _) goodC_no fun _ h => ?_
  subst h
  refine gC_ok (p := GoodC env Try.prog 121 _) goodC_no fun _ _ h => ?_
  subst h
  refine qC_ok (p := GoodC env Try.prog 121 _) goodC_no fun _ h => ?_
  subst h
  refine qS_ok (p := GoodC env Try.prog 121 _) goodC_no fun _ h => ?_
  subst h
  refine vI_ok (p := GoodC env Try.prog 121 _) goodC_no fun _ h => ?_
  subst h
  refine gE_ok (p := GoodC env Try.prog 121 _) goodC_no fun h => ?_
  subst h
  exact fun_good (fun_sound envOK (cs_sound _ (by exact ⟨⟨hg_, f121.fnok⟩, ⟨f122.sound k, f122.fnok⟩, trivial⟩)) (f121i.hok g121 k) Try.func121 rfl) ((f121i.ev g121 k _ _).trans (f121i.nat g121 k _ _ _))
theorem f121i.sound (g121 : (List S79) → Int → Option (Int × (List S79))) (hg_ : SoundC env Try.prog 121 (f121i.eG g121).F) (k : Nat) : SoundC env Try.prog 121 (f121i.e g121 k).F := soundC_coer (f121i.sound0 g121 hg_ k) [[.wr 79], [.no]]
def f121i.r (k : Nat) : Nat → (List S79) → Int → Option (Int × (List S79))
  | 0 => fun _ _ => none
  | j + 1 => fun xs1 a2 => f121i (f121i.r k j) k xs1 a2
theorem f121i.all_ (k : Nat) : ∀ j, SoundC env Try.prog 121 (f121i.eG (f121i.r k j)).F
  | 0 => f121i.none_
  | j + 1 => f121i.sound (f121i.r k j) (f121i.all_ k j) k
def f121 (k : Nat) (xs1 : List S79) (a2 : Int) : Option (Int × (List S79)) := f121i.r k k xs1 a2
def f121.e (k : Nat) : Entry env := f121i.eG (f121 k)
theorem f121.sound (k : Nat) : SoundC env Try.prog 121 (f121.e k).F := f121i.all_ k k
end Go.Proofs.Ytildepkogbcdpaa.B

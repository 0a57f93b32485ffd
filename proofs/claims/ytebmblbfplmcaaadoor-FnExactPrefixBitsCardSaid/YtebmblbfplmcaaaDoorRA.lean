/- Written by a program of this session. -/
import Derived.Test.YtebmblbfplmcaaaDoorExt
import Derived.Test.YtebmblbfplmcaaaDoorBEnv
import Derived.Test.YtebmblbfplmcaaaDoorBHd
namespace Go.Proofs.YtebmblbfplmcaaaDoor.B
open Go Go.B
set_option linter.unusedVariables false
set_option linter.unusedSimpArgs false
def f57.l4.step {R : Type} (k : Nat) (rec_ : ByteArray → Int → Int → Int → (List ByteArray) → Option R) (ret : (ByteArray × Int × (List ByteArray)) → Option R) (s3 : ByteArray) (a4 : Int) (a5 : Int) (a6 : Int) (xs7 : List ByteArray) : Option R :=
  if (decide (a6 < (((ByteArray.size s3) : Nat) : Int))) = true then
    if (0 : Int) ≤ a6 then
      if a6 < ((ByteArray.size s3 : Nat) : Int) then
        if (decide ((bt s3 a6) = a4)) = true then
          if (0 : Int) ≤ a5 then
            if a5 ≤ a6 then
              if a6 ≤ ((ByteArray.size s3 : Nat) : Int) then
                if (List.length xs7 + List.length ([(ByteArray.extract s3 (Int.toNat a5) (Int.toNat a6))] : List ByteArray)) * 16 ≤ maxN then
                  rec_ s3 a4 (IntKind.i64.wrap (a6 + (1 : Int))) (IntKind.i64.wrap (a6 + (1 : Int))) (xs7 ++ ([(ByteArray.extract s3 (Int.toNat a5) (Int.toNat a6))] : List ByteArray))
                else none
              else none
            else none
          else none
        else
          rec_ s3 a4 a5 (IntKind.i64.wrap (a6 + (1 : Int))) xs7
      else none
    else none
  else
    ret (s3, a5, xs7)
def f57.l4 (k : Nat) : Nat → ByteArray → Int → Int → Int → (List ByteArray) → Option (ByteArray × Int × (List ByteArray))
  | 0, _, _, _, _, _ => none
  | j + 1, s3, a4, a5, a6, xs7 => f57.l4.step k (fun s3 a4 a5 a6 xs7 => f57.l4 k j s3 a4 a5 a6 xs7) some s3 a4 a5 a6 xs7
def f57.l4.w {R : Type} : (ByteArray × Int × (List ByteArray)) → (Exit → St env → Option R) → Option R := fun t9 K => K (.exit 0) ⟨fullT [0, 5, 6] 0 35 [.v (.c (.s (.string t9.1))), .v (.c (.row 18)), .v (.c (.s (.int .i64 t9.2.1)))], [(18, .row true 9 t9.2.2)], 450⟩
def f57.l4.st (s3 : ByteArray) (a4 : Int) (a5 : Int) (a6 : Int) (xs7 : List ByteArray) : St env := ⟨fullT [0, 1, 5, 6, 7] 0 35 [.v (.c (.s (.string s3))), .v (.c (.s (.int .u8 a4))), .v (.c (.row 18)), .v (.c (.s (.int .i64 a5))), .v (.c (.s (.int .i64 a6)))], [(18, .row true 9 xs7)], 82⟩
def f57.l4.hd (k : Nat) (ts_ : List (AV env)) (mm_ : Mem env) (n_ : Nat) : LCl env :=
  gTs LCl.no [0, 1, 5, 6, 7] 35 ts_ fun l_ => gV LCl.no l_ fun a_ l_ => rV LCl.no a_ fun v_ => vS LCl.no v_ fun s3 => gV LCl.no l_ fun a_ l_ => rV LCl.no a_ fun v_ => vI LCl.no .u8 v_ fun a4 => gV LCl.no l_ fun a_ l_ => rRow LCl.no 18 a_ <| gV LCl.no l_ fun a_ l_ => rV LCl.no a_ fun v_ => vI LCl.no .i64 v_ fun a5 => gV LCl.no l_ fun a_ l_ => rV LCl.no a_ fun v_ => vI LCl.no .i64 v_ fun a6 => gE LCl.no l_ <| mRow LCl.no 18 true 9 mm_ fun xs7 m_ => gE LCl.no m_ <| gN LCl.no 82 n_ { α := ByteArray × Int × (List ByteArray), o := f57.l4 k k s3 a4 a5 a6 xs7, w := f57.l4.w }
def f57.step {R : Type} (k : Nat) (ret : ((List ByteArray)) → Option R) (s1 : ByteArray) (a2 : Int) : Option R :=
  (f57.l4 k k s1 a2 (0 : Int) (0 : Int) ([] : List ByteArray)).bind fun t8 => if (0 : Int) ≤ t8.2.1 then
      if t8.2.1 ≤ ((ByteArray.size t8.1 : Nat) : Int) then
        if ((ByteArray.size t8.1 : Nat) : Int) ≤ ((ByteArray.size t8.1 : Nat) : Int) then
          if (List.length t8.2.2 + List.length ([(ByteArray.extract t8.1 (Int.toNat t8.2.1) (Int.toNat ((ByteArray.size t8.1 : Nat) : Int)))] : List ByteArray)) * 16 ≤ maxN then
            ret (t8.2.2 ++ ([(ByteArray.extract t8.1 (Int.toNat t8.2.1) (Int.toNat ((ByteArray.size t8.1 : Nat) : Int)))] : List ByteArray))
          else none
        else none
      else none
    else none
def f57 (k : Nat) (s1 : ByteArray) (a2 : Int) : Option ((List ByteArray)) := f57.step k some s1 a2
def f57.w {R : Type} : ((List ByteArray)) → (Res env → Option R) → Option R := fun t10 K => K ⟨.v (.c (.own true 9 t10)), [[], []]⟩
theorem f57.wn (x : ((List ByteArray))) : ∃ res, ∀ {R : Type} (K : Res env → Option R), f57.w x K = K res := by
  exact ⟨_, fun _ => rfl⟩
def f57.hd (k : Nat) (ps_ : List (P2 env)) : Cl env :=
  gC Cl.no ps_ fun p_ ps_ => qC Cl.no p_ fun c_ => qS Cl.no c_ fun v_ => vS Cl.no v_ fun s1 => gC Cl.no ps_ fun p_ ps_ => qC Cl.no p_ fun c_ => qS Cl.no c_ fun v_ => vI Cl.no .u8 v_ fun a2 => gE Cl.no ps_ <| { α := (List ByteArray), o := f57 k s1 a2, w := f57.w, nat := fun x _ => f57.wn x }
def f57.e (k : Nat) : Entry env := ⟨f57.hd k, [], []⟩
def f57.X (k : Nat) : Ctx env := { C := lookE [], L := lookE [(4, fun S => f57.l4.hd k S.ts S.m S.n)], J := lookE [], keep := lookD [(4, [0, 1, 5, 6, 7])], keepX := lookD [(4, [0, 5, 6])], span := lookN [(4, 368)], eff := fun n => memN n [], prep := lookP [], np := 0 }
theorem f57.l4.nat {R : Type} (k : Nat) (rec_ : ByteArray → Int → Int → Int → (List ByteArray) → Option (ByteArray × Int × (List ByteArray))) (g : (ByteArray × Int × (List ByteArray)) → Option R) (s3 : ByteArray) (a4 : Int) (a5 : Int) (a6 : Int) (xs7 : List ByteArray) : (f57.l4.step k rec_ some s3 a4 a5 a6 xs7).bind g = f57.l4.step k (fun s3 a4 a5 a6 xs7 => (rec_ s3 a4 a5 a6 xs7).bind g) g s3 a4 a5 a6 xs7 := by
  simp only [f57.l4.step, bind_ite, bind_sum, Option.bind_assoc, Option.bind_some, Option.bind_none]
theorem f57.l4.good (k : Nat) (s3 : ByteArray) (a4 : Int) (a5 : Int) (a6 : Int) (xs7 : List ByteArray) : GoodL (f57.X k) (nthC 0 (loopsOf (bodyOf Tryd.f57))) (f57.l4.st s3 a4 a5 a6 xs7) { α := (ByteArray × Int × (List ByteArray)), o := f57.l4 k k s3 a4 a5 a6 xs7, w := f57.l4.w } :=
  loop_good (ι := ByteArray × Int × Int × Int × (List ByteArray)) (α := (ByteArray × Int × (List ByteArray))) (fun i => f57.l4.st i.1 i.2.1 i.2.2.1 i.2.2.2.1 i.2.2.2.2) (fun j i => f57.l4 k j i.1 i.2.1 i.2.2.1 i.2.2.2.1 i.2.2.2.2) f57.l4.w (fun rec_ ret i => f57.l4.step k (fun s3 a4 a5 a6 xs7 => rec_ (s3, a4, a5, a6, xs7)) ret i.1 i.2.1 i.2.2.1 i.2.2.2.1 i.2.2.2.2)
    (fun _ => rfl) (fun _ _ => rfl) (fun rec_ g i => f57.l4.nat k _ g i.1 i.2.1 i.2.2.1 i.2.2.2.1 i.2.2.2.2) (fun {R} i0 i rec_ K => by kernel_rfl) k (s3, a4, a5, a6, xs7)
theorem f57.l4.all (k : Nat) (S : St env) : GoodL (f57.X k) (nthC 0 (loopsOf (bodyOf Tryd.f57))) S (f57.l4.hd k S.ts S.m S.n) := by
  obtain ⟨ts_, m_, n_⟩ := S
  show GoodL _ _ _ (f57.l4.hd k ts_ m_ n_)
  unfold f57.l4.hd
  refine gTs_ok (p := GoodL _ _ _) goodL_no fun _ h => ?_
  subst h
  refine gV_ok (p := GoodL _ _ _) goodL_no fun _ _ h => ?_
  subst h
  refine rV_ok (p := GoodL _ _ _) goodL_no fun _ h => ?_
  subst h
  refine vS_ok (p := GoodL _ _ _) goodL_no fun _ h => ?_
  subst h
  refine gV_ok (p := GoodL _ _ _) goodL_no fun _ _ h => ?_
  subst h
  refine rV_ok (p := GoodL _ _ _) goodL_no fun _ h => ?_
  subst h
  refine vI_ok (p := GoodL _ _ _) goodL_no fun _ h => ?_
  subst h
  refine gV_ok (p := GoodL _ _ _) goodL_no fun _ _ h => ?_
  subst h
  refine rRow_ok (p := GoodL _ _ _) goodL_no fun h => ?_
  subst h
  refine gV_ok (p := GoodL _ _ _) goodL_no fun _ _ h => ?_
  subst h
  refine rV_ok (p := GoodL _ _ _) goodL_no fun _ h => ?_
  subst h
  refine vI_ok (p := GoodL _ _ _) goodL_no fun _ h => ?_
  subst h
  refine gV_ok (p := GoodL _ _ _) goodL_no fun _ _ h => ?_
  subst h
  refine rV_ok (p := GoodL _ _ _) goodL_no fun _ h => ?_
  subst h
  refine vI_ok (p := GoodL _ _ _) goodL_no fun _ h => ?_
  subst h
  refine gE_ok (p := GoodL _ _ _) goodL_no fun h => ?_
  subst h
  refine mRow_ok (p := GoodL _ _ _) goodL_no fun _ _ h => ?_
  subst h
  refine gE_ok (p := GoodL _ _ _) goodL_no fun h => ?_
  subst h
  refine gN_ok (p := GoodL _ _ _) goodL_no fun h => ?_
  subst h
  exact f57.l4.good k _ _ _ _ _
theorem f57.nat {R : Type} (k : Nat) (g : ((List ByteArray)) → Option R) (s1 : ByteArray) (a2 : Int) : f57.step k g s1 a2 = (f57 k s1 a2).bind g := by
  simp only [f57, f57.step, bind_ite, bind_sum, Option.bind_assoc, Option.bind_some, Option.bind_none]
theorem f57.ev (k : Nat) (s1 : ByteArray) (a2 : Int) : evF (f57.X k) (bodyOf Tryd.f57) Tryd.f57.ntmps Tryd.f57.results.toList [.v (.c (.s (.string s1))), .v (.c (.s (.int .u8 a2)))] = f57.step k (fun x => f57.w x some) s1 a2 := by kernel_rfl
theorem f57.hok (k : Nat) : HOK (f57.X k) (bodyOf Tryd.f57) where
  l := allP_mem (by exact ⟨ls_of (h0 := fun S => f57.l4.hd k S.ts S.m S.n) (by kernel_rfl) (f57.l4.all k), trivial⟩)
  j := allP_mem (by exact trivial)
theorem f57.sound (k : Nat) : SoundC env Tryd.prog 57 ((f57.e k).F) := by
  intro ps_
  show GoodC _ _ _ ps_ (f57.hd k ps_)
  unfold f57.hd
  refine gC_ok (p := GoodC env Tryd.prog 57 _) goodC_no fun _ _ h => ?_
  subst h
  refine qC_ok (p := GoodC env Tryd.prog 57 _) goodC_no fun _ h => ?_
  subst h
  refine qS_ok (p := GoodC env Tryd.prog 57 _) goodC_no fun _ h => ?_
  subst h
  refine vS_ok (p := GoodC env Tryd.prog 57 _) goodC_no fun _ h => ?_
  subst h
  refine gC_ok (p := GoodC env Tryd.prog 57 _) goodC_no fun _ _ h => ?_
  subst h
  refine qC_ok (p := GoodC env Tryd.prog 57 _) goodC_no fun _ h => ?_
  subst h
  refine qS_ok (p := GoodC env Tryd.prog 57 _) goodC_no fun _ h => ?_
  subst h
  refine vI_ok (p := GoodC env Tryd.prog 57 _) goodC_no fun _ h => ?_
  subst h
  refine gE_ok (p := GoodC env Tryd.prog 57 _) goodC_no fun h => ?_
  subst h
  exact fun_good (fun_sound envOK (cs_sound _ (by exact trivial)) (f57.hok k) Tryd.func57 rfl) ((f57.ev k _ _).trans (f57.nat k _ _ _))
theorem f57.says (k : Nat) (s1 : ByteArray) (a2 : Int) (t11 : (List ByteArray)) (h_ : f57 k s1 a2 = some t11) : SoundAt env Tryd.prog 57 [.v (.c (.s (.string s1))), .v (.c (.s (.int .u8 a2)))] ⟨.v (.c (.own true 9 t11)), [[], []]⟩ :=
  fun_sound envOK (cs_sound _ (by exact trivial)) (f57.hok k) Tryd.func57 rfl _ _ (((f57.ev k s1 a2).trans (f57.nat k _ s1 a2)).trans (by rw [h_]; rfl))
theorem f57.fnok : FnOK Tryd.prog 57 := fn_ok Tryd.func57 (by kernel_rfl) rfl
def f38.l9.step {R : Type} (k : Nat) (rec_ : ByteArray → Int → Int → Int → Option R) (ret : ((Int × Bool × Int × Int) ⊕ (Int × Int)) → Option R) (s2 : ByteArray) (a3 : Int) (a4 : Int) (a5 : Int) : Option R :=
  if (decide (a5 < (((ByteArray.size s2) : Nat) : Int))) = true then
    if (0 : Int) ≤ a5 then
      if a5 < ((ByteArray.size s2 : Nat) : Int) then
        if (decide ((bt s2 a5) < (48 : Int))) = false then
          if (0 : Int) ≤ a5 then
            if a5 < ((ByteArray.size s2 : Nat) : Int) then
              if (decide ((bt s2 a5) > (57 : Int))) = true then
                ret (.inl ((0 : Int), false, a3, a4))
              else
                if (0 : Int) ≤ a5 then
                  if a5 < ((ByteArray.size s2 : Nat) : Int) then
                    rec_ s2 a3 (IntKind.i64.wrap ((IntKind.i64.wrap ((IntKind.i64.wrap (a4 * (10 : Int))) + (IntKind.i64.wrap (bt s2 a5)))) - (48 : Int))) (IntKind.i64.wrap (a5 + (1 : Int)))
                  else none
                else none
            else none
          else none
        else
          ret (.inl ((0 : Int), false, a3, a4))
      else none
    else none
  else
    ret (.inr (a3, a4))
def f38.l9 (k : Nat) : Nat → ByteArray → Int → Int → Int → Option ((Int × Bool × Int × Int) ⊕ (Int × Int))
  | 0, _, _, _, _ => none
  | j + 1, s2, a3, a4, a5 => f38.l9.step k (fun s2 a3 a4 a5 => f38.l9 k j s2 a3 a4 a5) some s2 a3 a4 a5
def f38.l9.w {R : Type} : ((Int × Bool × Int × Int) ⊕ (Int × Int)) → (Exit → St env → Option R) → Option R := fun x K => Sum.elim (fun t20 => K .ret ⟨fullT [2, 3, 4, 5] 0 66 [.v (.c (.s (.int .i64 t20.1))), .v (.c (.s (.bool t20.2.1))), .v (.c (.s (.int .i64 t20.2.2.1))), .v (.c (.s (.int .i64 t20.2.2.2)))], [], 1073⟩) (fun t21 => K (.exit 0) ⟨fullT [4, 5] 0 66 [.v (.c (.s (.int .i64 t21.1))), .v (.c (.s (.int .i64 t21.2)))], [], 1073⟩) x
def f38.l9.st (s2 : ByteArray) (a3 : Int) (a4 : Int) (a5 : Int) : St env := ⟨fullT [0, 4, 5, 6] 0 66 [.v (.c (.s (.string s2))), .v (.c (.s (.int .i64 a3))), .v (.c (.s (.int .i64 a4))), .v (.c (.s (.int .i64 a5)))], [], 625⟩
def f38.l9_1.step {R : Type} (k : Nat) (rec_ : ByteArray → Int → Int → Int → Option R) (ret : ((Int × Bool × Int × Int) ⊕ (Int × Int)) → Option R) (s8 : ByteArray) (a9 : Int) (a10 : Int) (a11 : Int) : Option R :=
  if (decide (a11 < (((ByteArray.size s8) : Nat) : Int))) = true then
    if (0 : Int) ≤ a11 then
      if a11 < ((ByteArray.size s8 : Nat) : Int) then
        if (decide ((bt s8 a11) < (48 : Int))) = false then
          if (0 : Int) ≤ a11 then
            if a11 < ((ByteArray.size s8 : Nat) : Int) then
              if (decide ((bt s8 a11) > (57 : Int))) = true then
                ret (.inl ((0 : Int), false, a9, a10))
              else
                if (0 : Int) ≤ a11 then
                  if a11 < ((ByteArray.size s8 : Nat) : Int) then
                    rec_ s8 a9 (IntKind.i64.wrap ((IntKind.i64.wrap ((IntKind.i64.wrap (a10 * (10 : Int))) + (IntKind.i64.wrap (bt s8 a11)))) - (48 : Int))) (IntKind.i64.wrap (a11 + (1 : Int)))
                  else none
                else none
            else none
          else none
        else
          ret (.inl ((0 : Int), false, a9, a10))
      else none
    else none
  else
    ret (.inr (a9, a10))
def f38.l9_1 (k : Nat) : Nat → ByteArray → Int → Int → Int → Option ((Int × Bool × Int × Int) ⊕ (Int × Int))
  | 0, _, _, _, _ => none
  | j + 1, s8, a9, a10, a11 => f38.l9_1.step k (fun s8 a9 a10 a11 => f38.l9_1 k j s8 a9 a10 a11) some s8 a9 a10 a11
def f38.l9_1.w {R : Type} : ((Int × Bool × Int × Int) ⊕ (Int × Int)) → (Exit → St env → Option R) → Option R := fun x K => Sum.elim (fun t22 => K .ret ⟨fullT [2, 3, 4, 5] 0 66 [.v (.c (.s (.int .i64 t22.1))), .v (.c (.s (.bool t22.2.1))), .v (.c (.s (.int .i64 t22.2.2.1))), .v (.c (.s (.int .i64 t22.2.2.2)))], [], 1009⟩) (fun t23 => K (.exit 0) ⟨fullT [4, 5] 0 66 [.v (.c (.s (.int .i64 t23.1))), .v (.c (.s (.int .i64 t23.2)))], [], 1009⟩) x
def f38.l9_1.st (s8 : ByteArray) (a9 : Int) (a10 : Int) (a11 : Int) : St env := ⟨fullT [0, 4, 5, 6] 0 66 [.v (.c (.s (.string s8))), .v (.c (.s (.int .i64 a9))), .v (.c (.s (.int .i64 a10))), .v (.c (.s (.int .i64 a11)))], [], 561⟩
def f38.l9_1.hd (k : Nat) (ts_ : List (AV env)) (mm_ : Mem env) (n_ : Nat) : LCl env :=
  gTs LCl.no [0, 4, 5, 6] 66 ts_ fun l_ => gV LCl.no l_ fun a_ l_ => rV LCl.no a_ fun v_ => vS LCl.no v_ fun s8 => gV LCl.no l_ fun a_ l_ => rV LCl.no a_ fun v_ => vI LCl.no .i64 v_ fun a9 => gV LCl.no l_ fun a_ l_ => rV LCl.no a_ fun v_ => vI LCl.no .i64 v_ fun a10 => gV LCl.no l_ fun a_ l_ => rV LCl.no a_ fun v_ => vI LCl.no .i64 v_ fun a11 => gE LCl.no l_ <| gE LCl.no mm_ <| gN LCl.no 561 n_ { α := (Int × Bool × Int × Int) ⊕ (Int × Int), o := f38.l9_1 k k s8 a9 a10 a11, w := f38.l9_1.w }
def f38.l9.hd (k : Nat) (ts_ : List (AV env)) (mm_ : Mem env) (n_ : Nat) : LCl env :=
  gTs (f38.l9_1.hd k ts_ mm_ n_) [0, 4, 5, 6] 66 ts_ fun l_ => gV (f38.l9_1.hd k ts_ mm_ n_) l_ fun a_ l_ => rV (f38.l9_1.hd k ts_ mm_ n_) a_ fun v_ => vS (f38.l9_1.hd k ts_ mm_ n_) v_ fun s2 => gV (f38.l9_1.hd k ts_ mm_ n_) l_ fun a_ l_ => rV (f38.l9_1.hd k ts_ mm_ n_) a_ fun v_ => vI (f38.l9_1.hd k ts_ mm_ n_) .i64 v_ fun a3 => gV (f38.l9_1.hd k ts_ mm_ n_) l_ fun a_ l_ => rV (f38.l9_1.hd k ts_ mm_ n_) a_ fun v_ => vI (f38.l9_1.hd k ts_ mm_ n_) .i64 v_ fun a4 => gV (f38.l9_1.hd k ts_ mm_ n_) l_ fun a_ l_ => rV (f38.l9_1.hd k ts_ mm_ n_) a_ fun v_ => vI (f38.l9_1.hd k ts_ mm_ n_) .i64 v_ fun a5 => gE (f38.l9_1.hd k ts_ mm_ n_) l_ <| gE (f38.l9_1.hd k ts_ mm_ n_) mm_ <| gN (f38.l9_1.hd k ts_ mm_ n_) 625 n_ { α := (Int × Bool × Int × Int) ⊕ (Int × Int), o := f38.l9 k k s2 a3 a4 a5, w := f38.l9.w }
def f38.step {R : Type} (k : Nat) (ret : (Int × Bool) → Option R) (s1 : ByteArray) : Option R :=
  if (decide ((((ByteArray.size s1) : Nat) : Int) > (0 : Int))) = true then
    if (0 : Int) < ((ByteArray.size s1 : Nat) : Int) then
      if (decide ((bt s1 (0 : Int)) = (45 : Int))) = true then
        if (1 : Int) ≤ ((ByteArray.size s1 : Nat) : Int) then
          if ((ByteArray.size s1 : Nat) : Int) ≤ ((ByteArray.size s1 : Nat) : Int) then
            if (decide ((((ByteArray.size (ByteArray.extract s1 1 (Int.toNat ((ByteArray.size s1 : Nat) : Int)))) : Nat) : Int) = (0 : Int))) = false then
              if (decide ((((ByteArray.size (ByteArray.extract s1 1 (Int.toNat ((ByteArray.size s1 : Nat) : Int)))) : Nat) : Int) > (18 : Int))) = false then
                if (0 : Int) < ((ByteArray.size (ByteArray.extract s1 1 (Int.toNat ((ByteArray.size s1 : Nat) : Int))) : Nat) : Int) then
                  if (decide ((bt (ByteArray.extract s1 1 (Int.toNat ((ByteArray.size s1 : Nat) : Int))) (0 : Int)) = (48 : Int))) = true then
                    if (decide ((((ByteArray.size (ByteArray.extract s1 1 (Int.toNat ((ByteArray.size s1 : Nat) : Int)))) : Nat) : Int) > (1 : Int))) = false then
                      ret ((0 : Int), false)
                    else
                      ret ((0 : Int), false)
                  else
                    (f38.l9 k k (ByteArray.extract s1 1 (Int.toNat ((ByteArray.size s1 : Nat) : Int))) (-1 : Int) (0 : Int) (0 : Int)).bind (Sum.elim (fun t6 => ret (t6.1, t6.2.1)) (fun t7 => ret ((IntKind.i64.wrap (t7.1 * t7.2)), true)))
                else none
              else
                ret ((0 : Int), false)
            else
              ret ((0 : Int), false)
          else none
        else none
      else
        if (decide ((((ByteArray.size s1) : Nat) : Int) = (0 : Int))) = false then
          if (decide ((((ByteArray.size s1) : Nat) : Int) > (18 : Int))) = false then
            if (0 : Int) < ((ByteArray.size s1 : Nat) : Int) then
              if (decide ((bt s1 (0 : Int)) = (48 : Int))) = true then
                if (decide ((((ByteArray.size s1) : Nat) : Int) > (1 : Int))) = false then
                  (f38.l9_1 k k s1 (1 : Int) (0 : Int) (0 : Int)).bind (Sum.elim (fun t12 => ret (t12.1, t12.2.1)) (fun t13 => ret ((IntKind.i64.wrap (t13.1 * t13.2)), true)))
                else
                  ret ((0 : Int), false)
              else
                (f38.l9_1 k k s1 (1 : Int) (0 : Int) (0 : Int)).bind (Sum.elim (fun t14 => ret (t14.1, t14.2.1)) (fun t15 => ret ((IntKind.i64.wrap (t15.1 * t15.2)), true)))
            else none
          else
            ret ((0 : Int), false)
        else
          ret ((0 : Int), false)
    else none
  else
    if (decide ((((ByteArray.size s1) : Nat) : Int) = (0 : Int))) = false then
      if (decide ((((ByteArray.size s1) : Nat) : Int) > (18 : Int))) = false then
        if (0 : Int) < ((ByteArray.size s1 : Nat) : Int) then
          if (decide ((bt s1 (0 : Int)) = (48 : Int))) = true then
            if (decide ((((ByteArray.size s1) : Nat) : Int) > (1 : Int))) = false then
              (f38.l9_1 k k s1 (1 : Int) (0 : Int) (0 : Int)).bind (Sum.elim (fun t16 => ret (t16.1, t16.2.1)) (fun t17 => ret ((IntKind.i64.wrap (t17.1 * t17.2)), true)))
            else
              ret ((0 : Int), false)
          else
            (f38.l9_1 k k s1 (1 : Int) (0 : Int) (0 : Int)).bind (Sum.elim (fun t18 => ret (t18.1, t18.2.1)) (fun t19 => ret ((IntKind.i64.wrap (t19.1 * t19.2)), true)))
        else none
      else
        ret ((0 : Int), false)
    else
      ret ((0 : Int), false)
def f38 (k : Nat) (s1 : ByteArray) : Option (Int × Bool) := f38.step k some s1
def f38.w {R : Type} : (Int × Bool) → (Res env → Option R) → Option R := fun t24 K => K ⟨.tup [.c (.s (.int .i64 t24.1)), .c (.s (.bool t24.2))], [[]]⟩
theorem f38.wn (x : (Int × Bool)) : ∃ res, ∀ {R : Type} (K : Res env → Option R), f38.w x K = K res := by
  exact ⟨_, fun _ => rfl⟩
def f38.hd (k : Nat) (ps_ : List (P2 env)) : Cl env :=
  gC Cl.no ps_ fun p_ ps_ => qC Cl.no p_ fun c_ => qS Cl.no c_ fun v_ => vS Cl.no v_ fun s1 => gE Cl.no ps_ <| { α := Int × Bool, o := f38 k s1, w := f38.w, nat := fun x _ => f38.wn x }
def f38.e (k : Nat) : Entry env := ⟨f38.hd k, [], []⟩
def f38.X (k : Nat) : Ctx env := { C := lookE [], L := lookE [(9, fun S => f38.l9.hd k S.ts S.m S.n)], J := lookE [], keep := lookD [(9, [0, 4, 5, 6])], keepX := lookD [(9, [2, 3, 4, 5])], span := lookN [(9, 448)], eff := fun n => memN n [], prep := lookP [], np := 0 }
theorem f38.l9_1.nat {R : Type} (k : Nat) (rec_ : ByteArray → Int → Int → Int → Option ((Int × Bool × Int × Int) ⊕ (Int × Int))) (g : ((Int × Bool × Int × Int) ⊕ (Int × Int)) → Option R) (s8 : ByteArray) (a9 : Int) (a10 : Int) (a11 : Int) : (f38.l9_1.step k rec_ some s8 a9 a10 a11).bind g = f38.l9_1.step k (fun s8 a9 a10 a11 => (rec_ s8 a9 a10 a11).bind g) g s8 a9 a10 a11 := by
  simp only [f38.l9_1.step, bind_ite, bind_sum, Option.bind_assoc, Option.bind_some, Option.bind_none]
theorem f38.l9_1.good (k : Nat) (s8 : ByteArray) (a9 : Int) (a10 : Int) (a11 : Int) : GoodL (f38.X k) (nthC 0 (loopsOf (bodyOf Tryd.f38))) (f38.l9_1.st s8 a9 a10 a11) { α := ((Int × Bool × Int × Int) ⊕ (Int × Int)), o := f38.l9_1 k k s8 a9 a10 a11, w := f38.l9_1.w } :=
  loop_good (ι := ByteArray × Int × Int × Int) (α := ((Int × Bool × Int × Int) ⊕ (Int × Int))) (fun i => f38.l9_1.st i.1 i.2.1 i.2.2.1 i.2.2.2) (fun j i => f38.l9_1 k j i.1 i.2.1 i.2.2.1 i.2.2.2) f38.l9_1.w (fun rec_ ret i => f38.l9_1.step k (fun s8 a9 a10 a11 => rec_ (s8, a9, a10, a11)) ret i.1 i.2.1 i.2.2.1 i.2.2.2)
    (fun _ => rfl) (fun _ _ => rfl) (fun rec_ g i => f38.l9_1.nat k _ g i.1 i.2.1 i.2.2.1 i.2.2.2) (fun {R} i0 i rec_ K => by kernel_rfl) k (s8, a9, a10, a11)
theorem f38.l9_1.all (k : Nat) (S : St env) : GoodL (f38.X k) (nthC 0 (loopsOf (bodyOf Tryd.f38))) S (f38.l9_1.hd k S.ts S.m S.n) := by
  obtain ⟨ts_, m_, n_⟩ := S
  show GoodL _ _ _ (f38.l9_1.hd k ts_ m_ n_)
  unfold f38.l9_1.hd
  refine gTs_ok (p := GoodL _ _ _) goodL_no fun _ h => ?_
  subst h
  refine gV_ok (p := GoodL _ _ _) goodL_no fun _ _ h => ?_
  subst h
  refine rV_ok (p := GoodL _ _ _) goodL_no fun _ h => ?_
  subst h
  refine vS_ok (p := GoodL _ _ _) goodL_no fun _ h => ?_
  subst h
  refine gV_ok (p := GoodL _ _ _) goodL_no fun _ _ h => ?_
  subst h
  refine rV_ok (p := GoodL _ _ _) goodL_no fun _ h => ?_
  subst h
  refine vI_ok (p := GoodL _ _ _) goodL_no fun _ h => ?_
  subst h
  refine gV_ok (p := GoodL _ _ _) goodL_no fun _ _ h => ?_
  subst h
  refine rV_ok (p := GoodL _ _ _) goodL_no fun _ h => ?_
  subst h
  refine vI_ok (p := GoodL _ _ _) goodL_no fun _ h => ?_
  subst h
  refine gV_ok (p := GoodL _ _ _) goodL_no fun _ _ h => ?_
  subst h
  refine rV_ok (p := GoodL _ _ _) goodL_no fun _ h => ?_
  subst h
  refine vI_ok (p := GoodL _ _ _) goodL_no fun _ h => ?_
  subst h
  refine gE_ok (p := GoodL _ _ _) goodL_no fun h => ?_
  subst h
  refine gE_ok (p := GoodL _ _ _) goodL_no fun h => ?_
  subst h
  refine gN_ok (p := GoodL _ _ _) goodL_no fun h => ?_
  subst h
  exact f38.l9_1.good k _ _ _ _
theorem f38.l9.nat {R : Type} (k : Nat) (rec_ : ByteArray → Int → Int → Int → Option ((Int × Bool × Int × Int) ⊕ (Int × Int))) (g : ((Int × Bool × Int × Int) ⊕ (Int × Int)) → Option R) (s2 : ByteArray) (a3 : Int) (a4 : Int) (a5 : Int) : (f38.l9.step k rec_ some s2 a3 a4 a5).bind g = f38.l9.step k (fun s2 a3 a4 a5 => (rec_ s2 a3 a4 a5).bind g) g s2 a3 a4 a5 := by
  simp only [f38.l9.step, bind_ite, bind_sum, Option.bind_assoc, Option.bind_some, Option.bind_none]
theorem f38.l9.good (k : Nat) (s2 : ByteArray) (a3 : Int) (a4 : Int) (a5 : Int) : GoodL (f38.X k) (nthC 0 (loopsOf (bodyOf Tryd.f38))) (f38.l9.st s2 a3 a4 a5) { α := ((Int × Bool × Int × Int) ⊕ (Int × Int)), o := f38.l9 k k s2 a3 a4 a5, w := f38.l9.w } :=
  loop_good (ι := ByteArray × Int × Int × Int) (α := ((Int × Bool × Int × Int) ⊕ (Int × Int))) (fun i => f38.l9.st i.1 i.2.1 i.2.2.1 i.2.2.2) (fun j i => f38.l9 k j i.1 i.2.1 i.2.2.1 i.2.2.2) f38.l9.w (fun rec_ ret i => f38.l9.step k (fun s2 a3 a4 a5 => rec_ (s2, a3, a4, a5)) ret i.1 i.2.1 i.2.2.1 i.2.2.2)
    (fun _ => rfl) (fun _ _ => rfl) (fun rec_ g i => f38.l9.nat k _ g i.1 i.2.1 i.2.2.1 i.2.2.2) (fun {R} i0 i rec_ K => by kernel_rfl) k (s2, a3, a4, a5)
theorem f38.l9.all (k : Nat) (S : St env) : GoodL (f38.X k) (nthC 0 (loopsOf (bodyOf Tryd.f38))) S (f38.l9.hd k S.ts S.m S.n) := by
  obtain ⟨ts_, m_, n_⟩ := S
  have hN_ := f38.l9_1.all k ⟨ts_, m_, n_⟩
  show GoodL _ _ _ (f38.l9.hd k ts_ m_ n_)
  unfold f38.l9.hd
  refine gTs_ok (p := GoodL _ _ _) hN_ fun _ h => ?_
  subst h
  refine gV_ok (p := GoodL _ _ _) hN_ fun _ _ h => ?_
  subst h
  refine rV_ok (p := GoodL _ _ _) hN_ fun _ h => ?_
  subst h
  refine vS_ok (p := GoodL _ _ _) hN_ fun _ h => ?_
  subst h
  refine gV_ok (p := GoodL _ _ _) hN_ fun _ _ h => ?_
  subst h
  refine rV_ok (p := GoodL _ _ _) hN_ fun _ h => ?_
  subst h
  refine vI_ok (p := GoodL _ _ _) hN_ fun _ h => ?_
  subst h
  refine gV_ok (p := GoodL _ _ _) hN_ fun _ _ h => ?_
  subst h
  refine rV_ok (p := GoodL _ _ _) hN_ fun _ h => ?_
  subst h
  refine vI_ok (p := GoodL _ _ _) hN_ fun _ h => ?_
  subst h
  refine gV_ok (p := GoodL _ _ _) hN_ fun _ _ h => ?_
  subst h
  refine rV_ok (p := GoodL _ _ _) hN_ fun _ h => ?_
  subst h
  refine vI_ok (p := GoodL _ _ _) hN_ fun _ h => ?_
  subst h
  refine gE_ok (p := GoodL _ _ _) hN_ fun h => ?_
  subst h
  refine gE_ok (p := GoodL _ _ _) hN_ fun h => ?_
  subst h
  refine gN_ok (p := GoodL _ _ _) hN_ fun h => ?_
  subst h
  exact f38.l9.good k _ _ _ _
theorem f38.nat {R : Type} (k : Nat) (g : (Int × Bool) → Option R) (s1 : ByteArray) : f38.step k g s1 = (f38 k s1).bind g := by
  simp only [f38, f38.step, bind_ite, bind_sum, Option.bind_assoc, Option.bind_some, Option.bind_none]
theorem f38.ev (k : Nat) (s1 : ByteArray) : evF (f38.X k) (bodyOf Tryd.f38) Tryd.f38.ntmps Tryd.f38.results.toList [.v (.c (.s (.string s1)))] = f38.step k (fun x => f38.w x some) s1 := by kernel_rfl
theorem f38.hok (k : Nat) : HOK (f38.X k) (bodyOf Tryd.f38) where
  l := allP_mem (by exact ⟨ls_of (h0 := fun S => f38.l9.hd k S.ts S.m S.n) (by kernel_rfl) (f38.l9.all k), trivial⟩)
  j := allP_mem (by exact trivial)
theorem f38.sound (k : Nat) : SoundC env Tryd.prog 38 ((f38.e k).F) := by
  intro ps_
  show GoodC _ _ _ ps_ (f38.hd k ps_)
  unfold f38.hd
  refine gC_ok (p := GoodC env Tryd.prog 38 _) goodC_no fun _ _ h => ?_
  subst h
  refine qC_ok (p := GoodC env Tryd.prog 38 _) goodC_no fun _ h => ?_
  subst h
  refine qS_ok (p := GoodC env Tryd.prog 38 _) goodC_no fun _ h => ?_
  subst h
  refine vS_ok (p := GoodC env Tryd.prog 38 _) goodC_no fun _ h => ?_
  subst h
  refine gE_ok (p := GoodC env Tryd.prog 38 _) goodC_no fun h => ?_
  subst h
  exact fun_good (fun_sound envOK (cs_sound _ (by exact trivial)) (f38.hok k) Tryd.func38 rfl) ((f38.ev k _).trans (f38.nat k _ _))
theorem f38.says (k : Nat) (s1 : ByteArray) (t25 : Int × Bool) (h_ : f38 k s1 = some t25) : SoundAt env Tryd.prog 38 [.v (.c (.s (.string s1)))] ⟨.tup [.c (.s (.int .i64 t25.1)), .c (.s (.bool t25.2))], [[]]⟩ :=
  fun_sound envOK (cs_sound _ (by exact trivial)) (f38.hok k) Tryd.func38 rfl _ _ (((f38.ev k s1).trans (f38.nat k _ s1)).trans (by rw [h_]; rfl))
theorem f38.fnok : FnOK Tryd.prog 38 := fn_ok Tryd.func38 (by kernel_rfl) rfl
def f39.step {R : Type} (k : Nat) (ret : Bool → Option R) (a1 : Int) (a2 : Int) (a3 : Int) : Option R :=
  if (decide (a1 ≥ a2)) = true then
    ret (decide (a1 ≤ a3))
  else
    ret false
def f39 (k : Nat) (a1 : Int) (a2 : Int) (a3 : Int) : Option Bool := f39.step k some a1 a2 a3
def f39.w {R : Type} : Bool → (Res env → Option R) → Option R := fun t4 K => K ⟨.v (.c (.s (.bool t4))), [[], [], []]⟩
theorem f39.wn (x : Bool) : ∃ res, ∀ {R : Type} (K : Res env → Option R), f39.w x K = K res := by
  exact ⟨_, fun _ => rfl⟩
def f39.hd (k : Nat) (ps_ : List (P2 env)) : Cl env :=
  gC Cl.no ps_ fun p_ ps_ => qC Cl.no p_ fun c_ => qS Cl.no c_ fun v_ => vI Cl.no .i64 v_ fun a1 => gC Cl.no ps_ fun p_ ps_ => qC Cl.no p_ fun c_ => qS Cl.no c_ fun v_ => vI Cl.no .i64 v_ fun a2 => gC Cl.no ps_ fun p_ ps_ => qC Cl.no p_ fun c_ => qS Cl.no c_ fun v_ => vI Cl.no .i64 v_ fun a3 => gE Cl.no ps_ <| { α := Bool, o := f39 k a1 a2 a3, w := f39.w, nat := fun x _ => f39.wn x }
def f39.e (k : Nat) : Entry env := ⟨f39.hd k, [], []⟩
def f39.X (k : Nat) : Ctx env := { C := lookE [], L := lookE [], J := lookE [], keep := lookD [], keepX := lookD [], span := lookN [], eff := fun n => memN n [], prep := lookP [], np := 0 }
theorem f39.nat {R : Type} (k : Nat) (g : Bool → Option R) (a1 : Int) (a2 : Int) (a3 : Int) : f39.step k g a1 a2 a3 = (f39 k a1 a2 a3).bind g := by
  simp only [f39, f39.step, bind_ite, bind_sum, Option.bind_assoc, Option.bind_some, Option.bind_none]
theorem f39.ev (k : Nat) (a1 : Int) (a2 : Int) (a3 : Int) : evF (f39.X k) (bodyOf Tryd.f39) Tryd.f39.ntmps Tryd.f39.results.toList [.v (.c (.s (.int .i64 a1))), .v (.c (.s (.int .i64 a2))), .v (.c (.s (.int .i64 a3)))] = f39.step k (fun x => f39.w x some) a1 a2 a3 := by kernel_rfl
theorem f39.hok (k : Nat) : HOK (f39.X k) (bodyOf Tryd.f39) where
  l := allP_mem (by exact trivial)
  j := allP_mem (by exact trivial)
theorem f39.sound (k : Nat) : SoundC env Tryd.prog 39 ((f39.e k).F) := by
  intro ps_
  show GoodC _ _ _ ps_ (f39.hd k ps_)
  unfold f39.hd
  refine gC_ok (p := GoodC env Tryd.prog 39 _) goodC_no fun _ _ h => ?_
  subst h
  refine qC_ok (p := GoodC env Tryd.prog 39 _) goodC_no fun _ h => ?_
  subst h
  refine qS_ok (p := GoodC env Tryd.prog 39 _) goodC_no fun _ h => ?_
  subst h
  refine vI_ok (p := GoodC env Tryd.prog 39 _) goodC_no fun _ h => ?_
  subst h
  refine gC_ok (p := GoodC env Tryd.prog 39 _) goodC_no fun _ _ h => ?_
  subst h
  refine qC_ok (p := GoodC env Tryd.prog 39 _) goodC_no fun _ h => ?_
  subst h
  refine qS_ok (p := GoodC env Tryd.prog 39 _) goodC_no fun _ h => ?_
  subst h
  refine vI_ok (p := GoodC env Tryd.prog 39 _) goodC_no fun _ h => ?_
  subst h
  refine gC_ok (p := GoodC env Tryd.prog 39 _) goodC_no fun _ _ h => ?_
  subst h
  refine qC_ok (p := GoodC env Tryd.prog 39 _) goodC_no fun _ h => ?_
  subst h
  refine qS_ok (p := GoodC env Tryd.prog 39 _) goodC_no fun _ h => ?_
  subst h
  refine vI_ok (p := GoodC env Tryd.prog 39 _) goodC_no fun _ h => ?_
  subst h
  refine gE_ok (p := GoodC env Tryd.prog 39 _) goodC_no fun h => ?_
  subst h
  exact fun_good (fun_sound envOK (cs_sound _ (by exact trivial)) (f39.hok k) Tryd.func39 rfl) ((f39.ev k _ _ _).trans (f39.nat k _ _ _ _))
theorem f39.says (k : Nat) (a1 : Int) (a2 : Int) (a3 : Int) (t5 : Bool) (h_ : f39 k a1 a2 a3 = some t5) : SoundAt env Tryd.prog 39 [.v (.c (.s (.int .i64 a1))), .v (.c (.s (.int .i64 a2))), .v (.c (.s (.int .i64 a3)))] ⟨.v (.c (.s (.bool t5))), [[], [], []]⟩ :=
  fun_sound envOK (cs_sound _ (by exact trivial)) (f39.hok k) Tryd.func39 rfl _ _ (((f39.ev k a1 a2 a3).trans (f39.nat k _ a1 a2 a3)).trans (by rw [h_]; rfl))
theorem f39.fnok : FnOK Tryd.prog 39 := fn_ok Tryd.func39 (by kernel_rfl) rfl
def f34.l4.step {R : Type} (k : Nat) (rec_ : Int → (List Int) → (List ByteArray) → Option R) (ret : ((ByteArray × Bool × (List Int)) ⊕ ((List Int))) → Option R) (a3 : Int) (xs4 : List Int) (xs5 : List ByteArray) : Option R :=
  if (decide (a3 < (((List.length xs5) : Nat) : Int))) = true then
    if (0 : Int) ≤ a3 then
      if a3 < ((List.length xs5 : Nat) : Int) then
        (f38 k (List.getD xs5 (Int.toNat a3) ByteArray.empty)).bind fun t6 => if (!t6.2) = false then
            (f39 k t6.1 (0 : Int) (255 : Int)).bind fun t7 => if (!t7) = true then
                ret (.inl ((⟨#[]⟩ : ByteArray), false, xs4))
              else
                if (List.length xs4 + List.length ([(IntKind.u8.wrap t6.1)] : List Int)) * 1 ≤ maxN then
                  rec_ (IntKind.i64.wrap (a3 + (1 : Int))) (xs4 ++ ([(IntKind.u8.wrap t6.1)] : List Int)) xs5
                else none
          else
            ret (.inl ((⟨#[]⟩ : ByteArray), false, xs4))
      else none
    else none
  else
    ret (.inr xs4)
def f34.l4 (k : Nat) : Nat → Int → (List Int) → (List ByteArray) → Option ((ByteArray × Bool × (List Int)) ⊕ ((List Int)))
  | 0, _, _, _ => none
  | j + 1, a3, xs4, xs5 => f34.l4.step k (fun a3 xs4 xs5 => f34.l4 k j a3 xs4 xs5) some a3 xs4 xs5
def f34.l4.w {R : Type} : ((ByteArray × Bool × (List Int)) ⊕ ((List Int))) → (Exit → St env → Option R) → Option R := fun x K => Sum.elim (fun t10 => K .ret ⟨fullT [2, 3, 4] 0 43 [.v (.c (.s (.string t10.1))), .v (.c (.s (.bool t10.2.1))), .v (.c (.row 33))], [(33, .row true 5 t10.2.2)], 641⟩) (fun t11 => K (.exit 0) ⟨fullT [4] 0 43 [.v (.c (.row 33))], [(33, .row true 5 t11)], 641⟩) x
def f34.l4.st (a3 : Int) (xs4 : List Int) (xs5 : List ByteArray) : St env := ⟨fullT [4, 5, 6] 0 43 [.v (.c (.row 33)), .v (.c (.row 81)), .v (.c (.s (.int .i64 a3)))], [(33, .row true 5 xs4), (81, .row true 9 xs5)], 129⟩
def f34.l4.hd (k : Nat) (ts_ : List (AV env)) (mm_ : Mem env) (n_ : Nat) : LCl env :=
  gTs LCl.no [4, 5, 6] 43 ts_ fun l_ => gV LCl.no l_ fun a_ l_ => rRow LCl.no 33 a_ <| gV LCl.no l_ fun a_ l_ => rRow LCl.no 81 a_ <| gV LCl.no l_ fun a_ l_ => rV LCl.no a_ fun v_ => vI LCl.no .i64 v_ fun a3 => gE LCl.no l_ <| mRow LCl.no 33 true 5 mm_ fun xs4 m_ => mRow LCl.no 81 true 9 m_ fun xs5 m_ => gE LCl.no m_ <| gN LCl.no 129 n_ { α := (ByteArray × Bool × (List Int)) ⊕ ((List Int)), o := f34.l4 k k a3 xs4 xs5, w := f34.l4.w }
def f34.step {R : Type} (k : Nat) (ret : (ByteArray × Bool) → Option R) (s1 : ByteArray) : Option R :=
  (f57 k s1 (46 : Int)).bind fun t2 => (f34.l4 k k (0 : Int) ([] : List Int) t2).bind (Sum.elim (fun t8 => ret (t8.1, t8.2.1)) (fun t9 => ret ((strOf t9), (decide ((((List.length t9) : Nat) : Int) = (4 : Int))))))
def f34 (k : Nat) (s1 : ByteArray) : Option (ByteArray × Bool) := f34.step k some s1
def f34.w {R : Type} : (ByteArray × Bool) → (Res env → Option R) → Option R := fun t12 K => K ⟨.tup [.c (.s (.string t12.1)), .c (.s (.bool t12.2))], [[]]⟩
theorem f34.wn (x : (ByteArray × Bool)) : ∃ res, ∀ {R : Type} (K : Res env → Option R), f34.w x K = K res := by
  exact ⟨_, fun _ => rfl⟩
def f34.hd (k : Nat) (ps_ : List (P2 env)) : Cl env :=
  gC Cl.no ps_ fun p_ ps_ => qC Cl.no p_ fun c_ => qS Cl.no c_ fun v_ => vS Cl.no v_ fun s1 => gE Cl.no ps_ <| { α := ByteArray × Bool, o := f34 k s1, w := f34.w, nat := fun x _ => f34.wn x }
def f34.e (k : Nat) : Entry env := ⟨f34.hd k, [], []⟩
def f34.X (k : Nat) : Ctx env := { C := lookE [(38, f38.e k), (39, f39.e k), (57, f57.e k)], L := lookE [(4, fun S => f34.l4.hd k S.ts S.m S.n)], J := lookE [], keep := lookD [(4, [4, 5, 6])], keepX := lookD [(4, [2, 3, 4])], span := lookN [(4, 512)], eff := fun n => memN n [], prep := lookP [], np := 0 }
theorem f34.l4.nat {R : Type} (k : Nat) (rec_ : Int → (List Int) → (List ByteArray) → Option ((ByteArray × Bool × (List Int)) ⊕ ((List Int)))) (g : ((ByteArray × Bool × (List Int)) ⊕ ((List Int))) → Option R) (a3 : Int) (xs4 : List Int) (xs5 : List ByteArray) : (f34.l4.step k rec_ some a3 xs4 xs5).bind g = f34.l4.step k (fun a3 xs4 xs5 => (rec_ a3 xs4 xs5).bind g) g a3 xs4 xs5 := by
  simp only [f34.l4.step, bind_ite, bind_sum, Option.bind_assoc, Option.bind_some, Option.bind_none]
theorem f34.l4.good (k : Nat) (a3 : Int) (xs4 : List Int) (xs5 : List ByteArray) : GoodL (f34.X k) (nthC 0 (loopsOf (bodyOf Tryd.f34))) (f34.l4.st a3 xs4 xs5) { α := ((ByteArray × Bool × (List Int)) ⊕ ((List Int))), o := f34.l4 k k a3 xs4 xs5, w := f34.l4.w } :=
  loop_good (ι := Int × (List Int) × (List ByteArray)) (α := ((ByteArray × Bool × (List Int)) ⊕ ((List Int)))) (fun i => f34.l4.st i.1 i.2.1 i.2.2) (fun j i => f34.l4 k j i.1 i.2.1 i.2.2) f34.l4.w (fun rec_ ret i => f34.l4.step k (fun a3 xs4 xs5 => rec_ (a3, xs4, xs5)) ret i.1 i.2.1 i.2.2)
    (fun _ => rfl) (fun _ _ => rfl) (fun rec_ g i => f34.l4.nat k _ g i.1 i.2.1 i.2.2) (fun {R} i0 i rec_ K => by kernel_rfl) k (a3, xs4, xs5)
theorem f34.l4.all (k : Nat) (S : St env) : GoodL (f34.X k) (nthC 0 (loopsOf (bodyOf Tryd.f34))) S (f34.l4.hd k S.ts S.m S.n) := by
  obtain ⟨ts_, m_, n_⟩ := S
  show GoodL _ _ _ (f34.l4.hd k ts_ m_ n_)
  unfold f34.l4.hd
  refine gTs_ok (p := GoodL _ _ _) goodL_no fun _ h => ?_
  subst h
  refine gV_ok (p := GoodL _ _ _) goodL_no fun _ _ h => ?_
  subst h
  refine rRow_ok (p := GoodL _ _ _) goodL_no fun h => ?_
  subst h
  refine gV_ok (p := GoodL _ _ _) goodL_no fun _ _ h => ?_
  subst h
  refine rRow_ok (p := GoodL _ _ _) goodL_no fun h => ?_
  subst h
  refine gV_ok (p := GoodL _ _ _) goodL_no fun _ _ h => ?_
  subst h
  refine rV_ok (p := GoodL _ _ _) goodL_no fun _ h => ?_
  subst h
  refine vI_ok (p := GoodL _ _ _) goodL_no fun _ h => ?_
  subst h
  refine gE_ok (p := GoodL _ _ _) goodL_no fun h => ?_
  subst h
  refine mRow_ok (p := GoodL _ _ _) goodL_no fun _ _ h => ?_
  subst h
  refine mRow_ok (p := GoodL _ _ _) goodL_no fun _ _ h => ?_
  subst h
  refine gE_ok (p := GoodL _ _ _) goodL_no fun h => ?_
  subst h
  refine gN_ok (p := GoodL _ _ _) goodL_no fun h => ?_
  subst h
  exact f34.l4.good k _ _ _
theorem f34.nat {R : Type} (k : Nat) (g : (ByteArray × Bool) → Option R) (s1 : ByteArray) : f34.step k g s1 = (f34 k s1).bind g := by
  simp only [f34, f34.step, bind_ite, bind_sum, Option.bind_assoc, Option.bind_some, Option.bind_none]
theorem f34.ev (k : Nat) (s1 : ByteArray) : evF (f34.X k) (bodyOf Tryd.f34) Tryd.f34.ntmps Tryd.f34.results.toList [.v (.c (.s (.string s1)))] = f34.step k (fun x => f34.w x some) s1 := by kernel_rfl
theorem f34.hok (k : Nat) : HOK (f34.X k) (bodyOf Tryd.f34) where
  l := allP_mem (by exact ⟨ls_of (h0 := fun S => f34.l4.hd k S.ts S.m S.n) (by kernel_rfl) (f34.l4.all k), trivial⟩)
  j := allP_mem (by exact trivial)
theorem f34.sound (k : Nat) : SoundC env Tryd.prog 34 ((f34.e k).F) := by
  intro ps_
  show GoodC _ _ _ ps_ (f34.hd k ps_)
  unfold f34.hd
  refine gC_ok (p := GoodC env Tryd.prog 34 _) goodC_no fun _ _ h => ?_
  subst h
  refine qC_ok (p := GoodC env Tryd.prog 34 _) goodC_no fun _ h => ?_
  subst h
  refine qS_ok (p := GoodC env Tryd.prog 34 _) goodC_no fun _ h => ?_
  subst h
  refine vS_ok (p := GoodC env Tryd.prog 34 _) goodC_no fun _ h => ?_
  subst h
  refine gE_ok (p := GoodC env Tryd.prog 34 _) goodC_no fun h => ?_
  subst h
  exact fun_good (fun_sound envOK (cs_sound _ (by exact ⟨⟨f38.sound k, f38.fnok⟩, ⟨f39.sound k, f39.fnok⟩, ⟨f57.sound k, f57.fnok⟩, trivial⟩)) (f34.hok k) Tryd.func34 rfl) ((f34.ev k _).trans (f34.nat k _ _))
theorem f34.says (k : Nat) (s1 : ByteArray) (t13 : ByteArray × Bool) (h_ : f34 k s1 = some t13) : SoundAt env Tryd.prog 34 [.v (.c (.s (.string s1)))] ⟨.tup [.c (.s (.string t13.1)), .c (.s (.bool t13.2))], [[]]⟩ :=
  fun_sound envOK (cs_sound _ (by exact ⟨⟨f38.sound k, f38.fnok⟩, ⟨f39.sound k, f39.fnok⟩, ⟨f57.sound k, f57.fnok⟩, trivial⟩)) (f34.hok k) Tryd.func34 rfl _ _ (((f34.ev k s1).trans (f34.nat k _ s1)).trans (by rw [h_]; rfl))
theorem f34.fnok : FnOK Tryd.prog 34 := fn_ok Tryd.func34 (by kernel_rfl) rfl
def f68.step {R : Type} (k : Nat) (ret : Int → Option R) (a1 : Int) : Option R :=
  if (decide (a1 ≥ (48 : Int))) = true then
    if (decide (a1 ≤ (57 : Int))) = true then
      ret (IntKind.i64.wrap ((IntKind.i64.wrap a1) - (48 : Int)))
    else
      if (decide (a1 ≥ (97 : Int))) = true then
        if (decide (a1 ≤ (102 : Int))) = true then
          ret (IntKind.i64.wrap ((IntKind.i64.wrap ((IntKind.i64.wrap a1) - (97 : Int))) + (10 : Int)))
        else
          if (decide (a1 ≥ (65 : Int))) = true then
            if (decide (a1 ≤ (70 : Int))) = true then
              ret (IntKind.i64.wrap ((IntKind.i64.wrap ((IntKind.i64.wrap a1) - (65 : Int))) + (10 : Int)))
            else
              ret (-1 : Int)
          else
            ret (-1 : Int)
      else
        if (decide (a1 ≥ (65 : Int))) = true then
          if (decide (a1 ≤ (70 : Int))) = true then
            ret (IntKind.i64.wrap ((IntKind.i64.wrap ((IntKind.i64.wrap a1) - (65 : Int))) + (10 : Int)))
          else
            ret (-1 : Int)
        else
          ret (-1 : Int)
  else
    if (decide (a1 ≥ (97 : Int))) = true then
      if (decide (a1 ≤ (102 : Int))) = true then
        ret (IntKind.i64.wrap ((IntKind.i64.wrap ((IntKind.i64.wrap a1) - (97 : Int))) + (10 : Int)))
      else
        if (decide (a1 ≥ (65 : Int))) = true then
          if (decide (a1 ≤ (70 : Int))) = true then
            ret (IntKind.i64.wrap ((IntKind.i64.wrap ((IntKind.i64.wrap a1) - (65 : Int))) + (10 : Int)))
          else
            ret (-1 : Int)
        else
          ret (-1 : Int)
    else
      if (decide (a1 ≥ (65 : Int))) = true then
        if (decide (a1 ≤ (70 : Int))) = true then
          ret (IntKind.i64.wrap ((IntKind.i64.wrap ((IntKind.i64.wrap a1) - (65 : Int))) + (10 : Int)))
        else
          ret (-1 : Int)
      else
        ret (-1 : Int)
def f68 (k : Nat) (a1 : Int) : Option Int := f68.step k some a1
def f68.w {R : Type} : Int → (Res env → Option R) → Option R := fun t2 K => K ⟨.v (.c (.s (.int .i64 t2))), [[]]⟩
theorem f68.wn (x : Int) : ∃ res, ∀ {R : Type} (K : Res env → Option R), f68.w x K = K res := by
  exact ⟨_, fun _ => rfl⟩
def f68.hd (k : Nat) (ps_ : List (P2 env)) : Cl env :=
  gC Cl.no ps_ fun p_ ps_ => qC Cl.no p_ fun c_ => qS Cl.no c_ fun v_ => vI Cl.no .u8 v_ fun a1 => gE Cl.no ps_ <| { α := Int, o := f68 k a1, w := f68.w, nat := fun x _ => f68.wn x }
def f68.e (k : Nat) : Entry env := ⟨f68.hd k, [], []⟩
def f68.X (k : Nat) : Ctx env := { C := lookE [], L := lookE [], J := lookE [], keep := lookD [], keepX := lookD [], span := lookN [], eff := fun n => memN n [], prep := lookP [], np := 0 }
theorem f68.nat {R : Type} (k : Nat) (g : Int → Option R) (a1 : Int) : f68.step k g a1 = (f68 k a1).bind g := by
  simp only [f68, f68.step, bind_ite, bind_sum, Option.bind_assoc, Option.bind_some, Option.bind_none]
theorem f68.ev (k : Nat) (a1 : Int) : evF (f68.X k) (bodyOf Tryd.f68) Tryd.f68.ntmps Tryd.f68.results.toList [.v (.c (.s (.int .u8 a1)))] = f68.step k (fun x => f68.w x some) a1 := by kernel_rfl
theorem f68.hok (k : Nat) : HOK (f68.X k) (bodyOf Tryd.f68) where
  l := allP_mem (by exact trivial)
  j := allP_mem (by exact trivial)
theorem f68.sound (k : Nat) : SoundC env Tryd.prog 68 ((f68.e k).F) := by
  intro ps_
  show GoodC _ _ _ ps_ (f68.hd k ps_)
  unfold f68.hd
  refine gC_ok (p := GoodC env Tryd.prog 68 _) goodC_no fun _ _ h => ?_
  subst h
  refine qC_ok (p := GoodC env Tryd.prog 68 _) goodC_no fun _ h => ?_
  subst h
  refine qS_ok (p := GoodC env Tryd.prog 68 _) goodC_no fun _ h => ?_
  subst h
  refine vI_ok (p := GoodC env Tryd.prog 68 _) goodC_no fun _ h => ?_
  subst h
  refine gE_ok (p := GoodC env Tryd.prog 68 _) goodC_no fun h => ?_
  subst h
  exact fun_good (fun_sound envOK (cs_sound _ (by exact trivial)) (f68.hok k) Tryd.func68 rfl) ((f68.ev k _).trans (f68.nat k _ _))
theorem f68.says (k : Nat) (a1 : Int) (t3 : Int) (h_ : f68 k a1 = some t3) : SoundAt env Tryd.prog 68 [.v (.c (.s (.int .u8 a1)))] ⟨.v (.c (.s (.int .i64 t3))), [[]]⟩ :=
  fun_sound envOK (cs_sound _ (by exact trivial)) (f68.hok k) Tryd.func68 rfl _ _ (((f68.ev k a1).trans (f68.nat k _ a1)).trans (by rw [h_]; rfl))
theorem f68.fnok : FnOK Tryd.prog 68 := fn_ok Tryd.func68 (by kernel_rfl) rfl
def f58.l13.step {R : Type} (k : Nat) (rec_ : Int → ByteArray → Int → Int → (List Int) → (List ByteArray) → Option R) (ret : ((Bool × Int × Int × (List Int) × (List ByteArray)) ⊕ (Int × Int × (List Int) × (List ByteArray))) → Option R) (a6 : Int) (s7 : ByteArray) (a8 : Int) (a9 : Int) (xs10 : List Int) (xs11 : List ByteArray) : Option R :=
  if (decide (a9 < (((ByteArray.size s7) : Nat) : Int))) = true then
    if (0 : Int) ≤ a9 then
      if a9 < ((ByteArray.size s7 : Nat) : Int) then
        (f68 k (bt s7 a9)).bind fun t12 => if (decide (t12 < (0 : Int))) = true then
            ret (.inl (false, a6, a8, xs10, xs11))
          else
            rec_ a6 s7 (IntKind.i64.wrap ((IntKind.i64.wrap (a8 * (16 : Int))) + t12)) (IntKind.i64.wrap (a9 + (1 : Int))) xs10 xs11
      else none
    else none
  else
    ret (.inr (a6, a8, xs10, xs11))
def f58.l13 (k : Nat) : Nat → Int → ByteArray → Int → Int → (List Int) → (List ByteArray) → Option ((Bool × Int × Int × (List Int) × (List ByteArray)) ⊕ (Int × Int × (List Int) × (List ByteArray)))
  | 0, _, _, _, _, _, _ => none
  | j + 1, a6, s7, a8, a9, xs10, xs11 => f58.l13.step k (fun a6 s7 a8 a9 xs10 xs11 => f58.l13 k j a6 s7 a8 a9 xs10 xs11) some a6 s7 a8 a9 xs10 xs11
def f58.l13.w {R : Type} : ((Bool × Int × Int × (List Int) × (List ByteArray)) ⊕ (Int × Int × (List Int) × (List ByteArray))) → (Exit → St env → Option R) → Option R := fun x K => Sum.elim (fun t17 => K .ret ⟨fullT [2, 3, 4, 5, 6, 8] 0 66 [.v (.c (.row 33)), .v (.c (.s (.bool t17.1))), .v (.c (.row 33)), .v (.c (.row 113)), .v (.c (.s (.int .i64 t17.2.1))), .v (.c (.s (.int .i64 t17.2.2.1)))], [(33, .row true 5 t17.2.2.2.1), (113, .row true 9 t17.2.2.2.2)], 817⟩) (fun t18 => K (.exit 2) ⟨fullT [4, 5, 6, 8] 0 66 [.v (.c (.row 33)), .v (.c (.row 113)), .v (.c (.s (.int .i64 t18.1))), .v (.c (.s (.int .i64 t18.2.1)))], [(33, .row true 5 t18.2.2.1), (113, .row true 9 t18.2.2.2)], 817⟩) x
def f58.l13.st (a6 : Int) (s7 : ByteArray) (a8 : Int) (a9 : Int) (xs10 : List Int) (xs11 : List ByteArray) : St env := ⟨fullT [4, 5, 6, 7, 8, 9] 0 66 [.v (.c (.row 33)), .v (.c (.row 113)), .v (.c (.s (.int .i64 a6))), .v (.c (.s (.string s7))), .v (.c (.s (.int .i64 a8))), .v (.c (.s (.int .i64 a9)))], [(33, .row true 5 xs10), (113, .row true 9 xs11)], 465⟩
def f58.l6.step {R : Type} (k : Nat) (rec_ : Int → (List Int) → (List ByteArray) → Option R) (ret : ((Bool × (List Int)) ⊕ ((List Int))) → Option R) (a3 : Int) (xs4 : List Int) (xs5 : List ByteArray) : Option R :=
  if (decide (a3 < (((List.length xs5) : Nat) : Int))) = true then
    if (0 : Int) ≤ a3 then
      if a3 < ((List.length xs5 : Nat) : Int) then
        if (decide ((((ByteArray.size (List.getD xs5 (Int.toNat a3) ByteArray.empty)) : Nat) : Int) = (0 : Int))) = false then
          if (decide ((((ByteArray.size (List.getD xs5 (Int.toNat a3) ByteArray.empty)) : Nat) : Int) > (4 : Int))) = true then
            ret (.inl (false, xs4))
          else
            (f58.l13 k k a3 (List.getD xs5 (Int.toNat a3) ByteArray.empty) (0 : Int) (0 : Int) xs4 xs5).bind (Sum.elim (fun t13 => ret (.inl (t13.1, t13.2.2.2.1))) (fun t14 => if (List.length t14.2.2.1 + List.length ([(IntKind.u8.wrap (IntKind.i64.wrap (Int.tdiv t14.2.1 (256 : Int)))), (IntKind.u8.wrap (Int.tmod t14.2.1 (256 : Int)))] : List Int)) * 1 ≤ maxN then
                rec_ (IntKind.i64.wrap (t14.1 + (1 : Int))) (t14.2.2.1 ++ ([(IntKind.u8.wrap (IntKind.i64.wrap (Int.tdiv t14.2.1 (256 : Int)))), (IntKind.u8.wrap (Int.tmod t14.2.1 (256 : Int)))] : List Int)) t14.2.2.2
              else none))
        else
          ret (.inl (false, xs4))
      else none
    else none
  else
    ret (.inr xs4)
def f58.l6 (k : Nat) : Nat → Int → (List Int) → (List ByteArray) → Option ((Bool × (List Int)) ⊕ ((List Int)))
  | 0, _, _, _ => none
  | j + 1, a3, xs4, xs5 => f58.l6.step k (fun a3 xs4 xs5 => f58.l6 k j a3 xs4 xs5) some a3 xs4 xs5
def f58.l6.w {R : Type} : ((Bool × (List Int)) ⊕ ((List Int))) → (Exit → St env → Option R) → Option R := fun x K => Sum.elim (fun t19 => K .ret ⟨fullT [2, 3, 4] 0 66 [.v (.c (.row 33)), .v (.c (.s (.bool t19.1))), .v (.c (.row 33))], [(33, .row true 5 t19.2)], 1073⟩) (fun t20 => K (.exit 0) ⟨fullT [4] 0 66 [.v (.c (.row 33))], [(33, .row true 5 t20)], 1073⟩) x
def f58.l6.st (a3 : Int) (xs4 : List Int) (xs5 : List ByteArray) : St env := ⟨fullT [4, 5, 6] 0 66 [.v (.c (.row 33)), .v (.c (.row 113)), .v (.c (.s (.int .i64 a3)))], [(33, .row true 5 xs4), (113, .row true 9 xs5)], 161⟩
def f58.l13.hd (k : Nat) (ts_ : List (AV env)) (mm_ : Mem env) (n_ : Nat) : LCl env :=
  gTs LCl.no [4, 5, 6, 7, 8, 9] 66 ts_ fun l_ => gV LCl.no l_ fun a_ l_ => rRow LCl.no 33 a_ <| gV LCl.no l_ fun a_ l_ => rRow LCl.no 113 a_ <| gV LCl.no l_ fun a_ l_ => rV LCl.no a_ fun v_ => vI LCl.no .i64 v_ fun a6 => gV LCl.no l_ fun a_ l_ => rV LCl.no a_ fun v_ => vS LCl.no v_ fun s7 => gV LCl.no l_ fun a_ l_ => rV LCl.no a_ fun v_ => vI LCl.no .i64 v_ fun a8 => gV LCl.no l_ fun a_ l_ => rV LCl.no a_ fun v_ => vI LCl.no .i64 v_ fun a9 => gE LCl.no l_ <| mRow LCl.no 33 true 5 mm_ fun xs10 m_ => mRow LCl.no 113 true 9 m_ fun xs11 m_ => gE LCl.no m_ <| gN LCl.no 465 n_ { α := (Bool × Int × Int × (List Int) × (List ByteArray)) ⊕ (Int × Int × (List Int) × (List ByteArray)), o := f58.l13 k k a6 s7 a8 a9 xs10 xs11, w := f58.l13.w }
def f58.l6.hd (k : Nat) (ts_ : List (AV env)) (mm_ : Mem env) (n_ : Nat) : LCl env :=
  gTs LCl.no [4, 5, 6] 66 ts_ fun l_ => gV LCl.no l_ fun a_ l_ => rRow LCl.no 33 a_ <| gV LCl.no l_ fun a_ l_ => rRow LCl.no 113 a_ <| gV LCl.no l_ fun a_ l_ => rV LCl.no a_ fun v_ => vI LCl.no .i64 v_ fun a3 => gE LCl.no l_ <| mRow LCl.no 33 true 5 mm_ fun xs4 m_ => mRow LCl.no 113 true 9 m_ fun xs5 m_ => gE LCl.no m_ <| gN LCl.no 161 n_ { α := (Bool × (List Int)) ⊕ ((List Int)), o := f58.l6 k k a3 xs4 xs5, w := f58.l6.w }
def f58.step {R : Type} (k : Nat) (ret : ((List Int) × Bool) → Option R) (s1 : ByteArray) : Option R :=
  if (decide (ByteArray.toList s1 = ByteArray.toList (⟨#[]⟩ : ByteArray))) = true then
    ret (([] : List Int), true)
  else
    (f57 k s1 (58 : Int)).bind fun t2 => (f58.l6 k k (0 : Int) ([] : List Int) t2).bind (Sum.elim (fun t15 => ret (t15.2, t15.1)) (fun t16 => ret (t16, (decide ((((List.length t16) : Nat) : Int) ≤ (16 : Int))))))
def f58 (k : Nat) (s1 : ByteArray) : Option ((List Int) × Bool) := f58.step k some s1
def f58.w {R : Type} : ((List Int) × Bool) → (Res env → Option R) → Option R := fun t21 K => K ⟨.tup [.c (.own true 5 t21.1), .c (.s (.bool t21.2))], [[]]⟩
theorem f58.wn (x : ((List Int) × Bool)) : ∃ res, ∀ {R : Type} (K : Res env → Option R), f58.w x K = K res := by
  exact ⟨_, fun _ => rfl⟩
def f58.hd (k : Nat) (ps_ : List (P2 env)) : Cl env :=
  gC Cl.no ps_ fun p_ ps_ => qC Cl.no p_ fun c_ => qS Cl.no c_ fun v_ => vS Cl.no v_ fun s1 => gE Cl.no ps_ <| { α := (List Int) × Bool, o := f58 k s1, w := f58.w, nat := fun x _ => f58.wn x }
def f58.e (k : Nat) : Entry env := ⟨f58.hd k, [], []⟩
def f58.X (k : Nat) : Ctx env := { C := lookE [(57, f57.e k), (68, f68.e k)], L := lookE [(13, fun S => f58.l13.hd k S.ts S.m S.n), (6, fun S => f58.l6.hd k S.ts S.m S.n)], J := lookE [], keep := lookD [(13, [4, 5, 6, 7, 8, 9]), (6, [4, 5, 6])], keepX := lookD [(13, [2, 3, 4, 5, 6, 8]), (6, [2, 3, 4])], span := lookN [(13, 352), (6, 912)], eff := fun n => memN n [], prep := lookP [], np := 0 }
theorem f58.l13.nat {R : Type} (k : Nat) (rec_ : Int → ByteArray → Int → Int → (List Int) → (List ByteArray) → Option ((Bool × Int × Int × (List Int) × (List ByteArray)) ⊕ (Int × Int × (List Int) × (List ByteArray)))) (g : ((Bool × Int × Int × (List Int) × (List ByteArray)) ⊕ (Int × Int × (List Int) × (List ByteArray))) → Option R) (a6 : Int) (s7 : ByteArray) (a8 : Int) (a9 : Int) (xs10 : List Int) (xs11 : List ByteArray) : (f58.l13.step k rec_ some a6 s7 a8 a9 xs10 xs11).bind g = f58.l13.step k (fun a6 s7 a8 a9 xs10 xs11 => (rec_ a6 s7 a8 a9 xs10 xs11).bind g) g a6 s7 a8 a9 xs10 xs11 := by
  simp only [f58.l13.step, bind_ite, bind_sum, Option.bind_assoc, Option.bind_some, Option.bind_none]
theorem f58.l13.good (k : Nat) (a6 : Int) (s7 : ByteArray) (a8 : Int) (a9 : Int) (xs10 : List Int) (xs11 : List ByteArray) : GoodL (f58.X k) (nthC 1 (loopsOf (bodyOf Tryd.f58))) (f58.l13.st a6 s7 a8 a9 xs10 xs11) { α := ((Bool × Int × Int × (List Int) × (List ByteArray)) ⊕ (Int × Int × (List Int) × (List ByteArray))), o := f58.l13 k k a6 s7 a8 a9 xs10 xs11, w := f58.l13.w } :=
  loop_good (ι := Int × ByteArray × Int × Int × (List Int) × (List ByteArray)) (α := ((Bool × Int × Int × (List Int) × (List ByteArray)) ⊕ (Int × Int × (List Int) × (List ByteArray)))) (fun i => f58.l13.st i.1 i.2.1 i.2.2.1 i.2.2.2.1 i.2.2.2.2.1 i.2.2.2.2.2) (fun j i => f58.l13 k j i.1 i.2.1 i.2.2.1 i.2.2.2.1 i.2.2.2.2.1 i.2.2.2.2.2) f58.l13.w (fun rec_ ret i => f58.l13.step k (fun a6 s7 a8 a9 xs10 xs11 => rec_ (a6, s7, a8, a9, xs10, xs11)) ret i.1 i.2.1 i.2.2.1 i.2.2.2.1 i.2.2.2.2.1 i.2.2.2.2.2)
    (fun _ => rfl) (fun _ _ => rfl) (fun rec_ g i => f58.l13.nat k _ g i.1 i.2.1 i.2.2.1 i.2.2.2.1 i.2.2.2.2.1 i.2.2.2.2.2) (fun {R} i0 i rec_ K => by kernel_rfl) k (a6, s7, a8, a9, xs10, xs11)
theorem f58.l13.all (k : Nat) (S : St env) : GoodL (f58.X k) (nthC 1 (loopsOf (bodyOf Tryd.f58))) S (f58.l13.hd k S.ts S.m S.n) := by
  obtain ⟨ts_, m_, n_⟩ := S
  show GoodL _ _ _ (f58.l13.hd k ts_ m_ n_)
  unfold f58.l13.hd
  refine gTs_ok (p := GoodL _ _ _) goodL_no fun _ h => ?_
  subst h
  refine gV_ok (p := GoodL _ _ _) goodL_no fun _ _ h => ?_
  subst h
  refine rRow_ok (p := GoodL _ _ _) goodL_no fun h => ?_
  subst h
  refine gV_ok (p := GoodL _ _ _) goodL_no fun _ _ h => ?_
  subst h
  refine rRow_ok (p := GoodL _ _ _) goodL_no fun h => ?_
  subst h
  refine gV_ok (p := GoodL _ _ _) goodL_no fun _ _ h => ?_
  subst h
  refine rV_ok (p := GoodL _ _ _) goodL_no fun _ h => ?_
  subst h
  refine vI_ok (p := GoodL _ _ _) goodL_no fun _ h => ?_
  subst h
  refine gV_ok (p := GoodL _ _ _) goodL_no fun _ _ h => ?_
  subst h
  refine rV_ok (p := GoodL _ _ _) goodL_no fun _ h => ?_
  subst h
  refine vS_ok (p := GoodL _ _ _) goodL_no fun _ h => ?_
  subst h
  refine gV_ok (p := GoodL _ _ _) goodL_no fun _ _ h => ?_
  subst h
  refine rV_ok (p := GoodL _ _ _) goodL_no fun _ h => ?_
  subst h
  refine vI_ok (p := GoodL _ _ _) goodL_no fun _ h => ?_
  subst h
  refine gV_ok (p := GoodL _ _ _) goodL_no fun _ _ h => ?_
  subst h
  refine rV_ok (p := GoodL _ _ _) goodL_no fun _ h => ?_
  subst h
  refine vI_ok (p := GoodL _ _ _) goodL_no fun _ h => ?_
  subst h
  refine gE_ok (p := GoodL _ _ _) goodL_no fun h => ?_
  subst h
  refine mRow_ok (p := GoodL _ _ _) goodL_no fun _ _ h => ?_
  subst h
  refine mRow_ok (p := GoodL _ _ _) goodL_no fun _ _ h => ?_
  subst h
  refine gE_ok (p := GoodL _ _ _) goodL_no fun h => ?_
  subst h
  refine gN_ok (p := GoodL _ _ _) goodL_no fun h => ?_
  subst h
  exact f58.l13.good k _ _ _ _ _ _
theorem f58.l6.nat {R : Type} (k : Nat) (rec_ : Int → (List Int) → (List ByteArray) → Option ((Bool × (List Int)) ⊕ ((List Int)))) (g : ((Bool × (List Int)) ⊕ ((List Int))) → Option R) (a3 : Int) (xs4 : List Int) (xs5 : List ByteArray) : (f58.l6.step k rec_ some a3 xs4 xs5).bind g = f58.l6.step k (fun a3 xs4 xs5 => (rec_ a3 xs4 xs5).bind g) g a3 xs4 xs5 := by
  simp only [f58.l6.step, bind_ite, bind_sum, Option.bind_assoc, Option.bind_some, Option.bind_none]
theorem f58.l6.good (k : Nat) (a3 : Int) (xs4 : List Int) (xs5 : List ByteArray) : GoodL (f58.X k) (nthC 0 (loopsOf (bodyOf Tryd.f58))) (f58.l6.st a3 xs4 xs5) { α := ((Bool × (List Int)) ⊕ ((List Int))), o := f58.l6 k k a3 xs4 xs5, w := f58.l6.w } :=
  loop_good (ι := Int × (List Int) × (List ByteArray)) (α := ((Bool × (List Int)) ⊕ ((List Int)))) (fun i => f58.l6.st i.1 i.2.1 i.2.2) (fun j i => f58.l6 k j i.1 i.2.1 i.2.2) f58.l6.w (fun rec_ ret i => f58.l6.step k (fun a3 xs4 xs5 => rec_ (a3, xs4, xs5)) ret i.1 i.2.1 i.2.2)
    (fun _ => rfl) (fun _ _ => rfl) (fun rec_ g i => f58.l6.nat k _ g i.1 i.2.1 i.2.2) (fun {R} i0 i rec_ K => by kernel_rfl) k (a3, xs4, xs5)
theorem f58.l6.all (k : Nat) (S : St env) : GoodL (f58.X k) (nthC 0 (loopsOf (bodyOf Tryd.f58))) S (f58.l6.hd k S.ts S.m S.n) := by
  obtain ⟨ts_, m_, n_⟩ := S
  show GoodL _ _ _ (f58.l6.hd k ts_ m_ n_)
  unfold f58.l6.hd
  refine gTs_ok (p := GoodL _ _ _) goodL_no fun _ h => ?_
  subst h
  refine gV_ok (p := GoodL _ _ _) goodL_no fun _ _ h => ?_
  subst h
  refine rRow_ok (p := GoodL _ _ _) goodL_no fun h => ?_
  subst h
  refine gV_ok (p := GoodL _ _ _) goodL_no fun _ _ h => ?_
  subst h
  refine rRow_ok (p := GoodL _ _ _) goodL_no fun h => ?_
  subst h
  refine gV_ok (p := GoodL _ _ _) goodL_no fun _ _ h => ?_
  subst h
  refine rV_ok (p := GoodL _ _ _) goodL_no fun _ h => ?_
  subst h
  refine vI_ok (p := GoodL _ _ _) goodL_no fun _ h => ?_
  subst h
  refine gE_ok (p := GoodL _ _ _) goodL_no fun h => ?_
  subst h
  refine mRow_ok (p := GoodL _ _ _) goodL_no fun _ _ h => ?_
  subst h
  refine mRow_ok (p := GoodL _ _ _) goodL_no fun _ _ h => ?_
  subst h
  refine gE_ok (p := GoodL _ _ _) goodL_no fun h => ?_
  subst h
  refine gN_ok (p := GoodL _ _ _) goodL_no fun h => ?_
  subst h
  exact f58.l6.good k _ _ _
theorem f58.nat {R : Type} (k : Nat) (g : ((List Int) × Bool) → Option R) (s1 : ByteArray) : f58.step k g s1 = (f58 k s1).bind g := by
  simp only [f58, f58.step, bind_ite, bind_sum, Option.bind_assoc, Option.bind_some, Option.bind_none]
theorem f58.ev (k : Nat) (s1 : ByteArray) : evF (f58.X k) (bodyOf Tryd.f58) Tryd.f58.ntmps Tryd.f58.results.toList [.v (.c (.s (.string s1)))] = f58.step k (fun x => f58.w x some) s1 := by kernel_rfl
theorem f58.hok (k : Nat) : HOK (f58.X k) (bodyOf Tryd.f58) where
  l := allP_mem (by exact ⟨ls_of (h0 := fun S => f58.l6.hd k S.ts S.m S.n) (by kernel_rfl) (f58.l6.all k), ls_of (h0 := fun S => f58.l13.hd k S.ts S.m S.n) (by kernel_rfl) (f58.l13.all k), trivial⟩)
  j := allP_mem (by exact trivial)
theorem f58.sound (k : Nat) : SoundC env Tryd.prog 58 ((f58.e k).F) := by
  intro ps_
  show GoodC _ _ _ ps_ (f58.hd k ps_)
  unfold f58.hd
  refine gC_ok (p := GoodC env Tryd.prog 58 _) goodC_no fun _ _ h => ?_
  subst h
  refine qC_ok (p := GoodC env Tryd.prog 58 _) goodC_no fun _ h => ?_
  subst h
  refine qS_ok (p := GoodC env Tryd.prog 58 _) goodC_no fun _ h => ?_
  subst h
  refine vS_ok (p := GoodC env Tryd.prog 58 _) goodC_no fun _ h => ?_
  subst h
  refine gE_ok (p := GoodC env Tryd.prog 58 _) goodC_no fun h => ?_
  subst h
  exact fun_good (fun_sound envOK (cs_sound _ (by exact ⟨⟨f57.sound k, f57.fnok⟩, ⟨f68.sound k, f68.fnok⟩, trivial⟩)) (f58.hok k) Tryd.func58 rfl) ((f58.ev k _).trans (f58.nat k _ _))
theorem f58.says (k : Nat) (s1 : ByteArray) (t22 : (List Int) × Bool) (h_ : f58 k s1 = some t22) : SoundAt env Tryd.prog 58 [.v (.c (.s (.string s1)))] ⟨.tup [.c (.own true 5 t22.1), .c (.s (.bool t22.2))], [[]]⟩ :=
  fun_sound envOK (cs_sound _ (by exact ⟨⟨f57.sound k, f57.fnok⟩, ⟨f68.sound k, f68.fnok⟩, trivial⟩)) (f58.hok k) Tryd.func58 rfl _ _ (((f58.ev k s1).trans (f58.nat k _ s1)).trans (by rw [h_]; rfl))
theorem f58.fnok : FnOK Tryd.prog 58 := fn_ok Tryd.func58 (by kernel_rfl) rfl
def f35.l2.step {R : Type} (k : Nat) (rec_ : ByteArray → Int → Option R) (ret : ((ByteArray × ByteArray × Bool) ⊕ (ByteArray)) → Option R) (s2 : ByteArray) (a3 : Int) : Option R :=
  if (decide ((IntKind.i64.wrap (a3 + (1 : Int))) < (((ByteArray.size s2) : Nat) : Int))) = true then
    if (0 : Int) ≤ a3 then
      if a3 < ((ByteArray.size s2 : Nat) : Int) then
        if (decide ((bt s2 a3) ≠ (58 : Int))) = false then
          if (0 : Int) ≤ (IntKind.i64.wrap (a3 + (1 : Int))) then
            if (IntKind.i64.wrap (a3 + (1 : Int))) < ((ByteArray.size s2 : Nat) : Int) then
              if (decide ((bt s2 (IntKind.i64.wrap (a3 + (1 : Int)))) ≠ (58 : Int))) = true then
                rec_ s2 (IntKind.i64.wrap (a3 + (1 : Int)))
              else
                if (0 : Int) ≤ a3 then
                  if a3 ≤ ((ByteArray.size s2 : Nat) : Int) then
                    (f58 k (ByteArray.extract s2 0 (Int.toNat a3))).bind fun t4 => if (0 : Int) ≤ (IntKind.i64.wrap (a3 + (2 : Int))) then
                        if (IntKind.i64.wrap (a3 + (2 : Int))) ≤ ((ByteArray.size s2 : Nat) : Int) then
                          if ((ByteArray.size s2 : Nat) : Int) ≤ ((ByteArray.size s2 : Nat) : Int) then
                            (f58 k (ByteArray.extract s2 (Int.toNat (IntKind.i64.wrap (a3 + (2 : Int)))) (Int.toNat ((ByteArray.size s2 : Nat) : Int)))).bind fun t5 => if (!t4.2) = false then
                                if (!t5.2) = false then
                                  if (decide ((IntKind.i64.wrap ((((List.length t4.1) : Nat) : Int) + (((List.length t5.1) : Nat) : Int))) > (14 : Int))) = true then
                                    ret (.inl (s2, (⟨#[]⟩ : ByteArray), false))
                                  else
                                    if (0 : Int) ≤ (IntKind.i64.wrap ((IntKind.i64.wrap ((16 : Int) - (((List.length t4.1) : Nat) : Int))) - (((List.length t5.1) : Nat) : Int))) then
                                      if (Int.toNat (IntKind.i64.wrap ((IntKind.i64.wrap ((16 : Int) - (((List.length t4.1) : Nat) : Int))) - (((List.length t5.1) : Nat) : Int)))) * 1 ≤ maxN then
                                        if ByteArray.size (strOf t4.1) + ByteArray.size (strOf (List.replicate (Int.toNat (IntKind.i64.wrap ((IntKind.i64.wrap ((16 : Int) - (((List.length t4.1) : Nat) : Int))) - (((List.length t5.1) : Nat) : Int)))) (0 : Int))) ≤ maxN then
                                          if ByteArray.size ((strOf t4.1) ++ (strOf (List.replicate (Int.toNat (IntKind.i64.wrap ((IntKind.i64.wrap ((16 : Int) - (((List.length t4.1) : Nat) : Int))) - (((List.length t5.1) : Nat) : Int)))) (0 : Int)))) + ByteArray.size (strOf t5.1) ≤ maxN then
                                            ret (.inl (s2, (((strOf t4.1) ++ (strOf (List.replicate (Int.toNat (IntKind.i64.wrap ((IntKind.i64.wrap ((16 : Int) - (((List.length t4.1) : Nat) : Int))) - (((List.length t5.1) : Nat) : Int)))) (0 : Int)))) ++ (strOf t5.1)), true))
                                          else none
                                        else none
                                      else none
                                    else none
                                else
                                  ret (.inl (s2, (⟨#[]⟩ : ByteArray), false))
                              else
                                ret (.inl (s2, (⟨#[]⟩ : ByteArray), false))
                          else none
                        else none
                      else none
                  else none
                else none
            else none
          else none
        else
          rec_ s2 (IntKind.i64.wrap (a3 + (1 : Int)))
      else none
    else none
  else
    ret (.inr s2)
def f35.l2 (k : Nat) : Nat → ByteArray → Int → Option ((ByteArray × ByteArray × Bool) ⊕ (ByteArray))
  | 0, _, _ => none
  | j + 1, s2, a3 => f35.l2.step k (fun s2 a3 => f35.l2 k j s2 a3) some s2 a3
def f35.l2.w {R : Type} : ((ByteArray × ByteArray × Bool) ⊕ (ByteArray)) → (Exit → St env → Option R) → Option R := fun x K => Sum.elim (fun t9 => K .ret ⟨fullT [0, 2, 3] 0 85 [.v (.c (.s (.string t9.1))), .v (.c (.s (.string t9.2.1))), .v (.c (.s (.bool t9.2.2)))], [], 1169⟩) (fun t10 => K (.exit 0) ⟨fullT [0] 0 85 [.v (.c (.s (.string t10)))], [], 1169⟩) x
def f35.l2.st (s2 : ByteArray) (a3 : Int) : St env := ⟨fullT [0, 4] 0 85 [.v (.c (.s (.string s2))), .v (.c (.s (.int .i64 a3)))], [], 49⟩
def f35.l2.hd (k : Nat) (ts_ : List (AV env)) (mm_ : Mem env) (n_ : Nat) : LCl env :=
  gTs LCl.no [0, 4] 85 ts_ fun l_ => gV LCl.no l_ fun a_ l_ => rV LCl.no a_ fun v_ => vS LCl.no v_ fun s2 => gV LCl.no l_ fun a_ l_ => rV LCl.no a_ fun v_ => vI LCl.no .i64 v_ fun a3 => gE LCl.no l_ <| gE LCl.no mm_ <| gN LCl.no 49 n_ { α := (ByteArray × ByteArray × Bool) ⊕ (ByteArray), o := f35.l2 k k s2 a3, w := f35.l2.w }
def f35.step {R : Type} (k : Nat) (ret : (ByteArray × Bool) → Option R) (s1 : ByteArray) : Option R :=
  (f35.l2 k k s1 (0 : Int)).bind (Sum.elim (fun t6 => ret (t6.2.1, t6.2.2)) (fun t7 => (f58 k t7).bind fun t8 => if t8.2 = true then
        ret ((strOf t8.1), (decide ((((List.length t8.1) : Nat) : Int) = (16 : Int))))
      else
        ret ((strOf t8.1), false)))
def f35 (k : Nat) (s1 : ByteArray) : Option (ByteArray × Bool) := f35.step k some s1
def f35.w {R : Type} : (ByteArray × Bool) → (Res env → Option R) → Option R := fun t11 K => K ⟨.tup [.c (.s (.string t11.1)), .c (.s (.bool t11.2))], [[]]⟩
theorem f35.wn (x : (ByteArray × Bool)) : ∃ res, ∀ {R : Type} (K : Res env → Option R), f35.w x K = K res := by
  exact ⟨_, fun _ => rfl⟩
def f35.hd (k : Nat) (ps_ : List (P2 env)) : Cl env :=
  gC Cl.no ps_ fun p_ ps_ => qC Cl.no p_ fun c_ => qS Cl.no c_ fun v_ => vS Cl.no v_ fun s1 => gE Cl.no ps_ <| { α := ByteArray × Bool, o := f35 k s1, w := f35.w, nat := fun x _ => f35.wn x }
def f35.e (k : Nat) : Entry env := ⟨f35.hd k, [], []⟩
def f35.X (k : Nat) : Ctx env := { C := lookE [(58, f58.e k)], L := lookE [(2, fun S => f35.l2.hd k S.ts S.m S.n)], J := lookE [], keep := lookD [(2, [0, 4])], keepX := lookD [(2, [0, 2, 3])], span := lookN [(2, 1120)], eff := fun n => memN n [9], prep := lookP [], np := 0 }
theorem f35.l2.nat {R : Type} (k : Nat) (rec_ : ByteArray → Int → Option ((ByteArray × ByteArray × Bool) ⊕ (ByteArray))) (g : ((ByteArray × ByteArray × Bool) ⊕ (ByteArray)) → Option R) (s2 : ByteArray) (a3 : Int) : (f35.l2.step k rec_ some s2 a3).bind g = f35.l2.step k (fun s2 a3 => (rec_ s2 a3).bind g) g s2 a3 := by
  simp only [f35.l2.step, bind_ite, bind_sum, Option.bind_assoc, Option.bind_some, Option.bind_none]
theorem f35.l2.good (k : Nat) (s2 : ByteArray) (a3 : Int) : GoodL (f35.X k) (nthC 0 (loopsOf (bodyOf Tryd.f35))) (f35.l2.st s2 a3) { α := ((ByteArray × ByteArray × Bool) ⊕ (ByteArray)), o := f35.l2 k k s2 a3, w := f35.l2.w } :=
  loop_good (ι := ByteArray × Int) (α := ((ByteArray × ByteArray × Bool) ⊕ (ByteArray))) (fun i => f35.l2.st i.1 i.2) (fun j i => f35.l2 k j i.1 i.2) f35.l2.w (fun rec_ ret i => f35.l2.step k (fun s2 a3 => rec_ (s2, a3)) ret i.1 i.2)
    (fun _ => rfl) (fun _ _ => rfl) (fun rec_ g i => f35.l2.nat k _ g i.1 i.2) (fun {R} i0 i rec_ K => by kernel_rfl) k (s2, a3)
theorem f35.l2.all (k : Nat) (S : St env) : GoodL (f35.X k) (nthC 0 (loopsOf (bodyOf Tryd.f35))) S (f35.l2.hd k S.ts S.m S.n) := by
  obtain ⟨ts_, m_, n_⟩ := S
  show GoodL _ _ _ (f35.l2.hd k ts_ m_ n_)
  unfold f35.l2.hd
  refine gTs_ok (p := GoodL _ _ _) goodL_no fun _ h => ?_
  subst h
  refine gV_ok (p := GoodL _ _ _) goodL_no fun _ _ h => ?_
  subst h
  refine rV_ok (p := GoodL _ _ _) goodL_no fun _ h => ?_
  subst h
  refine vS_ok (p := GoodL _ _ _) goodL_no fun _ h => ?_
  subst h
  refine gV_ok (p := GoodL _ _ _) goodL_no fun _ _ h => ?_
  subst h
  refine rV_ok (p := GoodL _ _ _) goodL_no fun _ h => ?_
  subst h
  refine vI_ok (p := GoodL _ _ _) goodL_no fun _ h => ?_
  subst h
  refine gE_ok (p := GoodL _ _ _) goodL_no fun h => ?_
  subst h
  refine gE_ok (p := GoodL _ _ _) goodL_no fun h => ?_
  subst h
  refine gN_ok (p := GoodL _ _ _) goodL_no fun h => ?_
  subst h
  exact f35.l2.good k _ _
theorem f35.nat {R : Type} (k : Nat) (g : (ByteArray × Bool) → Option R) (s1 : ByteArray) : f35.step k g s1 = (f35 k s1).bind g := by
  simp only [f35, f35.step, bind_ite, bind_sum, Option.bind_assoc, Option.bind_some, Option.bind_none]
theorem f35.ev (k : Nat) (s1 : ByteArray) : evF (f35.X k) (bodyOf Tryd.f35) Tryd.f35.ntmps Tryd.f35.results.toList [.v (.c (.s (.string s1)))] = f35.step k (fun x => f35.w x some) s1 := by kernel_rfl
theorem f35.hok (k : Nat) : HOK (f35.X k) (bodyOf Tryd.f35) where
  l := allP_mem (by exact ⟨ls_of (h0 := fun S => f35.l2.hd k S.ts S.m S.n) (by kernel_rfl) (f35.l2.all k), trivial⟩)
  j := allP_mem (by exact trivial)
theorem f35.sound (k : Nat) : SoundC env Tryd.prog 35 ((f35.e k).F) := by
  intro ps_
  show GoodC _ _ _ ps_ (f35.hd k ps_)
  unfold f35.hd
  refine gC_ok (p := GoodC env Tryd.prog 35 _) goodC_no fun _ _ h => ?_
  subst h
  refine qC_ok (p := GoodC env Tryd.prog 35 _) goodC_no fun _ h => ?_
  subst h
  refine qS_ok (p := GoodC env Tryd.prog 35 _) goodC_no fun _ h => ?_
  subst h
  refine vS_ok (p := GoodC env Tryd.prog 35 _) goodC_no fun _ h => ?_
  subst h
  refine gE_ok (p := GoodC env Tryd.prog 35 _) goodC_no fun h => ?_
  subst h
  exact fun_good (fun_sound envOK (cs_sound _ (by exact ⟨⟨f58.sound k, f58.fnok⟩, trivial⟩)) (f35.hok k) Tryd.func35 rfl) ((f35.ev k _).trans (f35.nat k _ _))
theorem f35.says (k : Nat) (s1 : ByteArray) (t12 : ByteArray × Bool) (h_ : f35 k s1 = some t12) : SoundAt env Tryd.prog 35 [.v (.c (.s (.string s1)))] ⟨.tup [.c (.s (.string t12.1)), .c (.s (.bool t12.2))], [[]]⟩ :=
  fun_sound envOK (cs_sound _ (by exact ⟨⟨f58.sound k, f58.fnok⟩, trivial⟩)) (f35.hok k) Tryd.func35 rfl _ _ (((f35.ev k s1).trans (f35.nat k _ s1)).trans (by rw [h_]; rfl))
theorem f35.fnok : FnOK Tryd.prog 35 := fn_ok Tryd.func35 (by kernel_rfl) rfl
def f14.step {R : Type} (k : Nat) (ret : (ByteArray × Bool) → Option R) (s1 : ByteArray) : Option R :=
  (f34 k s1).bind fun t2 => if t2.2 = true then
      ret (t2.1, true)
    else
      (f35 k s1).bind fun t3 => ret (t3.1, t3.2)
def f14 (k : Nat) (s1 : ByteArray) : Option (ByteArray × Bool) := f14.step k some s1
def f14.w {R : Type} : (ByteArray × Bool) → (Res env → Option R) → Option R := fun t4 K => K ⟨.tup [.c (.s (.string t4.1)), .c (.s (.bool t4.2))], [[]]⟩
theorem f14.wn (x : (ByteArray × Bool)) : ∃ res, ∀ {R : Type} (K : Res env → Option R), f14.w x K = K res := by
  exact ⟨_, fun _ => rfl⟩
def f14.hd (k : Nat) (ps_ : List (P2 env)) : Cl env :=
  gC Cl.no ps_ fun p_ ps_ => qC Cl.no p_ fun c_ => qS Cl.no c_ fun v_ => vS Cl.no v_ fun s1 => gE Cl.no ps_ <| { α := ByteArray × Bool, o := f14 k s1, w := f14.w, nat := fun x _ => f14.wn x }
def f14.e (k : Nat) : Entry env := ⟨f14.hd k, [], []⟩
def f14.X (k : Nat) : Ctx env := { C := lookE [(34, f34.e k), (35, f35.e k)], L := lookE [], J := lookE [], keep := lookD [], keepX := lookD [], span := lookN [], eff := fun n => memN n [], prep := lookP [], np := 0 }
theorem f14.nat {R : Type} (k : Nat) (g : (ByteArray × Bool) → Option R) (s1 : ByteArray) : f14.step k g s1 = (f14 k s1).bind g := by
  simp only [f14, f14.step, bind_ite, bind_sum, Option.bind_assoc, Option.bind_some, Option.bind_none]
theorem f14.ev (k : Nat) (s1 : ByteArray) : evF (f14.X k) (bodyOf Tryd.f14) Tryd.f14.ntmps Tryd.f14.results.toList [.v (.c (.s (.string s1)))] = f14.step k (fun x => f14.w x some) s1 := by kernel_rfl
theorem f14.hok (k : Nat) : HOK (f14.X k) (bodyOf Tryd.f14) where
  l := allP_mem (by exact trivial)
  j := allP_mem (by exact trivial)
theorem f14.sound (k : Nat) : SoundC env Tryd.prog 14 ((f14.e k).F) := by
  intro ps_
  show GoodC _ _ _ ps_ (f14.hd k ps_)
  unfold f14.hd
  refine gC_ok (p := GoodC env Tryd.prog 14 _) goodC_no fun _ _ h => ?_
  subst h
  refine qC_ok (p := GoodC env Tryd.prog 14 _) goodC_no fun _ h => ?_
  subst h
  refine qS_ok (p := GoodC env Tryd.prog 14 _) goodC_no fun _ h => ?_
  subst h
  refine vS_ok (p := GoodC env Tryd.prog 14 _) goodC_no fun _ h => ?_
  subst h
  refine gE_ok (p := GoodC env Tryd.prog 14 _) goodC_no fun h => ?_
  subst h
  exact fun_good (fun_sound envOK (cs_sound _ (by exact ⟨⟨f34.sound k, f34.fnok⟩, ⟨f35.sound k, f35.fnok⟩, trivial⟩)) (f14.hok k) Tryd.func14 rfl) ((f14.ev k _).trans (f14.nat k _ _))
theorem f14.says (k : Nat) (s1 : ByteArray) (t5 : ByteArray × Bool) (h_ : f14 k s1 = some t5) : SoundAt env Tryd.prog 14 [.v (.c (.s (.string s1)))] ⟨.tup [.c (.s (.string t5.1)), .c (.s (.bool t5.2))], [[]]⟩ :=
  fun_sound envOK (cs_sound _ (by exact ⟨⟨f34.sound k, f34.fnok⟩, ⟨f35.sound k, f35.fnok⟩, trivial⟩)) (f14.hok k) Tryd.func14 rfl _ _ (((f14.ev k s1).trans (f14.nat k _ s1)).trans (by rw [h_]; rfl))
theorem f14.fnok : FnOK Tryd.prog 14 := fn_ok Tryd.func14 (by kernel_rfl) rfl
def f6.step {R : Type} (k : Nat) (ret : (ByteArray × Int) → Option R) (s1 : ByteArray) : Option R :=
  if (decide ((((ByteArray.size s1) : Nat) : Int) > (65536 : Int))) = true then
    ret ((⟨#[]⟩ : ByteArray), (2 : Int))
  else
    if (decide ((((ByteArray.size s1) : Nat) : Int) > (60 : Int))) = true then
      ret ((⟨#[]⟩ : ByteArray), (3 : Int))
    else
      (f14 k s1).bind fun t2 => if (!t2.2) = true then
          ret ((⟨#[]⟩ : ByteArray), (3 : Int))
        else
          ret (t2.1, (0 : Int))
def f6 (k : Nat) (s1 : ByteArray) : Option (ByteArray × Int) := f6.step k some s1
def f6.w {R : Type} : (ByteArray × Int) → (Res env → Option R) → Option R := fun t3 K => K ⟨.tup [.c (.s (.string t3.1)), .c (.s (.int .i64 t3.2))], [[]]⟩
theorem f6.wn (x : (ByteArray × Int)) : ∃ res, ∀ {R : Type} (K : Res env → Option R), f6.w x K = K res := by
  exact ⟨_, fun _ => rfl⟩
def f6.hd (k : Nat) (ps_ : List (P2 env)) : Cl env :=
  gC Cl.no ps_ fun p_ ps_ => qC Cl.no p_ fun c_ => qS Cl.no c_ fun v_ => vS Cl.no v_ fun s1 => gE Cl.no ps_ <| { α := ByteArray × Int, o := f6 k s1, w := f6.w, nat := fun x _ => f6.wn x }
def f6.e (k : Nat) : Entry env := ⟨f6.hd k, [], []⟩
def f6.X (k : Nat) : Ctx env := { C := lookE [(14, f14.e k)], L := lookE [], J := lookE [], keep := lookD [], keepX := lookD [], span := lookN [], eff := fun n => memN n [], prep := lookP [], np := 0 }
theorem f6.nat {R : Type} (k : Nat) (g : (ByteArray × Int) → Option R) (s1 : ByteArray) : f6.step k g s1 = (f6 k s1).bind g := by
  simp only [f6, f6.step, bind_ite, bind_sum, Option.bind_assoc, Option.bind_some, Option.bind_none]
theorem f6.ev (k : Nat) (s1 : ByteArray) : evF (f6.X k) (bodyOf Tryd.f6) Tryd.f6.ntmps Tryd.f6.results.toList [.v (.c (.s (.string s1)))] = f6.step k (fun x => f6.w x some) s1 := by kernel_rfl
theorem f6.hok (k : Nat) : HOK (f6.X k) (bodyOf Tryd.f6) where
  l := allP_mem (by exact trivial)
  j := allP_mem (by exact trivial)
theorem f6.sound (k : Nat) : SoundC env Tryd.prog 6 ((f6.e k).F) := by
  intro ps_
  show GoodC _ _ _ ps_ (f6.hd k ps_)
  unfold f6.hd
  refine gC_ok (p := GoodC env Tryd.prog 6 _) goodC_no fun _ _ h => ?_
  subst h
  refine qC_ok (p := GoodC env Tryd.prog 6 _) goodC_no fun _ h => ?_
  subst h
  refine qS_ok (p := GoodC env Tryd.prog 6 _) goodC_no fun _ h => ?_
  subst h
  refine vS_ok (p := GoodC env Tryd.prog 6 _) goodC_no fun _ h => ?_
  subst h
  refine gE_ok (p := GoodC env Tryd.prog 6 _) goodC_no fun h => ?_
  subst h
  exact fun_good (fun_sound envOK (cs_sound _ (by exact ⟨⟨f14.sound k, f14.fnok⟩, trivial⟩)) (f6.hok k) Tryd.func6 rfl) ((f6.ev k _).trans (f6.nat k _ _))
theorem f6.says (k : Nat) (s1 : ByteArray) (t4 : ByteArray × Int) (h_ : f6 k s1 = some t4) : SoundAt env Tryd.prog 6 [.v (.c (.s (.string s1)))] ⟨.tup [.c (.s (.string t4.1)), .c (.s (.int .i64 t4.2))], [[]]⟩ :=
  fun_sound envOK (cs_sound _ (by exact ⟨⟨f14.sound k, f14.fnok⟩, trivial⟩)) (f6.hok k) Tryd.func6 rfl _ _ (((f6.ev k s1).trans (f6.nat k _ s1)).trans (by rw [h_]; rfl))
theorem f6.fnok : FnOK Tryd.prog 6 := fn_ok Tryd.func6 (by kernel_rfl) rfl
def f15.l2.step {R : Type} (k : Nat) (rec_ : (List ByteArray) → Int → Int → Option R) (ret : (Bool ⊕ (Unit)) → Option R) (xs2 : List ByteArray) (a3 : Int) (a4 : Int) : Option R :=
  if (decide (a4 < a3)) = true then
    if (0 : Int) ≤ a4 then
      if a4 < ((List.length xs2 : Nat) : Int) then
        if (decide ((((ByteArray.size (List.getD xs2 (Int.toNat a4) ByteArray.empty)) : Nat) : Int) > (65536 : Int))) = true then
          ret (.inl true)
        else
          rec_ xs2 a3 (IntKind.i64.wrap (a4 + (1 : Int)))
      else none
    else none
  else
    ret (.inr ())
def f15.l2 (k : Nat) : Nat → (List ByteArray) → Int → Int → Option (Bool ⊕ (Unit))
  | 0, _, _, _ => none
  | j + 1, xs2, a3, a4 => f15.l2.step k (fun xs2 a3 a4 => f15.l2 k j xs2 a3 a4) some xs2 a3 a4
def f15.l2.w {R : Type} : (Bool ⊕ (Unit)) → (Exit → St env → Option R) → Option R := fun x K => Sum.elim (fun t7 => K .ret ⟨fullT [2] 0 15 [.v (.c (.s (.bool t7)))], [], 225⟩) (fun t8 => K (.exit 0) ⟨fullT [] 0 15 [], [], 225⟩) x
def f15.l2.st (xs2 : List ByteArray) (a3 : Int) (a4 : Int) : St env := ⟨fullT [5, 6, 7] 0 15 [.v (.c (.imm 9 xs2)), .v (.c (.s (.int .i64 a3))), .v (.c (.s (.int .i64 a4)))], [], 65⟩
def f15.l2.hd (k : Nat) (ts_ : List (AV env)) (mm_ : Mem env) (n_ : Nat) : LCl env :=
  gTs LCl.no [5, 6, 7] 15 ts_ fun l_ => gV LCl.no l_ fun a_ l_ => rImm LCl.no 9 a_ fun xs2 => gV LCl.no l_ fun a_ l_ => rV LCl.no a_ fun v_ => vI LCl.no .i64 v_ fun a3 => gV LCl.no l_ fun a_ l_ => rV LCl.no a_ fun v_ => vI LCl.no .i64 v_ fun a4 => gE LCl.no l_ <| gE LCl.no mm_ <| gN LCl.no 65 n_ { α := Bool ⊕ (Unit), o := f15.l2 k k xs2 a3 a4, w := f15.l2.w }
def f15.step {R : Type} (k : Nat) (ret : Bool → Option R) (xs1 : List ByteArray) : Option R :=
  (f15.l2 k k xs1 (((List.length xs1) : Nat) : Int) (0 : Int)).bind (Sum.elim (fun t5 => ret t5) (fun t6 => ret false))
def f15 (k : Nat) (xs1 : List ByteArray) : Option Bool := f15.step k some xs1
def f15.w {R : Type} : Bool → (Res env → Option R) → Option R := fun t9 K => K ⟨.v (.c (.s (.bool t9))), [[]]⟩
theorem f15.wn (x : Bool) : ∃ res, ∀ {R : Type} (K : Res env → Option R), f15.w x K = K res := by
  exact ⟨_, fun _ => rfl⟩
def f15.hd (k : Nat) (ps_ : List (P2 env)) : Cl env :=
  gC Cl.no ps_ fun p_ ps_ => qC Cl.no p_ fun c_ => qSl Cl.no 9 c_ fun xs1 => gE Cl.no ps_ <| { α := Bool, o := f15 k xs1, w := f15.w, nat := fun x _ => f15.wn x }
def f15.e (k : Nat) : Entry env := ⟨fun ps => f15.hd k (coer [[.rd 9]] ps), [], []⟩
def f15.X (k : Nat) : Ctx env := { C := lookE [], L := lookE [(2, fun S => f15.l2.hd k S.ts S.m S.n)], J := lookE [], keep := lookD [(2, [5, 6, 7])], keepX := lookD [(2, [2])], span := lookN [(2, 160)], eff := fun n => memN n [], prep := lookP [], np := 0 }
theorem f15.l2.nat {R : Type} (k : Nat) (rec_ : (List ByteArray) → Int → Int → Option (Bool ⊕ (Unit))) (g : (Bool ⊕ (Unit)) → Option R) (xs2 : List ByteArray) (a3 : Int) (a4 : Int) : (f15.l2.step k rec_ some xs2 a3 a4).bind g = f15.l2.step k (fun xs2 a3 a4 => (rec_ xs2 a3 a4).bind g) g xs2 a3 a4 := by
  simp only [f15.l2.step, bind_ite, bind_sum, Option.bind_assoc, Option.bind_some, Option.bind_none]
theorem f15.l2.good (k : Nat) (xs2 : List ByteArray) (a3 : Int) (a4 : Int) : GoodL (f15.X k) (nthC 0 (loopsOf (bodyOf Tryd.f15))) (f15.l2.st xs2 a3 a4) { α := (Bool ⊕ (Unit)), o := f15.l2 k k xs2 a3 a4, w := f15.l2.w } :=
  loop_good (ι := (List ByteArray) × Int × Int) (α := (Bool ⊕ (Unit))) (fun i => f15.l2.st i.1 i.2.1 i.2.2) (fun j i => f15.l2 k j i.1 i.2.1 i.2.2) f15.l2.w (fun rec_ ret i => f15.l2.step k (fun xs2 a3 a4 => rec_ (xs2, a3, a4)) ret i.1 i.2.1 i.2.2)
    (fun _ => rfl) (fun _ _ => rfl) (fun rec_ g i => f15.l2.nat k _ g i.1 i.2.1 i.2.2) (fun {R} i0 i rec_ K => by kernel_rfl) k (xs2, a3, a4)
theorem f15.l2.all (k : Nat) (S : St env) : GoodL (f15.X k) (nthC 0 (loopsOf (bodyOf Tryd.f15))) S (f15.l2.hd k S.ts S.m S.n) := by
  obtain ⟨ts_, m_, n_⟩ := S
  show GoodL _ _ _ (f15.l2.hd k ts_ m_ n_)
  unfold f15.l2.hd
  refine gTs_ok (p := GoodL _ _ _) goodL_no fun _ h => ?_
  subst h
  refine gV_ok (p := GoodL _ _ _) goodL_no fun _ _ h => ?_
  subst h
  refine rImm_ok (p := GoodL _ _ _) goodL_no fun _ h => ?_
  subst h
  refine gV_ok (p := GoodL _ _ _) goodL_no fun _ _ h => ?_
  subst h
  refine rV_ok (p := GoodL _ _ _) goodL_no fun _ h => ?_
  subst h
  refine vI_ok (p := GoodL _ _ _) goodL_no fun _ h => ?_
  subst h
  refine gV_ok (p := GoodL _ _ _) goodL_no fun _ _ h => ?_
  subst h
  refine rV_ok (p := GoodL _ _ _) goodL_no fun _ h => ?_
  subst h
  refine vI_ok (p := GoodL _ _ _) goodL_no fun _ h => ?_
  subst h
  refine gE_ok (p := GoodL _ _ _) goodL_no fun h => ?_
  subst h
  refine gE_ok (p := GoodL _ _ _) goodL_no fun h => ?_
  subst h
  refine gN_ok (p := GoodL _ _ _) goodL_no fun h => ?_
  subst h
  exact f15.l2.good k _ _ _
theorem f15.nat {R : Type} (k : Nat) (g : Bool → Option R) (xs1 : List ByteArray) : f15.step k g xs1 = (f15 k xs1).bind g := by
  simp only [f15, f15.step, bind_ite, bind_sum, Option.bind_assoc, Option.bind_some, Option.bind_none]
theorem f15.ev (k : Nat) (xs1 : List ByteArray) : evF (f15.X k) (bodyOf Tryd.f15) Tryd.f15.ntmps Tryd.f15.results.toList [.v (.c (.sl 9 xs1))] = f15.step k (fun x => f15.w x some) xs1 := by kernel_rfl
theorem f15.hok (k : Nat) : HOK (f15.X k) (bodyOf Tryd.f15) where
  l := allP_mem (by exact ⟨ls_of (h0 := fun S => f15.l2.hd k S.ts S.m S.n) (by kernel_rfl) (f15.l2.all k), trivial⟩)
  j := allP_mem (by exact trivial)
theorem f15.sound0 (k : Nat) : SoundC env Tryd.prog 15 (f15.hd k) := by
  intro ps_
  show GoodC _ _ _ ps_ (f15.hd k ps_)
  unfold f15.hd
  refine gC_ok (p := GoodC env Tryd.prog 15 _) goodC_no fun _ _ h => ?_
  subst h
  refine qC_ok (p := GoodC env Tryd.prog 15 _) goodC_no fun _ h => ?_
  subst h
  refine qSl_ok (p := GoodC env Tryd.prog 15 _) goodC_no fun _ h => ?_
  subst h
  refine gE_ok (p := GoodC env Tryd.prog 15 _) goodC_no fun h => ?_
  subst h
  exact fun_good (fun_sound envOK (cs_sound _ (by exact trivial)) (f15.hok k) Tryd.func15 rfl) ((f15.ev k _).trans (f15.nat k _ _))
theorem f15.sound (k : Nat) : SoundC env Tryd.prog 15 (f15.e k).F := soundC_coer (f15.sound0 k) [[.rd 9]]
theorem f15.says (k : Nat) (xs1 : List ByteArray) (t10 : Bool) (h_ : f15 k xs1 = some t10) : SoundAt env Tryd.prog 15 [.v (.c (.sl 9 xs1))] ⟨.v (.c (.s (.bool t10))), [[]]⟩ :=
  fun_sound envOK (cs_sound _ (by exact trivial)) (f15.hok k) Tryd.func15 rfl _ _ (((f15.ev k xs1).trans (f15.nat k _ xs1)).trans (by rw [h_]; rfl))
theorem f15.fnok : FnOK Tryd.prog 15 := fn_ok Tryd.func15 (by kernel_rfl) rfl
def f20.l10.step {R : Type} (k : Nat) (rec_ : ByteArray → ByteArray → Int → Int → Option R) (ret : ((ByteArray × Int × Bool × ByteArray × Int) ⊕ (ByteArray × ByteArray × Int)) → Option R) (s2 : ByteArray) (s3 : ByteArray) (a4 : Int) (a5 : Int) : Option R :=
  if (decide (a5 < (((ByteArray.size s3) : Nat) : Int))) = true then
    if (0 : Int) ≤ a5 then
      if a5 < ((ByteArray.size s3 : Nat) : Int) then
        if (decide ((bt s3 a5) < (48 : Int))) = false then
          if (0 : Int) ≤ a5 then
            if a5 < ((ByteArray.size s3 : Nat) : Int) then
              if (decide ((bt s3 a5) > (57 : Int))) = true then
                ret (.inl (s2, (0 : Int), false, s3, a4))
              else
                if (0 : Int) ≤ a5 then
                  if a5 < ((ByteArray.size s3 : Nat) : Int) then
                    rec_ s2 s3 (IntKind.i64.wrap ((IntKind.i64.wrap ((10 : Int) * a4)) + (IntKind.i64.wrap (IntKind.u8.wrap ((bt s3 a5) - (48 : Int)))))) (IntKind.i64.wrap (a5 + (1 : Int)))
                  else none
                else none
            else none
          else none
        else
          ret (.inl (s2, (0 : Int), false, s3, a4))
      else none
    else none
  else
    ret (.inr (s2, s3, a4))
def f20.l10 (k : Nat) : Nat → ByteArray → ByteArray → Int → Int → Option ((ByteArray × Int × Bool × ByteArray × Int) ⊕ (ByteArray × ByteArray × Int))
  | 0, _, _, _, _ => none
  | j + 1, s2, s3, a4, a5 => f20.l10.step k (fun s2 s3 a4 a5 => f20.l10 k j s2 s3 a4 a5) some s2 s3 a4 a5
def f20.l10.w {R : Type} : ((ByteArray × Int × Bool × ByteArray × Int) ⊕ (ByteArray × ByteArray × Int)) → (Exit → St env → Option R) → Option R := fun x K => Sum.elim (fun t22 => K .ret ⟨fullT [0, 2, 3, 4, 5] 0 71 [.v (.c (.s (.string t22.1))), .v (.c (.s (.int .i64 t22.2.1))), .v (.c (.s (.bool t22.2.2.1))), .v (.c (.s (.string t22.2.2.2.1))), .v (.c (.s (.int .i64 t22.2.2.2.2)))], [], 1057⟩) (fun t23 => K (.exit 0) ⟨fullT [0, 4, 5] 0 71 [.v (.c (.s (.string t23.1))), .v (.c (.s (.string t23.2.1))), .v (.c (.s (.int .i64 t23.2.2)))], [], 1057⟩) x
def f20.l10.st (s2 : ByteArray) (s3 : ByteArray) (a4 : Int) (a5 : Int) : St env := ⟨fullT [0, 4, 5, 6] 0 71 [.v (.c (.s (.string s2))), .v (.c (.s (.string s3))), .v (.c (.s (.int .i64 a4))), .v (.c (.s (.int .i64 a5)))], [], 609⟩
def f20.l10_1.step {R : Type} (k : Nat) (rec_ : ByteArray → ByteArray → Int → Int → Option R) (ret : ((ByteArray × Int × Bool × ByteArray × Int) ⊕ (ByteArray × ByteArray × Int)) → Option R) (s10 : ByteArray) (s11 : ByteArray) (a12 : Int) (a13 : Int) : Option R :=
  if (decide (a13 < (((ByteArray.size s11) : Nat) : Int))) = true then
    if (0 : Int) ≤ a13 then
      if a13 < ((ByteArray.size s11 : Nat) : Int) then
        if (decide ((bt s11 a13) < (48 : Int))) = false then
          if (0 : Int) ≤ a13 then
            if a13 < ((ByteArray.size s11 : Nat) : Int) then
              if (decide ((bt s11 a13) > (57 : Int))) = true then
                ret (.inl (s10, (0 : Int), false, s11, a12))
              else
                if (0 : Int) ≤ a13 then
                  if a13 < ((ByteArray.size s11 : Nat) : Int) then
                    rec_ s10 s11 (IntKind.i64.wrap ((IntKind.i64.wrap ((10 : Int) * a12)) + (IntKind.i64.wrap (IntKind.u8.wrap ((bt s11 a13) - (48 : Int)))))) (IntKind.i64.wrap (a13 + (1 : Int)))
                  else none
                else none
            else none
          else none
        else
          ret (.inl (s10, (0 : Int), false, s11, a12))
      else none
    else none
  else
    ret (.inr (s10, s11, a12))
def f20.l10_1 (k : Nat) : Nat → ByteArray → ByteArray → Int → Int → Option ((ByteArray × Int × Bool × ByteArray × Int) ⊕ (ByteArray × ByteArray × Int))
  | 0, _, _, _, _ => none
  | j + 1, s10, s11, a12, a13 => f20.l10_1.step k (fun s10 s11 a12 a13 => f20.l10_1 k j s10 s11 a12 a13) some s10 s11 a12 a13
def f20.l10_1.w {R : Type} : ((ByteArray × Int × Bool × ByteArray × Int) ⊕ (ByteArray × ByteArray × Int)) → (Exit → St env → Option R) → Option R := fun x K => Sum.elim (fun t24 => K .ret ⟨fullT [0, 2, 3, 4, 5] 0 71 [.v (.c (.s (.string t24.1))), .v (.c (.s (.int .i64 t24.2.1))), .v (.c (.s (.bool t24.2.2.1))), .v (.c (.s (.string t24.2.2.2.1))), .v (.c (.s (.int .i64 t24.2.2.2.2)))], [], 1009⟩) (fun t25 => K (.exit 0) ⟨fullT [0, 4, 5] 0 71 [.v (.c (.s (.string t25.1))), .v (.c (.s (.string t25.2.1))), .v (.c (.s (.int .i64 t25.2.2)))], [], 1009⟩) x
def f20.l10_1.st (s10 : ByteArray) (s11 : ByteArray) (a12 : Int) (a13 : Int) : St env := ⟨fullT [0, 4, 5, 6] 0 71 [.v (.c (.s (.string s10))), .v (.c (.s (.string s11))), .v (.c (.s (.int .i64 a12))), .v (.c (.s (.int .i64 a13)))], [], 561⟩
def f20.l10_1.hd (k : Nat) (ts_ : List (AV env)) (mm_ : Mem env) (n_ : Nat) : LCl env :=
  gTs LCl.no [0, 4, 5, 6] 71 ts_ fun l_ => gV LCl.no l_ fun a_ l_ => rV LCl.no a_ fun v_ => vS LCl.no v_ fun s10 => gV LCl.no l_ fun a_ l_ => rV LCl.no a_ fun v_ => vS LCl.no v_ fun s11 => gV LCl.no l_ fun a_ l_ => rV LCl.no a_ fun v_ => vI LCl.no .i64 v_ fun a12 => gV LCl.no l_ fun a_ l_ => rV LCl.no a_ fun v_ => vI LCl.no .i64 v_ fun a13 => gE LCl.no l_ <| gE LCl.no mm_ <| gN LCl.no 561 n_ { α := (ByteArray × Int × Bool × ByteArray × Int) ⊕ (ByteArray × ByteArray × Int), o := f20.l10_1 k k s10 s11 a12 a13, w := f20.l10_1.w }
def f20.l10.hd (k : Nat) (ts_ : List (AV env)) (mm_ : Mem env) (n_ : Nat) : LCl env :=
  gTs (f20.l10_1.hd k ts_ mm_ n_) [0, 4, 5, 6] 71 ts_ fun l_ => gV (f20.l10_1.hd k ts_ mm_ n_) l_ fun a_ l_ => rV (f20.l10_1.hd k ts_ mm_ n_) a_ fun v_ => vS (f20.l10_1.hd k ts_ mm_ n_) v_ fun s2 => gV (f20.l10_1.hd k ts_ mm_ n_) l_ fun a_ l_ => rV (f20.l10_1.hd k ts_ mm_ n_) a_ fun v_ => vS (f20.l10_1.hd k ts_ mm_ n_) v_ fun s3 => gV (f20.l10_1.hd k ts_ mm_ n_) l_ fun a_ l_ => rV (f20.l10_1.hd k ts_ mm_ n_) a_ fun v_ => vI (f20.l10_1.hd k ts_ mm_ n_) .i64 v_ fun a4 => gV (f20.l10_1.hd k ts_ mm_ n_) l_ fun a_ l_ => rV (f20.l10_1.hd k ts_ mm_ n_) a_ fun v_ => vI (f20.l10_1.hd k ts_ mm_ n_) .i64 v_ fun a5 => gE (f20.l10_1.hd k ts_ mm_ n_) l_ <| gE (f20.l10_1.hd k ts_ mm_ n_) mm_ <| gN (f20.l10_1.hd k ts_ mm_ n_) 609 n_ { α := (ByteArray × Int × Bool × ByteArray × Int) ⊕ (ByteArray × ByteArray × Int), o := f20.l10 k k s2 s3 a4 a5, w := f20.l10.w }
def f20.step {R : Type} (k : Nat) (ret : (Int × Bool) → Option R) (s1 : ByteArray) : Option R :=
  if (decide ((((ByteArray.size s1) : Nat) : Int) > (0 : Int))) = true then
    if (0 : Int) < ((ByteArray.size s1 : Nat) : Int) then
      if (decide ((bt s1 (0 : Int)) = (45 : Int))) = true then
        if (1 : Int) ≤ ((ByteArray.size s1 : Nat) : Int) then
          if ((ByteArray.size s1 : Nat) : Int) ≤ ((ByteArray.size s1 : Nat) : Int) then
            if (decide ((((ByteArray.size (ByteArray.extract s1 1 (Int.toNat ((ByteArray.size s1 : Nat) : Int)))) : Nat) : Int) < (1 : Int))) = false then
              if (decide ((((ByteArray.size (ByteArray.extract s1 1 (Int.toNat ((ByteArray.size s1 : Nat) : Int)))) : Nat) : Int) > (18 : Int))) = true then
                ret ((0 : Int), false)
              else
                if (0 : Int) < ((ByteArray.size (ByteArray.extract s1 1 (Int.toNat ((ByteArray.size s1 : Nat) : Int))) : Nat) : Int) then
                  if (decide ((bt (ByteArray.extract s1 1 (Int.toNat ((ByteArray.size s1 : Nat) : Int))) (0 : Int)) = (48 : Int))) = true then
                    if (decide ((((ByteArray.size (ByteArray.extract s1 1 (Int.toNat ((ByteArray.size s1 : Nat) : Int)))) : Nat) : Int) > (1 : Int))) = false then
                      if (decide ((((ByteArray.size s1) : Nat) : Int) > (1 : Int))) = true then
                        ret ((0 : Int), false)
                      else
                        (f20.l10 k k s1 (ByteArray.extract s1 1 (Int.toNat ((ByteArray.size s1 : Nat) : Int))) (0 : Int) (0 : Int)).bind (Sum.elim (fun t6 => ret (t6.2.1, t6.2.2.1)) (fun t7 => if (decide ((((ByteArray.size t7.2.1) : Nat) : Int) < (((ByteArray.size t7.1) : Nat) : Int))) = true then
                            ret ((IntKind.i64.wrap (0 - t7.2.2)), true)
                          else
                            ret (t7.2.2, true)))
                    else
                      ret ((0 : Int), false)
                  else
                    (f20.l10 k k s1 (ByteArray.extract s1 1 (Int.toNat ((ByteArray.size s1 : Nat) : Int))) (0 : Int) (0 : Int)).bind (Sum.elim (fun t8 => ret (t8.2.1, t8.2.2.1)) (fun t9 => if (decide ((((ByteArray.size t9.2.1) : Nat) : Int) < (((ByteArray.size t9.1) : Nat) : Int))) = true then
                        ret ((IntKind.i64.wrap (0 - t9.2.2)), true)
                      else
                        ret (t9.2.2, true)))
                else none
            else
              ret ((0 : Int), false)
          else none
        else none
      else
        if (decide ((((ByteArray.size s1) : Nat) : Int) < (1 : Int))) = false then
          if (decide ((((ByteArray.size s1) : Nat) : Int) > (18 : Int))) = true then
            ret ((0 : Int), false)
          else
            if (0 : Int) < ((ByteArray.size s1 : Nat) : Int) then
              if (decide ((bt s1 (0 : Int)) = (48 : Int))) = true then
                if (decide ((((ByteArray.size s1) : Nat) : Int) > (1 : Int))) = false then
                  if (decide ((((ByteArray.size s1) : Nat) : Int) > (1 : Int))) = true then
                    ret ((0 : Int), false)
                  else
                    (f20.l10_1 k k s1 s1 (0 : Int) (0 : Int)).bind (Sum.elim (fun t14 => ret (t14.2.1, t14.2.2.1)) (fun t15 => if (decide ((((ByteArray.size t15.2.1) : Nat) : Int) < (((ByteArray.size t15.1) : Nat) : Int))) = true then
                        ret ((IntKind.i64.wrap (0 - t15.2.2)), true)
                      else
                        ret (t15.2.2, true)))
                else
                  ret ((0 : Int), false)
              else
                (f20.l10_1 k k s1 s1 (0 : Int) (0 : Int)).bind (Sum.elim (fun t16 => ret (t16.2.1, t16.2.2.1)) (fun t17 => if (decide ((((ByteArray.size t17.2.1) : Nat) : Int) < (((ByteArray.size t17.1) : Nat) : Int))) = true then
                    ret ((IntKind.i64.wrap (0 - t17.2.2)), true)
                  else
                    ret (t17.2.2, true)))
            else none
        else
          ret ((0 : Int), false)
    else none
  else
    if (decide ((((ByteArray.size s1) : Nat) : Int) < (1 : Int))) = false then
      if (decide ((((ByteArray.size s1) : Nat) : Int) > (18 : Int))) = true then
        ret ((0 : Int), false)
      else
        if (0 : Int) < ((ByteArray.size s1 : Nat) : Int) then
          if (decide ((bt s1 (0 : Int)) = (48 : Int))) = true then
            if (decide ((((ByteArray.size s1) : Nat) : Int) > (1 : Int))) = false then
              if (decide ((((ByteArray.size s1) : Nat) : Int) > (1 : Int))) = true then
                ret ((0 : Int), false)
              else
                (f20.l10_1 k k s1 s1 (0 : Int) (0 : Int)).bind (Sum.elim (fun t18 => ret (t18.2.1, t18.2.2.1)) (fun t19 => if (decide ((((ByteArray.size t19.2.1) : Nat) : Int) < (((ByteArray.size t19.1) : Nat) : Int))) = true then
                    ret ((IntKind.i64.wrap (0 - t19.2.2)), true)
                  else
                    ret (t19.2.2, true)))
            else
              ret ((0 : Int), false)
          else
            (f20.l10_1 k k s1 s1 (0 : Int) (0 : Int)).bind (Sum.elim (fun t20 => ret (t20.2.1, t20.2.2.1)) (fun t21 => if (decide ((((ByteArray.size t21.2.1) : Nat) : Int) < (((ByteArray.size t21.1) : Nat) : Int))) = true then
                ret ((IntKind.i64.wrap (0 - t21.2.2)), true)
              else
                ret (t21.2.2, true)))
        else none
    else
      ret ((0 : Int), false)
def f20 (k : Nat) (s1 : ByteArray) : Option (Int × Bool) := f20.step k some s1
def f20.w {R : Type} : (Int × Bool) → (Res env → Option R) → Option R := fun t26 K => K ⟨.tup [.c (.s (.int .i64 t26.1)), .c (.s (.bool t26.2))], [[]]⟩
theorem f20.wn (x : (Int × Bool)) : ∃ res, ∀ {R : Type} (K : Res env → Option R), f20.w x K = K res := by
  exact ⟨_, fun _ => rfl⟩
def f20.hd (k : Nat) (ps_ : List (P2 env)) : Cl env :=
  gC Cl.no ps_ fun p_ ps_ => qC Cl.no p_ fun c_ => qS Cl.no c_ fun v_ => vS Cl.no v_ fun s1 => gE Cl.no ps_ <| { α := Int × Bool, o := f20 k s1, w := f20.w, nat := fun x _ => f20.wn x }
def f20.e (k : Nat) : Entry env := ⟨f20.hd k, [], []⟩
def f20.X (k : Nat) : Ctx env := { C := lookE [], L := lookE [(10, fun S => f20.l10.hd k S.ts S.m S.n)], J := lookE [], keep := lookD [(10, [0, 4, 5, 6])], keepX := lookD [(10, [0, 2, 3, 4, 5])], span := lookN [(10, 448)], eff := fun n => memN n [], prep := lookP [], np := 0 }
theorem f20.l10_1.nat {R : Type} (k : Nat) (rec_ : ByteArray → ByteArray → Int → Int → Option ((ByteArray × Int × Bool × ByteArray × Int) ⊕ (ByteArray × ByteArray × Int))) (g : ((ByteArray × Int × Bool × ByteArray × Int) ⊕ (ByteArray × ByteArray × Int)) → Option R) (s10 : ByteArray) (s11 : ByteArray) (a12 : Int) (a13 : Int) : (f20.l10_1.step k rec_ some s10 s11 a12 a13).bind g = f20.l10_1.step k (fun s10 s11 a12 a13 => (rec_ s10 s11 a12 a13).bind g) g s10 s11 a12 a13 := by
  simp only [f20.l10_1.step, bind_ite, bind_sum, Option.bind_assoc, Option.bind_some, Option.bind_none]
theorem f20.l10_1.good (k : Nat) (s10 : ByteArray) (s11 : ByteArray) (a12 : Int) (a13 : Int) : GoodL (f20.X k) (nthC 0 (loopsOf (bodyOf Tryd.f20))) (f20.l10_1.st s10 s11 a12 a13) { α := ((ByteArray × Int × Bool × ByteArray × Int) ⊕ (ByteArray × ByteArray × Int)), o := f20.l10_1 k k s10 s11 a12 a13, w := f20.l10_1.w } :=
  loop_good (ι := ByteArray × ByteArray × Int × Int) (α := ((ByteArray × Int × Bool × ByteArray × Int) ⊕ (ByteArray × ByteArray × Int))) (fun i => f20.l10_1.st i.1 i.2.1 i.2.2.1 i.2.2.2) (fun j i => f20.l10_1 k j i.1 i.2.1 i.2.2.1 i.2.2.2) f20.l10_1.w (fun rec_ ret i => f20.l10_1.step k (fun s10 s11 a12 a13 => rec_ (s10, s11, a12, a13)) ret i.1 i.2.1 i.2.2.1 i.2.2.2)
    (fun _ => rfl) (fun _ _ => rfl) (fun rec_ g i => f20.l10_1.nat k _ g i.1 i.2.1 i.2.2.1 i.2.2.2) (fun {R} i0 i rec_ K => by kernel_rfl) k (s10, s11, a12, a13)
theorem f20.l10_1.all (k : Nat) (S : St env) : GoodL (f20.X k) (nthC 0 (loopsOf (bodyOf Tryd.f20))) S (f20.l10_1.hd k S.ts S.m S.n) := by
  obtain ⟨ts_, m_, n_⟩ := S
  show GoodL _ _ _ (f20.l10_1.hd k ts_ m_ n_)
  unfold f20.l10_1.hd
  refine gTs_ok (p := GoodL _ _ _) goodL_no fun _ h => ?_
  subst h
  refine gV_ok (p := GoodL _ _ _) goodL_no fun _ _ h => ?_
  subst h
  refine rV_ok (p := GoodL _ _ _) goodL_no fun _ h => ?_
  subst h
  refine vS_ok (p := GoodL _ _ _) goodL_no fun _ h => ?_
  subst h
  refine gV_ok (p := GoodL _ _ _) goodL_no fun _ _ h => ?_
  subst h
  refine rV_ok (p := GoodL _ _ _) goodL_no fun _ h => ?_
  subst h
  refine vS_ok (p := GoodL _ _ _) goodL_no fun _ h => ?_
  subst h
  refine gV_ok (p := GoodL _ _ _) goodL_no fun _ _ h => ?_
  subst h
  refine rV_ok (p := GoodL _ _ _) goodL_no fun _ h => ?_
  subst h
  refine vI_ok (p := GoodL _ _ _) goodL_no fun _ h => ?_
  subst h
  refine gV_ok (p := GoodL _ _ _) goodL_no fun _ _ h => ?_
  subst h
  refine rV_ok (p := GoodL _ _ _) goodL_no fun _ h => ?_
  subst h
  refine vI_ok (p := GoodL _ _ _) goodL_no fun _ h => ?_
  subst h
  refine gE_ok (p := GoodL _ _ _) goodL_no fun h => ?_
  subst h
  refine gE_ok (p := GoodL _ _ _) goodL_no fun h => ?_
  subst h
  refine gN_ok (p := GoodL _ _ _) goodL_no fun h => ?_
  subst h
  exact f20.l10_1.good k _ _ _ _
theorem f20.l10.nat {R : Type} (k : Nat) (rec_ : ByteArray → ByteArray → Int → Int → Option ((ByteArray × Int × Bool × ByteArray × Int) ⊕ (ByteArray × ByteArray × Int))) (g : ((ByteArray × Int × Bool × ByteArray × Int) ⊕ (ByteArray × ByteArray × Int)) → Option R) (s2 : ByteArray) (s3 : ByteArray) (a4 : Int) (a5 : Int) : (f20.l10.step k rec_ some s2 s3 a4 a5).bind g = f20.l10.step k (fun s2 s3 a4 a5 => (rec_ s2 s3 a4 a5).bind g) g s2 s3 a4 a5 := by
  simp only [f20.l10.step, bind_ite, bind_sum, Option.bind_assoc, Option.bind_some, Option.bind_none]
theorem f20.l10.good (k : Nat) (s2 : ByteArray) (s3 : ByteArray) (a4 : Int) (a5 : Int) : GoodL (f20.X k) (nthC 0 (loopsOf (bodyOf Tryd.f20))) (f20.l10.st s2 s3 a4 a5) { α := ((ByteArray × Int × Bool × ByteArray × Int) ⊕ (ByteArray × ByteArray × Int)), o := f20.l10 k k s2 s3 a4 a5, w := f20.l10.w } :=
  loop_good (ι := ByteArray × ByteArray × Int × Int) (α := ((ByteArray × Int × Bool × ByteArray × Int) ⊕ (ByteArray × ByteArray × Int))) (fun i => f20.l10.st i.1 i.2.1 i.2.2.1 i.2.2.2) (fun j i => f20.l10 k j i.1 i.2.1 i.2.2.1 i.2.2.2) f20.l10.w (fun rec_ ret i => f20.l10.step k (fun s2 s3 a4 a5 => rec_ (s2, s3, a4, a5)) ret i.1 i.2.1 i.2.2.1 i.2.2.2)
    (fun _ => rfl) (fun _ _ => rfl) (fun rec_ g i => f20.l10.nat k _ g i.1 i.2.1 i.2.2.1 i.2.2.2) (fun {R} i0 i rec_ K => by kernel_rfl) k (s2, s3, a4, a5)
theorem f20.l10.all (k : Nat) (S : St env) : GoodL (f20.X k) (nthC 0 (loopsOf (bodyOf Tryd.f20))) S (f20.l10.hd k S.ts S.m S.n) := by
  obtain ⟨ts_, m_, n_⟩ := S
  have hN_ := f20.l10_1.all k ⟨ts_, m_, n_⟩
  show GoodL _ _ _ (f20.l10.hd k ts_ m_ n_)
  unfold f20.l10.hd
  refine gTs_ok (p := GoodL _ _ _) hN_ fun _ h => ?_
  subst h
  refine gV_ok (p := GoodL _ _ _) hN_ fun _ _ h => ?_
  subst h
  refine rV_ok (p := GoodL _ _ _) hN_ fun _ h => ?_
  subst h
  refine vS_ok (p := GoodL _ _ _) hN_ fun _ h => ?_
  subst h
  refine gV_ok (p := GoodL _ _ _) hN_ fun _ _ h => ?_
  subst h
  refine rV_ok (p := GoodL _ _ _) hN_ fun _ h => ?_
  subst h
  refine vS_ok (p := GoodL _ _ _) hN_ fun _ h => ?_
  subst h
  refine gV_ok (p := GoodL _ _ _) hN_ fun _ _ h => ?_
  subst h
  refine rV_ok (p := GoodL _ _ _) hN_ fun _ h => ?_
  subst h
  refine vI_ok (p := GoodL _ _ _) hN_ fun _ h => ?_
  subst h
  refine gV_ok (p := GoodL _ _ _) hN_ fun _ _ h => ?_
  subst h
  refine rV_ok (p := GoodL _ _ _) hN_ fun _ h => ?_
  subst h
  refine vI_ok (p := GoodL _ _ _) hN_ fun _ h => ?_
  subst h
  refine gE_ok (p := GoodL _ _ _) hN_ fun h => ?_
  subst h
  refine gE_ok (p := GoodL _ _ _) hN_ fun h => ?_
  subst h
  refine gN_ok (p := GoodL _ _ _) hN_ fun h => ?_
  subst h
  exact f20.l10.good k _ _ _ _
theorem f20.nat {R : Type} (k : Nat) (g : (Int × Bool) → Option R) (s1 : ByteArray) : f20.step k g s1 = (f20 k s1).bind g := by
  simp only [f20, f20.step, bind_ite, bind_sum, Option.bind_assoc, Option.bind_some, Option.bind_none]
theorem f20.ev (k : Nat) (s1 : ByteArray) : evF (f20.X k) (bodyOf Tryd.f20) Tryd.f20.ntmps Tryd.f20.results.toList [.v (.c (.s (.string s1)))] = f20.step k (fun x => f20.w x some) s1 := by kernel_rfl
theorem f20.hok (k : Nat) : HOK (f20.X k) (bodyOf Tryd.f20) where
  l := allP_mem (by exact ⟨ls_of (h0 := fun S => f20.l10.hd k S.ts S.m S.n) (by kernel_rfl) (f20.l10.all k), trivial⟩)
  j := allP_mem (by exact trivial)
theorem f20.sound (k : Nat) : SoundC env Tryd.prog 20 ((f20.e k).F) := by
  intro ps_
  show GoodC _ _ _ ps_ (f20.hd k ps_)
  unfold f20.hd
  refine gC_ok (p := GoodC env Tryd.prog 20 _) goodC_no fun _ _ h => ?_
  subst h
  refine qC_ok (p := GoodC env Tryd.prog 20 _) goodC_no fun _ h => ?_
  subst h
  refine qS_ok (p := GoodC env Tryd.prog 20 _) goodC_no fun _ h => ?_
  subst h
  refine vS_ok (p := GoodC env Tryd.prog 20 _) goodC_no fun _ h => ?_
  subst h
  refine gE_ok (p := GoodC env Tryd.prog 20 _) goodC_no fun h => ?_
  subst h
  exact fun_good (fun_sound envOK (cs_sound _ (by exact trivial)) (f20.hok k) Tryd.func20 rfl) ((f20.ev k _).trans (f20.nat k _ _))
theorem f20.says (k : Nat) (s1 : ByteArray) (t27 : Int × Bool) (h_ : f20 k s1 = some t27) : SoundAt env Tryd.prog 20 [.v (.c (.s (.string s1)))] ⟨.tup [.c (.s (.int .i64 t27.1)), .c (.s (.bool t27.2))], [[]]⟩ :=
  fun_sound envOK (cs_sound _ (by exact trivial)) (f20.hok k) Tryd.func20 rfl _ _ (((f20.ev k s1).trans (f20.nat k _ s1)).trans (by rw [h_]; rfl))
theorem f20.fnok : FnOK Tryd.prog 20 := fn_ok Tryd.func20 (by kernel_rfl) rfl
def f21.step {R : Type} (k : Nat) (ret : Bool → Option R) (a1 : Int) (a2 : Int) (a3 : Int) : Option R :=
  if (decide (a1 ≥ a2)) = true then
    ret (decide (a1 ≤ a3))
  else
    ret false
def f21 (k : Nat) (a1 : Int) (a2 : Int) (a3 : Int) : Option Bool := f21.step k some a1 a2 a3
def f21.w {R : Type} : Bool → (Res env → Option R) → Option R := fun t4 K => K ⟨.v (.c (.s (.bool t4))), [[], [], []]⟩
theorem f21.wn (x : Bool) : ∃ res, ∀ {R : Type} (K : Res env → Option R), f21.w x K = K res := by
  exact ⟨_, fun _ => rfl⟩
def f21.hd (k : Nat) (ps_ : List (P2 env)) : Cl env :=
  gC Cl.no ps_ fun p_ ps_ => qC Cl.no p_ fun c_ => qS Cl.no c_ fun v_ => vI Cl.no .i64 v_ fun a1 => gC Cl.no ps_ fun p_ ps_ => qC Cl.no p_ fun c_ => qS Cl.no c_ fun v_ => vI Cl.no .i64 v_ fun a2 => gC Cl.no ps_ fun p_ ps_ => qC Cl.no p_ fun c_ => qS Cl.no c_ fun v_ => vI Cl.no .i64 v_ fun a3 => gE Cl.no ps_ <| { α := Bool, o := f21 k a1 a2 a3, w := f21.w, nat := fun x _ => f21.wn x }
def f21.e (k : Nat) : Entry env := ⟨f21.hd k, [], []⟩
def f21.X (k : Nat) : Ctx env := { C := lookE [], L := lookE [], J := lookE [], keep := lookD [], keepX := lookD [], span := lookN [], eff := fun n => memN n [], prep := lookP [], np := 0 }
theorem f21.nat {R : Type} (k : Nat) (g : Bool → Option R) (a1 : Int) (a2 : Int) (a3 : Int) : f21.step k g a1 a2 a3 = (f21 k a1 a2 a3).bind g := by
  simp only [f21, f21.step, bind_ite, bind_sum, Option.bind_assoc, Option.bind_some, Option.bind_none]
theorem f21.ev (k : Nat) (a1 : Int) (a2 : Int) (a3 : Int) : evF (f21.X k) (bodyOf Tryd.f21) Tryd.f21.ntmps Tryd.f21.results.toList [.v (.c (.s (.int .i64 a1))), .v (.c (.s (.int .i64 a2))), .v (.c (.s (.int .i64 a3)))] = f21.step k (fun x => f21.w x some) a1 a2 a3 := by kernel_rfl
theorem f21.hok (k : Nat) : HOK (f21.X k) (bodyOf Tryd.f21) where
  l := allP_mem (by exact trivial)
  j := allP_mem (by exact trivial)
theorem f21.sound (k : Nat) : SoundC env Tryd.prog 21 ((f21.e k).F) := by
  intro ps_
  show GoodC _ _ _ ps_ (f21.hd k ps_)
  unfold f21.hd
  refine gC_ok (p := GoodC env Tryd.prog 21 _) goodC_no fun _ _ h => ?_
  subst h
  refine qC_ok (p := GoodC env Tryd.prog 21 _) goodC_no fun _ h => ?_
  subst h
  refine qS_ok (p := GoodC env Tryd.prog 21 _) goodC_no fun _ h => ?_
  subst h
  refine vI_ok (p := GoodC env Tryd.prog 21 _) goodC_no fun _ h => ?_
  subst h
  refine gC_ok (p := GoodC env Tryd.prog 21 _) goodC_no fun _ _ h => ?_
  subst h
  refine qC_ok (p := GoodC env Tryd.prog 21 _) goodC_no fun _ h => ?_
  subst h
  refine qS_ok (p := GoodC env Tryd.prog 21 _) goodC_no fun _ h => ?_
  subst h
  refine vI_ok (p := GoodC env Tryd.prog 21 _) goodC_no fun _ h => ?_
  subst h
  refine gC_ok (p := GoodC env Tryd.prog 21 _) goodC_no fun _ _ h => ?_
  subst h
  refine qC_ok (p := GoodC env Tryd.prog 21 _) goodC_no fun _ h => ?_
  subst h
  refine qS_ok (p := GoodC env Tryd.prog 21 _) goodC_no fun _ h => ?_
  subst h
  refine vI_ok (p := GoodC env Tryd.prog 21 _) goodC_no fun _ h => ?_
  subst h
  refine gE_ok (p := GoodC env Tryd.prog 21 _) goodC_no fun h => ?_
  subst h
  exact fun_good (fun_sound envOK (cs_sound _ (by exact trivial)) (f21.hok k) Tryd.func21 rfl) ((f21.ev k _ _ _).trans (f21.nat k _ _ _ _))
theorem f21.says (k : Nat) (a1 : Int) (a2 : Int) (a3 : Int) (t5 : Bool) (h_ : f21 k a1 a2 a3 = some t5) : SoundAt env Tryd.prog 21 [.v (.c (.s (.int .i64 a1))), .v (.c (.s (.int .i64 a2))), .v (.c (.s (.int .i64 a3)))] ⟨.v (.c (.s (.bool t5))), [[], [], []]⟩ :=
  fun_sound envOK (cs_sound _ (by exact trivial)) (f21.hok k) Tryd.func21 rfl _ _ (((f21.ev k a1 a2 a3).trans (f21.nat k _ a1 a2 a3)).trans (by rw [h_]; rfl))
theorem f21.fnok : FnOK Tryd.prog 21 := fn_ok Tryd.func21 (by kernel_rfl) rfl
def f16.l6.step {R : Type} (k : Nat) (rec_ : Int → Int → (List ByteArray) → (List Int) → Option R) (ret : ((ByteArray × Bool × (List Int)) ⊕ ((List Int))) → Option R) (a3 : Int) (a4 : Int) (xs5 : List ByteArray) (xs6 : List Int) : Option R :=
  if (decide (a4 < a3)) = true then
    if (0 : Int) ≤ a4 then
      if a4 < ((List.length xs5 : Nat) : Int) then
        (f20 k (List.getD xs5 (Int.toNat a4) ByteArray.empty)).bind fun t7 => if (!t7.2) = false then
            (f21 k t7.1 (0 : Int) (255 : Int)).bind fun t8 => if (!t8) = true then
                ret (.inl ((⟨#[]⟩ : ByteArray), false, xs6))
              else
                if (0 : Int) ≤ a4 then
                  if a4 < ((List.length xs6 : Nat) : Int) then
                    rec_ a3 (IntKind.i64.wrap (a4 + (1 : Int))) xs5 (List.set xs6 (Int.toNat a4) (IntKind.u8.wrap t7.1))
                  else none
                else none
          else
            ret (.inl ((⟨#[]⟩ : ByteArray), false, xs6))
      else none
    else none
  else
    ret (.inr xs6)
def f16.l6 (k : Nat) : Nat → Int → Int → (List ByteArray) → (List Int) → Option ((ByteArray × Bool × (List Int)) ⊕ ((List Int)))
  | 0, _, _, _, _ => none
  | j + 1, a3, a4, xs5, xs6 => f16.l6.step k (fun a3 a4 xs5 xs6 => f16.l6 k j a3 a4 xs5 xs6) some a3 a4 xs5 xs6
def f16.l6.w {R : Type} : ((ByteArray × Bool × (List Int)) ⊕ ((List Int))) → (Exit → St env → Option R) → Option R := fun x K => Sum.elim (fun t11 => K .ret ⟨fullT [2, 3, 5] 0 43 [.v (.c (.s (.string t11.1))), .v (.c (.s (.bool t11.2.1))), .v (.c (.row 129))], [(129, .row true 5 t11.2.2)], 689⟩) (fun t12 => K (.exit 0) ⟨fullT [5] 0 43 [.v (.c (.row 129))], [(129, .row true 5 t12)], 689⟩) x
def f16.l6.st (a3 : Int) (a4 : Int) (xs5 : List ByteArray) (xs6 : List Int) : St env := ⟨fullT [5, 16, 17, 18] 0 43 [.v (.c (.row 129)), .v (.c (.row 49)), .v (.c (.s (.int .i64 a3))), .v (.c (.s (.int .i64 a4)))], [(49, .row true 9 xs5), (129, .row true 5 xs6)], 209⟩
def f16.l6.hd (k : Nat) (ts_ : List (AV env)) (mm_ : Mem env) (n_ : Nat) : LCl env :=
  gTs LCl.no [5, 16, 17, 18] 43 ts_ fun l_ => gV LCl.no l_ fun a_ l_ => rRow LCl.no 129 a_ <| gV LCl.no l_ fun a_ l_ => rRow LCl.no 49 a_ <| gV LCl.no l_ fun a_ l_ => rV LCl.no a_ fun v_ => vI LCl.no .i64 v_ fun a3 => gV LCl.no l_ fun a_ l_ => rV LCl.no a_ fun v_ => vI LCl.no .i64 v_ fun a4 => gE LCl.no l_ <| mRow LCl.no 49 true 9 mm_ fun xs5 m_ => mRow LCl.no 129 true 5 m_ fun xs6 m_ => gE LCl.no m_ <| gN LCl.no 209 n_ { α := (ByteArray × Bool × (List Int)) ⊕ ((List Int)), o := f16.l6 k k a3 a4 xs5 xs6, w := f16.l6.w }
def f16.step {R : Type} (k : Nat) (ret : (ByteArray × Bool) → Option R) (s1 : ByteArray) : Option R :=
  (f36 k s1 (⟨#[46]⟩ : ByteArray)).bind fun t2 => if (decide ((((List.length t2) : Nat) : Int) ≠ (4 : Int))) = true then
      ret ((⟨#[]⟩ : ByteArray), false)
    else
      (f16.l6 k k (((List.length t2) : Nat) : Int) (0 : Int) t2 (List.replicate 4 (0 : Int))).bind (Sum.elim (fun t9 => ret (t9.1, t9.2.1)) (fun t10 => ret ((strOf t10), true)))
def f16 (k : Nat) (s1 : ByteArray) : Option (ByteArray × Bool) := f16.step k some s1
def f16.w {R : Type} : (ByteArray × Bool) → (Res env → Option R) → Option R := fun t13 K => K ⟨.tup [.c (.s (.string t13.1)), .c (.s (.bool t13.2))], [[]]⟩
theorem f16.wn (x : (ByteArray × Bool)) : ∃ res, ∀ {R : Type} (K : Res env → Option R), f16.w x K = K res := by
  exact ⟨_, fun _ => rfl⟩
def f16.hd (k : Nat) (ps_ : List (P2 env)) : Cl env :=
  gC Cl.no ps_ fun p_ ps_ => qC Cl.no p_ fun c_ => qS Cl.no c_ fun v_ => vS Cl.no v_ fun s1 => gE Cl.no ps_ <| { α := ByteArray × Bool, o := f16 k s1, w := f16.w, nat := fun x _ => f16.wn x }
def f16.e (k : Nat) : Entry env := ⟨f16.hd k, [], []⟩
def f16.X (k : Nat) : Ctx env := { C := lookE [(20, f20.e k), (21, f21.e k), (36, f36.e k)], L := lookE [(6, fun S => f16.l6.hd k S.ts S.m S.n)], J := lookE [], keep := lookD [(6, [5, 16, 17, 18])], keepX := lookD [(6, [2, 3, 5])], span := lookN [(6, 480)], eff := fun n => memN n [], prep := lookP [], np := 0 }
theorem f16.l6.nat {R : Type} (k : Nat) (rec_ : Int → Int → (List ByteArray) → (List Int) → Option ((ByteArray × Bool × (List Int)) ⊕ ((List Int)))) (g : ((ByteArray × Bool × (List Int)) ⊕ ((List Int))) → Option R) (a3 : Int) (a4 : Int) (xs5 : List ByteArray) (xs6 : List Int) : (f16.l6.step k rec_ some a3 a4 xs5 xs6).bind g = f16.l6.step k (fun a3 a4 xs5 xs6 => (rec_ a3 a4 xs5 xs6).bind g) g a3 a4 xs5 xs6 := by
  simp only [f16.l6.step, bind_ite, bind_sum, Option.bind_assoc, Option.bind_some, Option.bind_none]
theorem f16.l6.good (k : Nat) (a3 : Int) (a4 : Int) (xs5 : List ByteArray) (xs6 : List Int) : GoodL (f16.X k) (nthC 0 (loopsOf (bodyOf Tryd.f16))) (f16.l6.st a3 a4 xs5 xs6) { α := ((ByteArray × Bool × (List Int)) ⊕ ((List Int))), o := f16.l6 k k a3 a4 xs5 xs6, w := f16.l6.w } :=
  loop_good (ι := Int × Int × (List ByteArray) × (List Int)) (α := ((ByteArray × Bool × (List Int)) ⊕ ((List Int)))) (fun i => f16.l6.st i.1 i.2.1 i.2.2.1 i.2.2.2) (fun j i => f16.l6 k j i.1 i.2.1 i.2.2.1 i.2.2.2) f16.l6.w (fun rec_ ret i => f16.l6.step k (fun a3 a4 xs5 xs6 => rec_ (a3, a4, xs5, xs6)) ret i.1 i.2.1 i.2.2.1 i.2.2.2)
    (fun _ => rfl) (fun _ _ => rfl) (fun rec_ g i => f16.l6.nat k _ g i.1 i.2.1 i.2.2.1 i.2.2.2) (fun {R} i0 i rec_ K => by kernel_rfl) k (a3, a4, xs5, xs6)
theorem f16.l6.all (k : Nat) (S : St env) : GoodL (f16.X k) (nthC 0 (loopsOf (bodyOf Tryd.f16))) S (f16.l6.hd k S.ts S.m S.n) := by
  obtain ⟨ts_, m_, n_⟩ := S
  show GoodL _ _ _ (f16.l6.hd k ts_ m_ n_)
  unfold f16.l6.hd
  refine gTs_ok (p := GoodL _ _ _) goodL_no fun _ h => ?_
  subst h
  refine gV_ok (p := GoodL _ _ _) goodL_no fun _ _ h => ?_
  subst h
  refine rRow_ok (p := GoodL _ _ _) goodL_no fun h => ?_
  subst h
  refine gV_ok (p := GoodL _ _ _) goodL_no fun _ _ h => ?_
  subst h
  refine rRow_ok (p := GoodL _ _ _) goodL_no fun h => ?_
  subst h
  refine gV_ok (p := GoodL _ _ _) goodL_no fun _ _ h => ?_
  subst h
  refine rV_ok (p := GoodL _ _ _) goodL_no fun _ h => ?_
  subst h
  refine vI_ok (p := GoodL _ _ _) goodL_no fun _ h => ?_
  subst h
  refine gV_ok (p := GoodL _ _ _) goodL_no fun _ _ h => ?_
  subst h
  refine rV_ok (p := GoodL _ _ _) goodL_no fun _ h => ?_
  subst h
  refine vI_ok (p := GoodL _ _ _) goodL_no fun _ h => ?_
  subst h
  refine gE_ok (p := GoodL _ _ _) goodL_no fun h => ?_
  subst h
  refine mRow_ok (p := GoodL _ _ _) goodL_no fun _ _ h => ?_
  subst h
  refine mRow_ok (p := GoodL _ _ _) goodL_no fun _ _ h => ?_
  subst h
  refine gE_ok (p := GoodL _ _ _) goodL_no fun h => ?_
  subst h
  refine gN_ok (p := GoodL _ _ _) goodL_no fun h => ?_
  subst h
  exact f16.l6.good k _ _ _ _
theorem f16.nat {R : Type} (k : Nat) (g : (ByteArray × Bool) → Option R) (s1 : ByteArray) : f16.step k g s1 = (f16 k s1).bind g := by
  simp only [f16, f16.step, bind_ite, bind_sum, Option.bind_assoc, Option.bind_some, Option.bind_none]
theorem f16.ev (k : Nat) (s1 : ByteArray) : evF (f16.X k) (bodyOf Tryd.f16) Tryd.f16.ntmps Tryd.f16.results.toList [.v (.c (.s (.string s1)))] = f16.step k (fun x => f16.w x some) s1 := by kernel_rfl
theorem f16.hok (k : Nat) : HOK (f16.X k) (bodyOf Tryd.f16) where
  l := allP_mem (by exact ⟨ls_of (h0 := fun S => f16.l6.hd k S.ts S.m S.n) (by kernel_rfl) (f16.l6.all k), trivial⟩)
  j := allP_mem (by exact trivial)
theorem f16.sound (k : Nat) : SoundC env Tryd.prog 16 ((f16.e k).F) := by
  intro ps_
  show GoodC _ _ _ ps_ (f16.hd k ps_)
  unfold f16.hd
  refine gC_ok (p := GoodC env Tryd.prog 16 _) goodC_no fun _ _ h => ?_
  subst h
  refine qC_ok (p := GoodC env Tryd.prog 16 _) goodC_no fun _ h => ?_
  subst h
  refine qS_ok (p := GoodC env Tryd.prog 16 _) goodC_no fun _ h => ?_
  subst h
  refine vS_ok (p := GoodC env Tryd.prog 16 _) goodC_no fun _ h => ?_
  subst h
  refine gE_ok (p := GoodC env Tryd.prog 16 _) goodC_no fun h => ?_
  subst h
  exact fun_good (fun_sound envOK (cs_sound _ (by exact ⟨⟨f20.sound k, f20.fnok⟩, ⟨f21.sound k, f21.fnok⟩, ⟨f36.sound k, f36.fnok⟩, trivial⟩)) (f16.hok k) Tryd.func16 rfl) ((f16.ev k _).trans (f16.nat k _ _))
theorem f16.says (k : Nat) (s1 : ByteArray) (t14 : ByteArray × Bool) (h_ : f16 k s1 = some t14) : SoundAt env Tryd.prog 16 [.v (.c (.s (.string s1)))] ⟨.tup [.c (.s (.string t14.1)), .c (.s (.bool t14.2))], [[]]⟩ :=
  fun_sound envOK (cs_sound _ (by exact ⟨⟨f20.sound k, f20.fnok⟩, ⟨f21.sound k, f21.fnok⟩, ⟨f36.sound k, f36.fnok⟩, trivial⟩)) (f16.hok k) Tryd.func16 rfl _ _ (((f16.ev k s1).trans (f16.nat k _ s1)).trans (by rw [h_]; rfl))
theorem f16.fnok : FnOK Tryd.prog 16 := fn_ok Tryd.func16 (by kernel_rfl) rfl
def f60.step {R : Type} (k : Nat) (ret : Int → Option R) (a1 : Int) : Option R :=
  if (decide (a1 ≥ (48 : Int))) = true then
    if (decide (a1 ≤ (57 : Int))) = true then
      ret (IntKind.i64.wrap (IntKind.u8.wrap (a1 - (48 : Int))))
    else
      if (decide (a1 ≥ (97 : Int))) = true then
        if (decide (a1 ≤ (102 : Int))) = true then
          ret (IntKind.i64.wrap ((IntKind.i64.wrap (IntKind.u8.wrap (a1 - (97 : Int)))) + (10 : Int)))
        else
          if (decide (a1 ≥ (65 : Int))) = true then
            if (decide (a1 ≤ (70 : Int))) = true then
              ret (IntKind.i64.wrap ((IntKind.i64.wrap (IntKind.u8.wrap (a1 - (65 : Int)))) + (10 : Int)))
            else
              ret (-1 : Int)
          else
            ret (-1 : Int)
      else
        if (decide (a1 ≥ (65 : Int))) = true then
          if (decide (a1 ≤ (70 : Int))) = true then
            ret (IntKind.i64.wrap ((IntKind.i64.wrap (IntKind.u8.wrap (a1 - (65 : Int)))) + (10 : Int)))
          else
            ret (-1 : Int)
        else
          ret (-1 : Int)
  else
    if (decide (a1 ≥ (97 : Int))) = true then
      if (decide (a1 ≤ (102 : Int))) = true then
        ret (IntKind.i64.wrap ((IntKind.i64.wrap (IntKind.u8.wrap (a1 - (97 : Int)))) + (10 : Int)))
      else
        if (decide (a1 ≥ (65 : Int))) = true then
          if (decide (a1 ≤ (70 : Int))) = true then
            ret (IntKind.i64.wrap ((IntKind.i64.wrap (IntKind.u8.wrap (a1 - (65 : Int)))) + (10 : Int)))
          else
            ret (-1 : Int)
        else
          ret (-1 : Int)
    else
      if (decide (a1 ≥ (65 : Int))) = true then
        if (decide (a1 ≤ (70 : Int))) = true then
          ret (IntKind.i64.wrap ((IntKind.i64.wrap (IntKind.u8.wrap (a1 - (65 : Int)))) + (10 : Int)))
        else
          ret (-1 : Int)
      else
        ret (-1 : Int)
def f60 (k : Nat) (a1 : Int) : Option Int := f60.step k some a1
def f60.w {R : Type} : Int → (Res env → Option R) → Option R := fun t2 K => K ⟨.v (.c (.s (.int .i64 t2))), [[]]⟩
theorem f60.wn (x : Int) : ∃ res, ∀ {R : Type} (K : Res env → Option R), f60.w x K = K res := by
  exact ⟨_, fun _ => rfl⟩
def f60.hd (k : Nat) (ps_ : List (P2 env)) : Cl env :=
  gC Cl.no ps_ fun p_ ps_ => qC Cl.no p_ fun c_ => qS Cl.no c_ fun v_ => vI Cl.no .u8 v_ fun a1 => gE Cl.no ps_ <| { α := Int, o := f60 k a1, w := f60.w, nat := fun x _ => f60.wn x }
def f60.e (k : Nat) : Entry env := ⟨f60.hd k, [], []⟩
def f60.X (k : Nat) : Ctx env := { C := lookE [], L := lookE [], J := lookE [], keep := lookD [], keepX := lookD [], span := lookN [], eff := fun n => memN n [], prep := lookP [], np := 0 }
theorem f60.nat {R : Type} (k : Nat) (g : Int → Option R) (a1 : Int) : f60.step k g a1 = (f60 k a1).bind g := by
  simp only [f60, f60.step, bind_ite, bind_sum, Option.bind_assoc, Option.bind_some, Option.bind_none]
theorem f60.ev (k : Nat) (a1 : Int) : evF (f60.X k) (bodyOf Tryd.f60) Tryd.f60.ntmps Tryd.f60.results.toList [.v (.c (.s (.int .u8 a1)))] = f60.step k (fun x => f60.w x some) a1 := by kernel_rfl
theorem f60.hok (k : Nat) : HOK (f60.X k) (bodyOf Tryd.f60) where
  l := allP_mem (by exact trivial)
  j := allP_mem (by exact trivial)
theorem f60.sound (k : Nat) : SoundC env Tryd.prog 60 ((f60.e k).F) := by
  intro ps_
  show GoodC _ _ _ ps_ (f60.hd k ps_)
  unfold f60.hd
  refine gC_ok (p := GoodC env Tryd.prog 60 _) goodC_no fun _ _ h => ?_
  subst h
  refine qC_ok (p := GoodC env Tryd.prog 60 _) goodC_no fun _ h => ?_
  subst h
  refine qS_ok (p := GoodC env Tryd.prog 60 _) goodC_no fun _ h => ?_
  subst h
  refine vI_ok (p := GoodC env Tryd.prog 60 _) goodC_no fun _ h => ?_
  subst h
  refine gE_ok (p := GoodC env Tryd.prog 60 _) goodC_no fun h => ?_
  subst h
  exact fun_good (fun_sound envOK (cs_sound _ (by exact trivial)) (f60.hok k) Tryd.func60 rfl) ((f60.ev k _).trans (f60.nat k _ _))
theorem f60.says (k : Nat) (a1 : Int) (t3 : Int) (h_ : f60 k a1 = some t3) : SoundAt env Tryd.prog 60 [.v (.c (.s (.int .u8 a1)))] ⟨.v (.c (.s (.int .i64 t3))), [[]]⟩ :=
  fun_sound envOK (cs_sound _ (by exact trivial)) (f60.hok k) Tryd.func60 rfl _ _ (((f60.ev k a1).trans (f60.nat k _ a1)).trans (by rw [h_]; rfl))
theorem f60.fnok : FnOK Tryd.prog 60 := fn_ok Tryd.func60 (by kernel_rfl) rfl
def f61.step {R : Type} (k : Nat) (ret : ((List Int)) → Option R) (a1 : Int) : Option R :=
  ret ([(IntKind.u8.wrap (Int.fdiv a1 (2 ^ (min (8 : Int).toNat IntKind.i64.bits)))), (IntKind.u8.wrap a1)] : List Int)
def f61 (k : Nat) (a1 : Int) : Option ((List Int)) := f61.step k some a1
def f61.w {R : Type} : ((List Int)) → (Res env → Option R) → Option R := fun t2 K => K ⟨.v (.c (.own true 5 t2)), [[]]⟩
theorem f61.wn (x : ((List Int))) : ∃ res, ∀ {R : Type} (K : Res env → Option R), f61.w x K = K res := by
  exact ⟨_, fun _ => rfl⟩
def f61.hd (k : Nat) (ps_ : List (P2 env)) : Cl env :=
  gC Cl.no ps_ fun p_ ps_ => qC Cl.no p_ fun c_ => qS Cl.no c_ fun v_ => vI Cl.no .i64 v_ fun a1 => gE Cl.no ps_ <| { α := (List Int), o := f61 k a1, w := f61.w, nat := fun x _ => f61.wn x }
def f61.e (k : Nat) : Entry env := ⟨f61.hd k, [], []⟩
def f61.X (k : Nat) : Ctx env := { C := lookE [], L := lookE [], J := lookE [], keep := lookD [], keepX := lookD [], span := lookN [], eff := fun n => memN n [], prep := lookP [], np := 0 }
theorem f61.nat {R : Type} (k : Nat) (g : ((List Int)) → Option R) (a1 : Int) : f61.step k g a1 = (f61 k a1).bind g := by
  simp only [f61, f61.step, bind_ite, bind_sum, Option.bind_assoc, Option.bind_some, Option.bind_none]
theorem f61.ev (k : Nat) (a1 : Int) : evF (f61.X k) (bodyOf Tryd.f61) Tryd.f61.ntmps Tryd.f61.results.toList [.v (.c (.s (.int .i64 a1)))] = f61.step k (fun x => f61.w x some) a1 := by kernel_rfl
theorem f61.hok (k : Nat) : HOK (f61.X k) (bodyOf Tryd.f61) where
  l := allP_mem (by exact trivial)
  j := allP_mem (by exact trivial)
theorem f61.sound (k : Nat) : SoundC env Tryd.prog 61 ((f61.e k).F) := by
  intro ps_
  show GoodC _ _ _ ps_ (f61.hd k ps_)
  unfold f61.hd
  refine gC_ok (p := GoodC env Tryd.prog 61 _) goodC_no fun _ _ h => ?_
  subst h
  refine qC_ok (p := GoodC env Tryd.prog 61 _) goodC_no fun _ h => ?_
  subst h
  refine qS_ok (p := GoodC env Tryd.prog 61 _) goodC_no fun _ h => ?_
  subst h
  refine vI_ok (p := GoodC env Tryd.prog 61 _) goodC_no fun _ h => ?_
  subst h
  refine gE_ok (p := GoodC env Tryd.prog 61 _) goodC_no fun h => ?_
  subst h
  exact fun_good (fun_sound envOK (cs_sound _ (by exact trivial)) (f61.hok k) Tryd.func61 rfl) ((f61.ev k _).trans (f61.nat k _ _))
theorem f61.says (k : Nat) (a1 : Int) (t3 : (List Int)) (h_ : f61 k a1 = some t3) : SoundAt env Tryd.prog 61 [.v (.c (.s (.int .i64 a1)))] ⟨.v (.c (.own true 5 t3)), [[]]⟩ :=
  fun_sound envOK (cs_sound _ (by exact trivial)) (f61.hok k) Tryd.func61 rfl _ _ (((f61.ev k a1).trans (f61.nat k _ a1)).trans (by rw [h_]; rfl))
theorem f61.fnok : FnOK Tryd.prog 61 := fn_ok Tryd.func61 (by kernel_rfl) rfl
def f37.l11.step {R : Type} (k : Nat) (rec_ : ByteArray → Int → Int → Int → Int → (List Int) → (List ByteArray) → Option R) (ret : ((Bool × Int × Int × Int × (List Int) × (List ByteArray)) ⊕ (Int × Int × Int × (List Int) × (List ByteArray))) → Option R) (s7 : ByteArray) (a8 : Int) (a9 : Int) (a10 : Int) (a11 : Int) (xs12 : List Int) (xs13 : List ByteArray) : Option R :=
  if (decide (a9 < (((ByteArray.size s7) : Nat) : Int))) = true then
    if (0 : Int) ≤ a9 then
      if a9 < ((ByteArray.size s7 : Nat) : Int) then
        (f60 k (bt s7 a9)).bind fun t14 => if (decide (t14 < (0 : Int))) = true then
            ret (.inl (false, a8, a10, a11, xs12, xs13))
          else
            rec_ s7 (IntKind.i64.wrap ((IntKind.i64.wrap ((16 : Int) * a8)) + t14)) (IntKind.i64.wrap (a9 + (1 : Int))) a10 a11 xs12 xs13
      else none
    else none
  else
    ret (.inr (a8, a10, a11, xs12, xs13))
def f37.l11 (k : Nat) : Nat → ByteArray → Int → Int → Int → Int → (List Int) → (List ByteArray) → Option ((Bool × Int × Int × Int × (List Int) × (List ByteArray)) ⊕ (Int × Int × Int × (List Int) × (List ByteArray)))
  | 0, _, _, _, _, _, _, _ => none
  | j + 1, s7, a8, a9, a10, a11, xs12, xs13 => f37.l11.step k (fun s7 a8 a9 a10 a11 xs12 xs13 => f37.l11 k j s7 a8 a9 a10 a11 xs12 xs13) some s7 a8 a9 a10 a11 xs12 xs13
def f37.l11.w {R : Type} : ((Bool × Int × Int × Int × (List Int) × (List ByteArray)) ⊕ (Int × Int × Int × (List Int) × (List ByteArray))) → (Exit → St env → Option R) → Option R := fun x K => Sum.elim (fun t20 => K .ret ⟨fullT [2, 3, 4, 7, 15, 16, 17] 0 51 [.v (.c (.s (.slice none 0 0))), .v (.c (.s (.bool t20.1))), .v (.c (.row 33)), .v (.c (.s (.int .i64 t20.2.1))), .v (.c (.row 113)), .v (.c (.s (.int .i64 t20.2.2.1))), .v (.c (.s (.int .i64 t20.2.2.2.1)))], [(33, .row true 5 t20.2.2.2.2.1), (113, .row true 9 t20.2.2.2.2.2)], 721⟩) (fun t21 => K (.exit 2) ⟨fullT [4, 7, 15, 16, 17] 0 51 [.v (.c (.row 33)), .v (.c (.s (.int .i64 t21.1))), .v (.c (.row 113)), .v (.c (.s (.int .i64 t21.2.1))), .v (.c (.s (.int .i64 t21.2.2.1)))], [(33, .row true 5 t21.2.2.2.1), (113, .row true 9 t21.2.2.2.2)], 721⟩) x
def f37.l11.st (s7 : ByteArray) (a8 : Int) (a9 : Int) (a10 : Int) (a11 : Int) (xs12 : List Int) (xs13 : List ByteArray) : St env := ⟨fullT [4, 6, 7, 8, 15, 16, 17] 0 51 [.v (.c (.row 33)), .v (.c (.s (.string s7))), .v (.c (.s (.int .i64 a8))), .v (.c (.s (.int .i64 a9))), .v (.c (.row 113)), .v (.c (.s (.int .i64 a10))), .v (.c (.s (.int .i64 a11)))], [(33, .row true 5 xs12), (113, .row true 9 xs13)], 385⟩
def f37.l5.step {R : Type} (k : Nat) (rec_ : Int → Int → (List Int) → (List ByteArray) → Option R) (ret : ((Bool × (List Int)) ⊕ ((List Int))) → Option R) (a3 : Int) (a4 : Int) (xs5 : List Int) (xs6 : List ByteArray) : Option R :=
  if (decide (a4 < a3)) = true then
    if (0 : Int) ≤ a4 then
      if a4 < ((List.length xs6 : Nat) : Int) then
        if (decide ((((ByteArray.size (List.getD xs6 (Int.toNat a4) ByteArray.empty)) : Nat) : Int) < (1 : Int))) = false then
          if (decide ((((ByteArray.size (List.getD xs6 (Int.toNat a4) ByteArray.empty)) : Nat) : Int) > (4 : Int))) = true then
            ret (.inl (false, xs5))
          else
            (f37.l11 k k (List.getD xs6 (Int.toNat a4) ByteArray.empty) (0 : Int) (0 : Int) a3 a4 xs5 xs6).bind (Sum.elim (fun t15 => ret (.inl (t15.1, t15.2.2.2.2.1))) (fun t16 => (f61 k t16.1).bind fun t17 => if (List.length t16.2.2.2.1 + List.length t17) * 1 ≤ maxN then
                  rec_ t16.2.1 (IntKind.i64.wrap (t16.2.2.1 + (1 : Int))) (t16.2.2.2.1 ++ t17) t16.2.2.2.2
                else none))
        else
          ret (.inl (false, xs5))
      else none
    else none
  else
    ret (.inr xs5)
def f37.l5 (k : Nat) : Nat → Int → Int → (List Int) → (List ByteArray) → Option ((Bool × (List Int)) ⊕ ((List Int)))
  | 0, _, _, _, _ => none
  | j + 1, a3, a4, xs5, xs6 => f37.l5.step k (fun a3 a4 xs5 xs6 => f37.l5 k j a3 a4 xs5 xs6) some a3 a4 xs5 xs6
def f37.l5.w {R : Type} : ((Bool × (List Int)) ⊕ ((List Int))) → (Exit → St env → Option R) → Option R := fun x K => Sum.elim (fun t22 => K .ret ⟨fullT [2, 3, 4] 0 51 [.v (.c (.s (.slice none 0 0))), .v (.c (.s (.bool t22.1))), .v (.c (.row 33))], [(33, .row true 5 t22.2)], 865⟩) (fun t23 => K (.exit 0) ⟨fullT [4] 0 51 [.v (.c (.row 33))], [(33, .row true 5 t23)], 865⟩) x
def f37.l5.st (a3 : Int) (a4 : Int) (xs5 : List Int) (xs6 : List ByteArray) : St env := ⟨fullT [4, 15, 16, 17] 0 51 [.v (.c (.row 33)), .v (.c (.row 113)), .v (.c (.s (.int .i64 a3))), .v (.c (.s (.int .i64 a4)))], [(33, .row true 5 xs5), (113, .row true 9 xs6)], 161⟩
def f37.l11.hd (k : Nat) (ts_ : List (AV env)) (mm_ : Mem env) (n_ : Nat) : LCl env :=
  gTs LCl.no [4, 6, 7, 8, 15, 16, 17] 51 ts_ fun l_ => gV LCl.no l_ fun a_ l_ => rRow LCl.no 33 a_ <| gV LCl.no l_ fun a_ l_ => rV LCl.no a_ fun v_ => vS LCl.no v_ fun s7 => gV LCl.no l_ fun a_ l_ => rV LCl.no a_ fun v_ => vI LCl.no .i64 v_ fun a8 => gV LCl.no l_ fun a_ l_ => rV LCl.no a_ fun v_ => vI LCl.no .i64 v_ fun a9 => gV LCl.no l_ fun a_ l_ => rRow LCl.no 113 a_ <| gV LCl.no l_ fun a_ l_ => rV LCl.no a_ fun v_ => vI LCl.no .i64 v_ fun a10 => gV LCl.no l_ fun a_ l_ => rV LCl.no a_ fun v_ => vI LCl.no .i64 v_ fun a11 => gE LCl.no l_ <| mRow LCl.no 33 true 5 mm_ fun xs12 m_ => mRow LCl.no 113 true 9 m_ fun xs13 m_ => gE LCl.no m_ <| gN LCl.no 385 n_ { α := (Bool × Int × Int × Int × (List Int) × (List ByteArray)) ⊕ (Int × Int × Int × (List Int) × (List ByteArray)), o := f37.l11 k k s7 a8 a9 a10 a11 xs12 xs13, w := f37.l11.w }
def f37.l5.hd (k : Nat) (ts_ : List (AV env)) (mm_ : Mem env) (n_ : Nat) : LCl env :=
  gTs LCl.no [4, 15, 16, 17] 51 ts_ fun l_ => gV LCl.no l_ fun a_ l_ => rRow LCl.no 33 a_ <| gV LCl.no l_ fun a_ l_ => rRow LCl.no 113 a_ <| gV LCl.no l_ fun a_ l_ => rV LCl.no a_ fun v_ => vI LCl.no .i64 v_ fun a3 => gV LCl.no l_ fun a_ l_ => rV LCl.no a_ fun v_ => vI LCl.no .i64 v_ fun a4 => gE LCl.no l_ <| mRow LCl.no 33 true 5 mm_ fun xs5 m_ => mRow LCl.no 113 true 9 m_ fun xs6 m_ => gE LCl.no m_ <| gN LCl.no 161 n_ { α := (Bool × (List Int)) ⊕ ((List Int)), o := f37.l5 k k a3 a4 xs5 xs6, w := f37.l5.w }
def f37.step {R : Type} (k : Nat) (ret : (((List Int) × Bool) ⊕ (Bool)) → Option R) (s1 : ByteArray) : Option R :=
  if (decide (ByteArray.toList s1 = ByteArray.toList (⟨#[]⟩ : ByteArray))) = true then
    ret (.inl (([] : List Int), true))
  else
    (f36 k s1 (⟨#[58]⟩ : ByteArray)).bind fun t2 => (f37.l5 k k (((List.length t2) : Nat) : Int) (0 : Int) ([] : List Int) t2).bind (Sum.elim (fun t18 => ret (.inr t18.1)) (fun t19 => ret (.inl (t19, true))))
def f37 (k : Nat) (s1 : ByteArray) : Option (((List Int) × Bool) ⊕ (Bool)) := f37.step k some s1
def f37.w {R : Type} : (((List Int) × Bool) ⊕ (Bool)) → (Res env → Option R) → Option R := fun x K => Sum.elim (fun t24 => K ⟨.tup [.c (.own true 5 t24.1), .c (.s (.bool t24.2))], [[]]⟩) (fun t25 => K ⟨.tup [.c (.s (.slice none 0 0)), .c (.s (.bool t25))], [[]]⟩) x
theorem f37.wn (x : (((List Int) × Bool) ⊕ (Bool))) : ∃ res, ∀ {R : Type} (K : Res env → Option R), f37.w x K = K res := by
  rcases x with x | x <;> exact ⟨_, fun _ => rfl⟩
def f37.hd (k : Nat) (ps_ : List (P2 env)) : Cl env :=
  gC Cl.no ps_ fun p_ ps_ => qC Cl.no p_ fun c_ => qS Cl.no c_ fun v_ => vS Cl.no v_ fun s1 => gE Cl.no ps_ <| { α := ((List Int) × Bool) ⊕ (Bool), o := f37 k s1, w := f37.w, nat := fun x _ => f37.wn x }
def f37.e (k : Nat) : Entry env := ⟨f37.hd k, [], []⟩
def f37.X (k : Nat) : Ctx env := { C := lookE [(36, f36.e k), (60, f60.e k), (61, f61.e k)], L := lookE [(11, fun S => f37.l11.hd k S.ts S.m S.n), (5, fun S => f37.l5.hd k S.ts S.m S.n)], J := lookE [], keep := lookD [(11, [4, 6, 7, 8, 15, 16, 17]), (5, [4, 15, 16, 17])], keepX := lookD [(11, [2, 3, 4, 7, 15, 16, 17]), (5, [2, 3, 4])], span := lookN [(11, 336), (5, 704)], eff := fun n => memN n [], prep := lookP [], np := 0 }
theorem f37.l11.nat {R : Type} (k : Nat) (rec_ : ByteArray → Int → Int → Int → Int → (List Int) → (List ByteArray) → Option ((Bool × Int × Int × Int × (List Int) × (List ByteArray)) ⊕ (Int × Int × Int × (List Int) × (List ByteArray)))) (g : ((Bool × Int × Int × Int × (List Int) × (List ByteArray)) ⊕ (Int × Int × Int × (List Int) × (List ByteArray))) → Option R) (s7 : ByteArray) (a8 : Int) (a9 : Int) (a10 : Int) (a11 : Int) (xs12 : List Int) (xs13 : List ByteArray) : (f37.l11.step k rec_ some s7 a8 a9 a10 a11 xs12 xs13).bind g = f37.l11.step k (fun s7 a8 a9 a10 a11 xs12 xs13 => (rec_ s7 a8 a9 a10 a11 xs12 xs13).bind g) g s7 a8 a9 a10 a11 xs12 xs13 := by
  simp only [f37.l11.step, bind_ite, bind_sum, Option.bind_assoc, Option.bind_some, Option.bind_none]
theorem f37.l11.good (k : Nat) (s7 : ByteArray) (a8 : Int) (a9 : Int) (a10 : Int) (a11 : Int) (xs12 : List Int) (xs13 : List ByteArray) : GoodL (f37.X k) (nthC 1 (loopsOf (bodyOf Tryd.f37))) (f37.l11.st s7 a8 a9 a10 a11 xs12 xs13) { α := ((Bool × Int × Int × Int × (List Int) × (List ByteArray)) ⊕ (Int × Int × Int × (List Int) × (List ByteArray))), o := f37.l11 k k s7 a8 a9 a10 a11 xs12 xs13, w := f37.l11.w } :=
  loop_good (ι := ByteArray × Int × Int × Int × Int × (List Int) × (List ByteArray)) (α := ((Bool × Int × Int × Int × (List Int) × (List ByteArray)) ⊕ (Int × Int × Int × (List Int) × (List ByteArray)))) (fun i => f37.l11.st i.1 i.2.1 i.2.2.1 i.2.2.2.1 i.2.2.2.2.1 i.2.2.2.2.2.1 i.2.2.2.2.2.2) (fun j i => f37.l11 k j i.1 i.2.1 i.2.2.1 i.2.2.2.1 i.2.2.2.2.1 i.2.2.2.2.2.1 i.2.2.2.2.2.2) f37.l11.w (fun rec_ ret i => f37.l11.step k (fun s7 a8 a9 a10 a11 xs12 xs13 => rec_ (s7, a8, a9, a10, a11, xs12, xs13)) ret i.1 i.2.1 i.2.2.1 i.2.2.2.1 i.2.2.2.2.1 i.2.2.2.2.2.1 i.2.2.2.2.2.2)
    (fun _ => rfl) (fun _ _ => rfl) (fun rec_ g i => f37.l11.nat k _ g i.1 i.2.1 i.2.2.1 i.2.2.2.1 i.2.2.2.2.1 i.2.2.2.2.2.1 i.2.2.2.2.2.2) (fun {R} i0 i rec_ K => by kernel_rfl) k (s7, a8, a9, a10, a11, xs12, xs13)
theorem f37.l11.all (k : Nat) (S : St env) : GoodL (f37.X k) (nthC 1 (loopsOf (bodyOf Tryd.f37))) S (f37.l11.hd k S.ts S.m S.n) := by
  obtain ⟨ts_, m_, n_⟩ := S
  show GoodL _ _ _ (f37.l11.hd k ts_ m_ n_)
  unfold f37.l11.hd
  refine gTs_ok (p := GoodL _ _ _) goodL_no fun _ h => ?_
  subst h
  refine gV_ok (p := GoodL _ _ _) goodL_no fun _ _ h => ?_
  subst h
  refine rRow_ok (p := GoodL _ _ _) goodL_no fun h => ?_
  subst h
  refine gV_ok (p := GoodL _ _ _) goodL_no fun _ _ h => ?_
  subst h
  refine rV_ok (p := GoodL _ _ _) goodL_no fun _ h => ?_
  subst h
  refine vS_ok (p := GoodL _ _ _) goodL_no fun _ h => ?_
  subst h
  refine gV_ok (p := GoodL _ _ _) goodL_no fun _ _ h => ?_
  subst h
  refine rV_ok (p := GoodL _ _ _) goodL_no fun _ h => ?_
  subst h
  refine vI_ok (p := GoodL _ _ _) goodL_no fun _ h => ?_
  subst h
  refine gV_ok (p := GoodL _ _ _) goodL_no fun _ _ h => ?_
  subst h
  refine rV_ok (p := GoodL _ _ _) goodL_no fun _ h => ?_
  subst h
  refine vI_ok (p := GoodL _ _ _) goodL_no fun _ h => ?_
  subst h
  refine gV_ok (p := GoodL _ _ _) goodL_no fun _ _ h => ?_
  subst h
  refine rRow_ok (p := GoodL _ _ _) goodL_no fun h => ?_
  subst h
  refine gV_ok (p := GoodL _ _ _) goodL_no fun _ _ h => ?_
  subst h
  refine rV_ok (p := GoodL _ _ _) goodL_no fun _ h => ?_
  subst h
  refine vI_ok (p := GoodL _ _ _) goodL_no fun _ h => ?_
  subst h
  refine gV_ok (p := GoodL _ _ _) goodL_no fun _ _ h => ?_
  subst h
  refine rV_ok (p := GoodL _ _ _) goodL_no fun _ h => ?_
  subst h
  refine vI_ok (p := GoodL _ _ _) goodL_no fun _ h => ?_
  subst h
  refine gE_ok (p := GoodL _ _ _) goodL_no fun h => ?_
  subst h
  refine mRow_ok (p := GoodL _ _ _) goodL_no fun _ _ h => ?_
  subst h
  refine mRow_ok (p := GoodL _ _ _) goodL_no fun _ _ h => ?_
  subst h
  refine gE_ok (p := GoodL _ _ _) goodL_no fun h => ?_
  subst h
  refine gN_ok (p := GoodL _ _ _) goodL_no fun h => ?_
  subst h
  exact f37.l11.good k _ _ _ _ _ _ _
theorem f37.l5.nat {R : Type} (k : Nat) (rec_ : Int → Int → (List Int) → (List ByteArray) → Option ((Bool × (List Int)) ⊕ ((List Int)))) (g : ((Bool × (List Int)) ⊕ ((List Int))) → Option R) (a3 : Int) (a4 : Int) (xs5 : List Int) (xs6 : List ByteArray) : (f37.l5.step k rec_ some a3 a4 xs5 xs6).bind g = f37.l5.step k (fun a3 a4 xs5 xs6 => (rec_ a3 a4 xs5 xs6).bind g) g a3 a4 xs5 xs6 := by
  simp only [f37.l5.step, bind_ite, bind_sum, Option.bind_assoc, Option.bind_some, Option.bind_none]
theorem f37.l5.good (k : Nat) (a3 : Int) (a4 : Int) (xs5 : List Int) (xs6 : List ByteArray) : GoodL (f37.X k) (nthC 0 (loopsOf (bodyOf Tryd.f37))) (f37.l5.st a3 a4 xs5 xs6) { α := ((Bool × (List Int)) ⊕ ((List Int))), o := f37.l5 k k a3 a4 xs5 xs6, w := f37.l5.w } :=
  loop_good (ι := Int × Int × (List Int) × (List ByteArray)) (α := ((Bool × (List Int)) ⊕ ((List Int)))) (fun i => f37.l5.st i.1 i.2.1 i.2.2.1 i.2.2.2) (fun j i => f37.l5 k j i.1 i.2.1 i.2.2.1 i.2.2.2) f37.l5.w (fun rec_ ret i => f37.l5.step k (fun a3 a4 xs5 xs6 => rec_ (a3, a4, xs5, xs6)) ret i.1 i.2.1 i.2.2.1 i.2.2.2)
    (fun _ => rfl) (fun _ _ => rfl) (fun rec_ g i => f37.l5.nat k _ g i.1 i.2.1 i.2.2.1 i.2.2.2) (fun {R} i0 i rec_ K => by kernel_rfl) k (a3, a4, xs5, xs6)
theorem f37.l5.all (k : Nat) (S : St env) : GoodL (f37.X k) (nthC 0 (loopsOf (bodyOf Tryd.f37))) S (f37.l5.hd k S.ts S.m S.n) := by
  obtain ⟨ts_, m_, n_⟩ := S
  show GoodL _ _ _ (f37.l5.hd k ts_ m_ n_)
  unfold f37.l5.hd
  refine gTs_ok (p := GoodL _ _ _) goodL_no fun _ h => ?_
  subst h
  refine gV_ok (p := GoodL _ _ _) goodL_no fun _ _ h => ?_
  subst h
  refine rRow_ok (p := GoodL _ _ _) goodL_no fun h => ?_
  subst h
  refine gV_ok (p := GoodL _ _ _) goodL_no fun _ _ h => ?_
  subst h
  refine rRow_ok (p := GoodL _ _ _) goodL_no fun h => ?_
  subst h
  refine gV_ok (p := GoodL _ _ _) goodL_no fun _ _ h => ?_
  subst h
  refine rV_ok (p := GoodL _ _ _) goodL_no fun _ h => ?_
  subst h
  refine vI_ok (p := GoodL _ _ _) goodL_no fun _ h => ?_
  subst h
  refine gV_ok (p := GoodL _ _ _) goodL_no fun _ _ h => ?_
  subst h
  refine rV_ok (p := GoodL _ _ _) goodL_no fun _ h => ?_
  subst h
  refine vI_ok (p := GoodL _ _ _) goodL_no fun _ h => ?_
  subst h
  refine gE_ok (p := GoodL _ _ _) goodL_no fun h => ?_
  subst h
  refine mRow_ok (p := GoodL _ _ _) goodL_no fun _ _ h => ?_
  subst h
  refine mRow_ok (p := GoodL _ _ _) goodL_no fun _ _ h => ?_
  subst h
  refine gE_ok (p := GoodL _ _ _) goodL_no fun h => ?_
  subst h
  refine gN_ok (p := GoodL _ _ _) goodL_no fun h => ?_
  subst h
  exact f37.l5.good k _ _ _ _
theorem f37.nat {R : Type} (k : Nat) (g : (((List Int) × Bool) ⊕ (Bool)) → Option R) (s1 : ByteArray) : f37.step k g s1 = (f37 k s1).bind g := by
  simp only [f37, f37.step, bind_ite, bind_sum, Option.bind_assoc, Option.bind_some, Option.bind_none]
theorem f37.ev (k : Nat) (s1 : ByteArray) : evF (f37.X k) (bodyOf Tryd.f37) Tryd.f37.ntmps Tryd.f37.results.toList [.v (.c (.s (.string s1)))] = f37.step k (fun x => f37.w x some) s1 := by kernel_rfl
theorem f37.hok (k : Nat) : HOK (f37.X k) (bodyOf Tryd.f37) where
  l := allP_mem (by exact ⟨ls_of (h0 := fun S => f37.l5.hd k S.ts S.m S.n) (by kernel_rfl) (f37.l5.all k), ls_of (h0 := fun S => f37.l11.hd k S.ts S.m S.n) (by kernel_rfl) (f37.l11.all k), trivial⟩)
  j := allP_mem (by exact trivial)
theorem f37.sound (k : Nat) : SoundC env Tryd.prog 37 ((f37.e k).F) := by
  intro ps_
  show GoodC _ _ _ ps_ (f37.hd k ps_)
  unfold f37.hd
  refine gC_ok (p := GoodC env Tryd.prog 37 _) goodC_no fun _ _ h => ?_
  subst h
  refine qC_ok (p := GoodC env Tryd.prog 37 _) goodC_no fun _ h => ?_
  subst h
  refine qS_ok (p := GoodC env Tryd.prog 37 _) goodC_no fun _ h => ?_
  subst h
  refine vS_ok (p := GoodC env Tryd.prog 37 _) goodC_no fun _ h => ?_
  subst h
  refine gE_ok (p := GoodC env Tryd.prog 37 _) goodC_no fun h => ?_
  subst h
  exact fun_good (fun_sound envOK (cs_sound _ (by exact ⟨⟨f36.sound k, f36.fnok⟩, ⟨f60.sound k, f60.fnok⟩, ⟨f61.sound k, f61.fnok⟩, trivial⟩)) (f37.hok k) Tryd.func37 rfl) ((f37.ev k _).trans (f37.nat k _ _))
theorem f37.fnok : FnOK Tryd.prog 37 := fn_ok Tryd.func37 (by kernel_rfl) rfl
def f17.step {R : Type} (k : Nat) (ret : (ByteArray × Bool) → Option R) (s1 : ByteArray) : Option R :=
  (f19 k s1 (⟨#[58, 58]⟩ : ByteArray)).bind fun t2 => (f37 k t2.1).bind (Sum.elim (fun t3 => if (!t3.2) = true then
        ret ((⟨#[]⟩ : ByteArray), false)
      else
        if (!t2.2.2) = true then
          ret ((strOf t3.1), (decide ((((List.length t3.1) : Nat) : Int) = (16 : Int))))
        else
          (f37 k t2.2.1).bind (Sum.elim (fun t4 => if (!t4.2) = false then
              if (decide ((IntKind.i64.wrap ((((List.length t3.1) : Nat) : Int) + (((List.length t4.1) : Nat) : Int))) > (14 : Int))) = true then
                ret ((⟨#[]⟩ : ByteArray), false)
              else
                if (0 : Int) ≤ (IntKind.i64.wrap ((16 : Int) - (((List.length t4.1) : Nat) : Int))) then
                  if (IntKind.i64.wrap ((16 : Int) - (((List.length t4.1) : Nat) : Int))) ≤ ((List.length (copyL (List.replicate 16 (0 : Int)) 0 (List.length (List.replicate 16 (0 : Int))) t3.1) : Nat) : Int) then
                    if ((List.length (copyL (List.replicate 16 (0 : Int)) 0 (List.length (List.replicate 16 (0 : Int))) t3.1) : Nat) : Int) ≤ ((List.length (copyL (List.replicate 16 (0 : Int)) 0 (List.length (List.replicate 16 (0 : Int))) t3.1) : Nat) : Int) then
                      ret ((strOf (copyL (copyL (List.replicate 16 (0 : Int)) 0 (List.length (List.replicate 16 (0 : Int))) t3.1) (Int.toNat (IntKind.i64.wrap ((16 : Int) - (((List.length t4.1) : Nat) : Int)))) ((Int.toNat ((List.length (copyL (List.replicate 16 (0 : Int)) 0 (List.length (List.replicate 16 (0 : Int))) t3.1) : Nat) : Int)) - (Int.toNat (IntKind.i64.wrap ((16 : Int) - (((List.length t4.1) : Nat) : Int))))) t4.1)), true)
                    else none
                  else none
                else none
            else
              ret ((⟨#[]⟩ : ByteArray), false)) (fun t5 => if (!t5) = false then
              if (decide ((IntKind.i64.wrap ((((List.length t3.1) : Nat) : Int) + (0 : Int))) > (14 : Int))) = true then
                ret ((⟨#[]⟩ : ByteArray), false)
              else
                if (16 : Int) ≤ ((List.length (copyL (List.replicate 16 (0 : Int)) 0 (List.length (List.replicate 16 (0 : Int))) t3.1) : Nat) : Int) then
                  if ((List.length (copyL (List.replicate 16 (0 : Int)) 0 (List.length (List.replicate 16 (0 : Int))) t3.1) : Nat) : Int) ≤ ((List.length (copyL (List.replicate 16 (0 : Int)) 0 (List.length (List.replicate 16 (0 : Int))) t3.1) : Nat) : Int) then
                    none
                  else none
                else none
            else
              ret ((⟨#[]⟩ : ByteArray), false)))) (fun t6 => if (!t6) = true then
        ret ((⟨#[]⟩ : ByteArray), false)
      else
        if (!t2.2.2) = true then
          ret (ByteArray.empty, false)
        else
          (f37 k t2.2.1).bind (Sum.elim (fun t7 => if (!t7.2) = false then
              if (decide ((IntKind.i64.wrap ((0 : Int) + (((List.length t7.1) : Nat) : Int))) > (14 : Int))) = true then
                ret ((⟨#[]⟩ : ByteArray), false)
              else
                none
            else
              ret ((⟨#[]⟩ : ByteArray), false)) (fun t8 => if (!t8) = false then
              none
            else
              ret ((⟨#[]⟩ : ByteArray), false)))))
def f17 (k : Nat) (s1 : ByteArray) : Option (ByteArray × Bool) := f17.step k some s1
def f17.w {R : Type} : (ByteArray × Bool) → (Res env → Option R) → Option R := fun t9 K => K ⟨.tup [.c (.s (.string t9.1)), .c (.s (.bool t9.2))], [[]]⟩
theorem f17.wn (x : (ByteArray × Bool)) : ∃ res, ∀ {R : Type} (K : Res env → Option R), f17.w x K = K res := by
  exact ⟨_, fun _ => rfl⟩
def f17.hd (k : Nat) (ps_ : List (P2 env)) : Cl env :=
  gC Cl.no ps_ fun p_ ps_ => qC Cl.no p_ fun c_ => qS Cl.no c_ fun v_ => vS Cl.no v_ fun s1 => gE Cl.no ps_ <| { α := ByteArray × Bool, o := f17 k s1, w := f17.w, nat := fun x _ => f17.wn x }
def f17.e (k : Nat) : Entry env := ⟨f17.hd k, [], []⟩
def f17.X (k : Nat) : Ctx env := { C := lookE [(19, f19.e k), (37, f37.e k)], L := lookE [], J := lookE [], keep := lookD [], keepX := lookD [], span := lookN [], eff := fun n => memN n [], prep := lookP [], np := 0 }
theorem f17.nat {R : Type} (k : Nat) (g : (ByteArray × Bool) → Option R) (s1 : ByteArray) : f17.step k g s1 = (f17 k s1).bind g := by
  simp only [f17, f17.step, bind_ite, bind_sum, Option.bind_assoc, Option.bind_some, Option.bind_none]
theorem f17.ev (k : Nat) (s1 : ByteArray) : evF (f17.X k) (bodyOf Tryd.f17) Tryd.f17.ntmps Tryd.f17.results.toList [.v (.c (.s (.string s1)))] = f17.step k (fun x => f17.w x some) s1 := by kernel_rfl
theorem f17.hok (k : Nat) : HOK (f17.X k) (bodyOf Tryd.f17) where
  l := allP_mem (by exact trivial)
  j := allP_mem (by exact trivial)
theorem f17.sound (k : Nat) : SoundC env Tryd.prog 17 ((f17.e k).F) := by
  intro ps_
  show GoodC _ _ _ ps_ (f17.hd k ps_)
  unfold f17.hd
  refine gC_ok (p := GoodC env Tryd.prog 17 _) goodC_no fun _ _ h => ?_
  subst h
  refine qC_ok (p := GoodC env Tryd.prog 17 _) goodC_no fun _ h => ?_
  subst h
  refine qS_ok (p := GoodC env Tryd.prog 17 _) goodC_no fun _ h => ?_
  subst h
  refine vS_ok (p := GoodC env Tryd.prog 17 _) goodC_no fun _ h => ?_
  subst h
  refine gE_ok (p := GoodC env Tryd.prog 17 _) goodC_no fun h => ?_
  subst h
  exact fun_good (fun_sound envOK (cs_sound _ (by exact ⟨⟨f19.sound k, f19.fnok⟩, ⟨f37.sound k, f37.fnok⟩, trivial⟩)) (f17.hok k) Tryd.func17 rfl) ((f17.ev k _).trans (f17.nat k _ _))
theorem f17.says (k : Nat) (s1 : ByteArray) (t10 : ByteArray × Bool) (h_ : f17 k s1 = some t10) : SoundAt env Tryd.prog 17 [.v (.c (.s (.string s1)))] ⟨.tup [.c (.s (.string t10.1)), .c (.s (.bool t10.2))], [[]]⟩ :=
  fun_sound envOK (cs_sound _ (by exact ⟨⟨f19.sound k, f19.fnok⟩, ⟨f37.sound k, f37.fnok⟩, trivial⟩)) (f17.hok k) Tryd.func17 rfl _ _ (((f17.ev k s1).trans (f17.nat k _ s1)).trans (by rw [h_]; rfl))
theorem f17.fnok : FnOK Tryd.prog 17 := fn_ok Tryd.func17 (by kernel_rfl) rfl
def f7.step {R : Type} (k : Nat) (ret : (ByteArray × Int) → Option R) (s1 : ByteArray) : Option R :=
  (f15 k ([s1] : List ByteArray)).bind fun t2 => if t2 = true then
      ret ((⟨#[]⟩ : ByteArray), (2 : Int))
    else
      if (decide ((((ByteArray.size s1) : Nat) : Int) > (60 : Int))) = true then
        ret ((⟨#[]⟩ : ByteArray), (3 : Int))
      else
        (f16 k s1).bind fun t3 => if t3.2 = true then
            ret (t3.1, (0 : Int))
          else
            (f17 k s1).bind fun t4 => if t4.2 = true then
                ret (t4.1, (0 : Int))
              else
                ret ((⟨#[]⟩ : ByteArray), (3 : Int))
def f7 (k : Nat) (s1 : ByteArray) : Option (ByteArray × Int) := f7.step k some s1
def f7.w {R : Type} : (ByteArray × Int) → (Res env → Option R) → Option R := fun t5 K => K ⟨.tup [.c (.s (.string t5.1)), .c (.s (.int .i64 t5.2))], [[]]⟩
theorem f7.wn (x : (ByteArray × Int)) : ∃ res, ∀ {R : Type} (K : Res env → Option R), f7.w x K = K res := by
  exact ⟨_, fun _ => rfl⟩
def f7.hd (k : Nat) (ps_ : List (P2 env)) : Cl env :=
  gC Cl.no ps_ fun p_ ps_ => qC Cl.no p_ fun c_ => qS Cl.no c_ fun v_ => vS Cl.no v_ fun s1 => gE Cl.no ps_ <| { α := ByteArray × Int, o := f7 k s1, w := f7.w, nat := fun x _ => f7.wn x }
def f7.e (k : Nat) : Entry env := ⟨f7.hd k, [], []⟩
def f7.X (k : Nat) : Ctx env := { C := lookE [(15, f15.e k), (16, f16.e k), (17, f17.e k)], L := lookE [], J := lookE [], keep := lookD [], keepX := lookD [], span := lookN [], eff := fun n => memN n [], prep := lookP [], np := 0 }
theorem f7.nat {R : Type} (k : Nat) (g : (ByteArray × Int) → Option R) (s1 : ByteArray) : f7.step k g s1 = (f7 k s1).bind g := by
  simp only [f7, f7.step, bind_ite, bind_sum, Option.bind_assoc, Option.bind_some, Option.bind_none]
theorem f7.ev (k : Nat) (s1 : ByteArray) : evF (f7.X k) (bodyOf Tryd.f7) Tryd.f7.ntmps Tryd.f7.results.toList [.v (.c (.s (.string s1)))] = f7.step k (fun x => f7.w x some) s1 := by kernel_rfl
theorem f7.hok (k : Nat) : HOK (f7.X k) (bodyOf Tryd.f7) where
  l := allP_mem (by exact trivial)
  j := allP_mem (by exact trivial)
theorem f7.sound (k : Nat) : SoundC env Tryd.prog 7 ((f7.e k).F) := by
  intro ps_
  show GoodC _ _ _ ps_ (f7.hd k ps_)
  unfold f7.hd
  refine gC_ok (p := GoodC env Tryd.prog 7 _) goodC_no fun _ _ h => ?_
  subst h
  refine qC_ok (p := GoodC env Tryd.prog 7 _) goodC_no fun _ h => ?_
  subst h
  refine qS_ok (p := GoodC env Tryd.prog 7 _) goodC_no fun _ h => ?_
  subst h
  refine vS_ok (p := GoodC env Tryd.prog 7 _) goodC_no fun _ h => ?_
  subst h
  refine gE_ok (p := GoodC env Tryd.prog 7 _) goodC_no fun h => ?_
  subst h
  exact fun_good (fun_sound envOK (cs_sound _ (by exact ⟨⟨f15.sound k, f15.fnok⟩, ⟨f16.sound k, f16.fnok⟩, ⟨f17.sound k, f17.fnok⟩, trivial⟩)) (f7.hok k) Tryd.func7 rfl) ((f7.ev k _).trans (f7.nat k _ _))
theorem f7.says (k : Nat) (s1 : ByteArray) (t6 : ByteArray × Int) (h_ : f7 k s1 = some t6) : SoundAt env Tryd.prog 7 [.v (.c (.s (.string s1)))] ⟨.tup [.c (.s (.string t6.1)), .c (.s (.int .i64 t6.2))], [[]]⟩ :=
  fun_sound envOK (cs_sound _ (by exact ⟨⟨f15.sound k, f15.fnok⟩, ⟨f16.sound k, f16.fnok⟩, ⟨f17.sound k, f17.fnok⟩, trivial⟩)) (f7.hok k) Tryd.func7 rfl _ _ (((f7.ev k s1).trans (f7.nat k _ s1)).trans (by rw [h_]; rfl))
theorem f7.fnok : FnOK Tryd.prog 7 := fn_ok Tryd.func7 (by kernel_rfl) rfl
def f3.step {R : Type} (k : Nat) (ret : Bool → Option R) (s1 : ByteArray) : Option R :=
  if (decide ((((ByteArray.size s1) : Nat) : Int) > (1048576 : Int))) = true then
    ret true
  else
    (f6 k s1).bind fun t2 => (f7 k s1).bind fun t3 => if (decide (ByteArray.toList t3.1 ≠ ByteArray.toList t2.1)) = false then
          if (decide (t3.2 ≠ t2.2)) = true then
            ret false
          else
            ret true
        else
          ret false
def f3 (k : Nat) (s1 : ByteArray) : Option Bool := f3.step k some s1
def f3.w {R : Type} : Bool → (Res env → Option R) → Option R := fun t4 K => K ⟨.v (.c (.s (.bool t4))), [[]]⟩
theorem f3.wn (x : Bool) : ∃ res, ∀ {R : Type} (K : Res env → Option R), f3.w x K = K res := by
  exact ⟨_, fun _ => rfl⟩
def f3.hd (k : Nat) (ps_ : List (P2 env)) : Cl env :=
  gC Cl.no ps_ fun p_ ps_ => qC Cl.no p_ fun c_ => qS Cl.no c_ fun v_ => vS Cl.no v_ fun s1 => gE Cl.no ps_ <| { α := Bool, o := f3 k s1, w := f3.w, nat := fun x _ => f3.wn x }
def f3.e (k : Nat) : Entry env := ⟨f3.hd k, [], []⟩
def f3.X (k : Nat) : Ctx env := { C := lookE [(6, f6.e k), (7, f7.e k)], L := lookE [], J := lookE [], keep := lookD [], keepX := lookD [], span := lookN [], eff := fun n => memN n [], prep := lookP [], np := 0 }
theorem f3.nat {R : Type} (k : Nat) (g : Bool → Option R) (s1 : ByteArray) : f3.step k g s1 = (f3 k s1).bind g := by
  simp only [f3, f3.step, bind_ite, bind_sum, Option.bind_assoc, Option.bind_some, Option.bind_none]
theorem f3.ev (k : Nat) (s1 : ByteArray) : evF (f3.X k) (bodyOf Tryd.f3) Tryd.f3.ntmps Tryd.f3.results.toList [.v (.c (.s (.string s1)))] = f3.step k (fun x => f3.w x some) s1 := by kernel_rfl
theorem f3.hok (k : Nat) : HOK (f3.X k) (bodyOf Tryd.f3) where
  l := allP_mem (by exact trivial)
  j := allP_mem (by exact trivial)
theorem f3.sound (k : Nat) : SoundC env Tryd.prog 3 ((f3.e k).F) := by
  intro ps_
  show GoodC _ _ _ ps_ (f3.hd k ps_)
  unfold f3.hd
  refine gC_ok (p := GoodC env Tryd.prog 3 _) goodC_no fun _ _ h => ?_
  subst h
  refine qC_ok (p := GoodC env Tryd.prog 3 _) goodC_no fun _ h => ?_
  subst h
  refine qS_ok (p := GoodC env Tryd.prog 3 _) goodC_no fun _ h => ?_
  subst h
  refine vS_ok (p := GoodC env Tryd.prog 3 _) goodC_no fun _ h => ?_
  subst h
  refine gE_ok (p := GoodC env Tryd.prog 3 _) goodC_no fun h => ?_
  subst h
  exact fun_good (fun_sound envOK (cs_sound _ (by exact ⟨⟨f6.sound k, f6.fnok⟩, ⟨f7.sound k, f7.fnok⟩, trivial⟩)) (f3.hok k) Tryd.func3 rfl) ((f3.ev k _).trans (f3.nat k _ _))
theorem f3.says (k : Nat) (s1 : ByteArray) (t5 : Bool) (h_ : f3 k s1 = some t5) : SoundAt env Tryd.prog 3 [.v (.c (.s (.string s1)))] ⟨.v (.c (.s (.bool t5))), [[]]⟩ :=
  fun_sound envOK (cs_sound _ (by exact ⟨⟨f6.sound k, f6.fnok⟩, ⟨f7.sound k, f7.fnok⟩, trivial⟩)) (f3.hok k) Tryd.func3 rfl _ _ (((f3.ev k s1).trans (f3.nat k _ s1)).trans (by rw [h_]; rfl))
theorem f3.fnok : FnOK Tryd.prog 3 := fn_ok Tryd.func3 (by kernel_rfl) rfl
def f40.l6.step {R : Type} (k : Nat) (rec_ : ByteArray → Int → Int → (List Int) → Option R) (ret : (ByteArray × Int × (List Int)) → Option R) (s5 : ByteArray) (a6 : Int) (a7 : Int) (xs8 : List Int) : Option R :=
  if (decide (a7 ≥ (0 : Int))) = true then
    if (0 : Int) ≤ a6 then
      if a6 < ((ByteArray.size s5 : Nat) : Int) then
        if (0 : Int) ≤ (IntKind.u64.wrap a7) then
          if (List.length xs8 + List.length ([(IntKind.u8.wrap ((48 : Int) + (bitsV .and .u8 (Int.fdiv (bt s5 a6) (2 ^ (min (Int.toNat (IntKind.u64.wrap a7)) IntKind.u8.bits))) (1 : Int))))] : List Int)) * 1 ≤ maxN then
            rec_ s5 a6 (IntKind.i64.wrap (a7 - (1 : Int))) (xs8 ++ ([(IntKind.u8.wrap ((48 : Int) + (bitsV .and .u8 (Int.fdiv (bt s5 a6) (2 ^ (min (Int.toNat (IntKind.u64.wrap a7)) IntKind.u8.bits))) (1 : Int))))] : List Int))
          else none
        else none
      else none
    else none
  else
    ret (s5, a6, xs8)
def f40.l6 (k : Nat) : Nat → ByteArray → Int → Int → (List Int) → Option (ByteArray × Int × (List Int))
  | 0, _, _, _, _ => none
  | j + 1, s5, a6, a7, xs8 => f40.l6.step k (fun s5 a6 a7 xs8 => f40.l6 k j s5 a6 a7 xs8) some s5 a6 a7 xs8
def f40.l6.w {R : Type} : (ByteArray × Int × (List Int)) → (Exit → St env → Option R) → Option R := fun t11 K => K (.exit 2) ⟨fullT [0, 3, 4] 0 30 [.v (.c (.s (.string t11.1))), .v (.c (.row 17)), .v (.c (.s (.int .i64 t11.2.1)))], [(17, .row true 5 t11.2.2)], 417⟩
def f40.l6.st (s5 : ByteArray) (a6 : Int) (a7 : Int) (xs8 : List Int) : St env := ⟨fullT [0, 3, 4, 5] 0 30 [.v (.c (.s (.string s5))), .v (.c (.row 17)), .v (.c (.s (.int .i64 a6))), .v (.c (.s (.int .i64 a7)))], [(17, .row true 5 xs8)], 145⟩
def f40.l3.step {R : Type} (k : Nat) (rec_ : ByteArray → Int → (List Int) → Option R) (ret : ((List Int)) → Option R) (s2 : ByteArray) (a3 : Int) (xs4 : List Int) : Option R :=
  if (decide (a3 < (((ByteArray.size s2) : Nat) : Int))) = true then
    (f40.l6 k k s2 a3 (7 : Int) xs4).bind fun t9 => rec_ t9.1 (IntKind.i64.wrap (t9.2.1 + (1 : Int))) t9.2.2
  else
    ret xs4
def f40.l3 (k : Nat) : Nat → ByteArray → Int → (List Int) → Option ((List Int))
  | 0, _, _, _ => none
  | j + 1, s2, a3, xs4 => f40.l3.step k (fun s2 a3 xs4 => f40.l3 k j s2 a3 xs4) some s2 a3 xs4
def f40.l3.w {R : Type} : ((List Int)) → (Exit → St env → Option R) → Option R := fun t12 K => K (.exit 0) ⟨fullT [3] 0 30 [.v (.c (.row 17))], [(17, .row true 5 t12)], 465⟩
def f40.l3.st (s2 : ByteArray) (a3 : Int) (xs4 : List Int) : St env := ⟨fullT [0, 3, 4] 0 30 [.v (.c (.s (.string s2))), .v (.c (.row 17)), .v (.c (.s (.int .i64 a3)))], [(17, .row true 5 xs4)], 65⟩
def f40.l6.hd (k : Nat) (ts_ : List (AV env)) (mm_ : Mem env) (n_ : Nat) : LCl env :=
  gTs LCl.no [0, 3, 4, 5] 30 ts_ fun l_ => gV LCl.no l_ fun a_ l_ => rV LCl.no a_ fun v_ => vS LCl.no v_ fun s5 => gV LCl.no l_ fun a_ l_ => rRow LCl.no 17 a_ <| gV LCl.no l_ fun a_ l_ => rV LCl.no a_ fun v_ => vI LCl.no .i64 v_ fun a6 => gV LCl.no l_ fun a_ l_ => rV LCl.no a_ fun v_ => vI LCl.no .i64 v_ fun a7 => gE LCl.no l_ <| mRow LCl.no 17 true 5 mm_ fun xs8 m_ => gE LCl.no m_ <| gN LCl.no 145 n_ { α := ByteArray × Int × (List Int), o := f40.l6 k k s5 a6 a7 xs8, w := f40.l6.w }
def f40.l3.hd (k : Nat) (ts_ : List (AV env)) (mm_ : Mem env) (n_ : Nat) : LCl env :=
  gTs LCl.no [0, 3, 4] 30 ts_ fun l_ => gV LCl.no l_ fun a_ l_ => rV LCl.no a_ fun v_ => vS LCl.no v_ fun s2 => gV LCl.no l_ fun a_ l_ => rRow LCl.no 17 a_ <| gV LCl.no l_ fun a_ l_ => rV LCl.no a_ fun v_ => vI LCl.no .i64 v_ fun a3 => gE LCl.no l_ <| mRow LCl.no 17 true 5 mm_ fun xs4 m_ => gE LCl.no m_ <| gN LCl.no 65 n_ { α := (List Int), o := f40.l3 k k s2 a3 xs4, w := f40.l3.w }
def f40.step {R : Type} (k : Nat) (ret : ByteArray → Option R) (s1 : ByteArray) : Option R :=
  (f40.l3 k k s1 (0 : Int) ([] : List Int)).bind fun t10 => ret (strOf t10)
def f40 (k : Nat) (s1 : ByteArray) : Option ByteArray := f40.step k some s1
def f40.w {R : Type} : ByteArray → (Res env → Option R) → Option R := fun t13 K => K ⟨.v (.c (.s (.string t13))), [[]]⟩
theorem f40.wn (x : ByteArray) : ∃ res, ∀ {R : Type} (K : Res env → Option R), f40.w x K = K res := by
  exact ⟨_, fun _ => rfl⟩
def f40.hd (k : Nat) (ps_ : List (P2 env)) : Cl env :=
  gC Cl.no ps_ fun p_ ps_ => qC Cl.no p_ fun c_ => qS Cl.no c_ fun v_ => vS Cl.no v_ fun s1 => gE Cl.no ps_ <| { α := ByteArray, o := f40 k s1, w := f40.w, nat := fun x _ => f40.wn x }
def f40.e (k : Nat) : Entry env := ⟨f40.hd k, [], []⟩
def f40.X (k : Nat) : Ctx env := { C := lookE [], L := lookE [(6, fun S => f40.l6.hd k S.ts S.m S.n), (3, fun S => f40.l3.hd k S.ts S.m S.n)], J := lookE [], keep := lookD [(6, [0, 3, 4, 5]), (3, [0, 3, 4])], keepX := lookD [(6, [0, 3, 4]), (3, [3])], span := lookN [(6, 272), (3, 400)], eff := fun n => memN n [], prep := lookP [], np := 0 }
theorem f40.l6.nat {R : Type} (k : Nat) (rec_ : ByteArray → Int → Int → (List Int) → Option (ByteArray × Int × (List Int))) (g : (ByteArray × Int × (List Int)) → Option R) (s5 : ByteArray) (a6 : Int) (a7 : Int) (xs8 : List Int) : (f40.l6.step k rec_ some s5 a6 a7 xs8).bind g = f40.l6.step k (fun s5 a6 a7 xs8 => (rec_ s5 a6 a7 xs8).bind g) g s5 a6 a7 xs8 := by
  simp only [f40.l6.step, bind_ite, bind_sum, Option.bind_assoc, Option.bind_some, Option.bind_none]
theorem f40.l6.good (k : Nat) (s5 : ByteArray) (a6 : Int) (a7 : Int) (xs8 : List Int) : GoodL (f40.X k) (nthC 1 (loopsOf (bodyOf Tryd.f40))) (f40.l6.st s5 a6 a7 xs8) { α := (ByteArray × Int × (List Int)), o := f40.l6 k k s5 a6 a7 xs8, w := f40.l6.w } :=
  loop_good (ι := ByteArray × Int × Int × (List Int)) (α := (ByteArray × Int × (List Int))) (fun i => f40.l6.st i.1 i.2.1 i.2.2.1 i.2.2.2) (fun j i => f40.l6 k j i.1 i.2.1 i.2.2.1 i.2.2.2) f40.l6.w (fun rec_ ret i => f40.l6.step k (fun s5 a6 a7 xs8 => rec_ (s5, a6, a7, xs8)) ret i.1 i.2.1 i.2.2.1 i.2.2.2)
    (fun _ => rfl) (fun _ _ => rfl) (fun rec_ g i => f40.l6.nat k _ g i.1 i.2.1 i.2.2.1 i.2.2.2) (fun {R} i0 i rec_ K => by kernel_rfl) k (s5, a6, a7, xs8)
theorem f40.l6.all (k : Nat) (S : St env) : GoodL (f40.X k) (nthC 1 (loopsOf (bodyOf Tryd.f40))) S (f40.l6.hd k S.ts S.m S.n) := by
  obtain ⟨ts_, m_, n_⟩ := S
  show GoodL _ _ _ (f40.l6.hd k ts_ m_ n_)
  unfold f40.l6.hd
  refine gTs_ok (p := GoodL _ _ _) goodL_no fun _ h => ?_
  subst h
  refine gV_ok (p := GoodL _ _ _) goodL_no fun _ _ h => ?_
  subst h
  refine rV_ok (p := GoodL _ _ _) goodL_no fun _ h => ?_
  subst h
  refine vS_ok (p := GoodL _ _ _) goodL_no fun _ h => ?_
  subst h
  refine gV_ok (p := GoodL _ _ _) goodL_no fun _ _ h => ?_
  subst h
  refine rRow_ok (p := GoodL _ _ _) goodL_no fun h => ?_
  subst h
  refine gV_ok (p := GoodL _ _ _) goodL_no fun _ _ h => ?_
  subst h
  refine rV_ok (p := GoodL _ _ _) goodL_no fun _ h => ?_
  subst h
  refine vI_ok (p := GoodL _ _ _) goodL_no fun _ h => ?_
  subst h
  refine gV_ok (p := GoodL _ _ _) goodL_no fun _ _ h => ?_
  subst h
  refine rV_ok (p := GoodL _ _ _) goodL_no fun _ h => ?_
  subst h
  refine vI_ok (p := GoodL _ _ _) goodL_no fun _ h => ?_
  subst h
  refine gE_ok (p := GoodL _ _ _) goodL_no fun h => ?_
  subst h
  refine mRow_ok (p := GoodL _ _ _) goodL_no fun _ _ h => ?_
  subst h
  refine gE_ok (p := GoodL _ _ _) goodL_no fun h => ?_
  subst h
  refine gN_ok (p := GoodL _ _ _) goodL_no fun h => ?_
  subst h
  exact f40.l6.good k _ _ _ _
theorem f40.l3.nat {R : Type} (k : Nat) (rec_ : ByteArray → Int → (List Int) → Option ((List Int))) (g : ((List Int)) → Option R) (s2 : ByteArray) (a3 : Int) (xs4 : List Int) : (f40.l3.step k rec_ some s2 a3 xs4).bind g = f40.l3.step k (fun s2 a3 xs4 => (rec_ s2 a3 xs4).bind g) g s2 a3 xs4 := by
  simp only [f40.l3.step, bind_ite, bind_sum, Option.bind_assoc, Option.bind_some, Option.bind_none]
theorem f40.l3.good (k : Nat) (s2 : ByteArray) (a3 : Int) (xs4 : List Int) : GoodL (f40.X k) (nthC 0 (loopsOf (bodyOf Tryd.f40))) (f40.l3.st s2 a3 xs4) { α := ((List Int)), o := f40.l3 k k s2 a3 xs4, w := f40.l3.w } :=
  loop_good (ι := ByteArray × Int × (List Int)) (α := ((List Int))) (fun i => f40.l3.st i.1 i.2.1 i.2.2) (fun j i => f40.l3 k j i.1 i.2.1 i.2.2) f40.l3.w (fun rec_ ret i => f40.l3.step k (fun s2 a3 xs4 => rec_ (s2, a3, xs4)) ret i.1 i.2.1 i.2.2)
    (fun _ => rfl) (fun _ _ => rfl) (fun rec_ g i => f40.l3.nat k _ g i.1 i.2.1 i.2.2) (fun {R} i0 i rec_ K => by kernel_rfl) k (s2, a3, xs4)
theorem f40.l3.all (k : Nat) (S : St env) : GoodL (f40.X k) (nthC 0 (loopsOf (bodyOf Tryd.f40))) S (f40.l3.hd k S.ts S.m S.n) := by
  obtain ⟨ts_, m_, n_⟩ := S
  show GoodL _ _ _ (f40.l3.hd k ts_ m_ n_)
  unfold f40.l3.hd
  refine gTs_ok (p := GoodL _ _ _) goodL_no fun _ h => ?_
  subst h
  refine gV_ok (p := GoodL _ _ _) goodL_no fun _ _ h => ?_
  subst h
  refine rV_ok (p := GoodL _ _ _) goodL_no fun _ h => ?_
  subst h
  refine vS_ok (p := GoodL _ _ _) goodL_no fun _ h => ?_
  subst h
  refine gV_ok (p := GoodL _ _ _) goodL_no fun _ _ h => ?_
  subst h
  refine rRow_ok (p := GoodL _ _ _) goodL_no fun h => ?_
  subst h
  refine gV_ok (p := GoodL _ _ _) goodL_no fun _ _ h => ?_
  subst h
  refine rV_ok (p := GoodL _ _ _) goodL_no fun _ h => ?_
  subst h
  refine vI_ok (p := GoodL _ _ _) goodL_no fun _ h => ?_
  subst h
  refine gE_ok (p := GoodL _ _ _) goodL_no fun h => ?_
  subst h
  refine mRow_ok (p := GoodL _ _ _) goodL_no fun _ _ h => ?_
  subst h
  refine gE_ok (p := GoodL _ _ _) goodL_no fun h => ?_
  subst h
  refine gN_ok (p := GoodL _ _ _) goodL_no fun h => ?_
  subst h
  exact f40.l3.good k _ _ _
theorem f40.nat {R : Type} (k : Nat) (g : ByteArray → Option R) (s1 : ByteArray) : f40.step k g s1 = (f40 k s1).bind g := by
  simp only [f40, f40.step, bind_ite, bind_sum, Option.bind_assoc, Option.bind_some, Option.bind_none]
theorem f40.ev (k : Nat) (s1 : ByteArray) : evF (f40.X k) (bodyOf Tryd.f40) Tryd.f40.ntmps Tryd.f40.results.toList [.v (.c (.s (.string s1)))] = f40.step k (fun x => f40.w x some) s1 := by kernel_rfl
theorem f40.hok (k : Nat) : HOK (f40.X k) (bodyOf Tryd.f40) where
  l := allP_mem (by exact ⟨ls_of (h0 := fun S => f40.l3.hd k S.ts S.m S.n) (by kernel_rfl) (f40.l3.all k), ls_of (h0 := fun S => f40.l6.hd k S.ts S.m S.n) (by kernel_rfl) (f40.l6.all k), trivial⟩)
  j := allP_mem (by exact trivial)
theorem f40.sound (k : Nat) : SoundC env Tryd.prog 40 ((f40.e k).F) := by
  intro ps_
  show GoodC _ _ _ ps_ (f40.hd k ps_)
  unfold f40.hd
  refine gC_ok (p := GoodC env Tryd.prog 40 _) goodC_no fun _ _ h => ?_
  subst h
  refine qC_ok (p := GoodC env Tryd.prog 40 _) goodC_no fun _ h => ?_
  subst h
  refine qS_ok (p := GoodC env Tryd.prog 40 _) goodC_no fun _ h => ?_
  subst h
  refine vS_ok (p := GoodC env Tryd.prog 40 _) goodC_no fun _ h => ?_
  subst h
  refine gE_ok (p := GoodC env Tryd.prog 40 _) goodC_no fun h => ?_
  subst h
  exact fun_good (fun_sound envOK (cs_sound _ (by exact trivial)) (f40.hok k) Tryd.func40 rfl) ((f40.ev k _).trans (f40.nat k _ _))
theorem f40.says (k : Nat) (s1 : ByteArray) (t14 : ByteArray) (h_ : f40 k s1 = some t14) : SoundAt env Tryd.prog 40 [.v (.c (.s (.string s1)))] ⟨.v (.c (.s (.string t14))), [[]]⟩ :=
  fun_sound envOK (cs_sound _ (by exact trivial)) (f40.hok k) Tryd.func40 rfl _ _ (((f40.ev k s1).trans (f40.nat k _ s1)).trans (by rw [h_]; rfl))
theorem f40.fnok : FnOK Tryd.prog 40 := fn_ok Tryd.func40 (by kernel_rfl) rfl
def f18.l11.step {R : Type} (k : Nat) (rec_ : ByteArray → Int → ByteArray → Int → Option R) (ret : ((ByteArray × Int × Bool × ByteArray × Int × ByteArray) ⊕ (ByteArray × Int × ByteArray)) → Option R) (s8 : ByteArray) (a9 : Int) (s10 : ByteArray) (a11 : Int) : Option R :=
  if (decide (a11 < (((ByteArray.size s10) : Nat) : Int))) = true then
    if (0 : Int) ≤ a11 then
      if a11 < ((ByteArray.size s10 : Nat) : Int) then
        if (decide ((bt s10 a11) = (49 : Int))) = true then
          ret (.inl ((⟨#[]⟩ : ByteArray), (0 : Int), false, s8, a9, s10))
        else
          rec_ s8 a9 s10 (IntKind.i64.wrap (a11 + (1 : Int)))
      else none
    else none
  else
    ret (.inr (s8, a9, s10))
def f18.l11 (k : Nat) : Nat → ByteArray → Int → ByteArray → Int → Option ((ByteArray × Int × Bool × ByteArray × Int × ByteArray) ⊕ (ByteArray × Int × ByteArray))
  | 0, _, _, _, _ => none
  | j + 1, s8, a9, s10, a11 => f18.l11.step k (fun s8 a9 s10 a11 => f18.l11 k j s8 a9 s10 a11) some s8 a9 s10 a11
def f18.l11.w {R : Type} : ((ByteArray × Int × Bool × ByteArray × Int × ByteArray) ⊕ (ByteArray × Int × ByteArray)) → (Exit → St env → Option R) → Option R := fun x K => Sum.elim (fun t16 => K .ret ⟨fullT [2, 3, 4, 6, 8, 10] 0 73 [.v (.c (.s (.string t16.1))), .v (.c (.s (.int .i64 t16.2.1))), .v (.c (.s (.bool t16.2.2.1))), .v (.c (.s (.string t16.2.2.2.1))), .v (.c (.s (.int .i64 t16.2.2.2.2.1))), .v (.c (.s (.string t16.2.2.2.2.2)))], [], 1025⟩) (fun t17 => K (.exit 2) ⟨fullT [6, 8, 10] 0 73 [.v (.c (.s (.string t17.1))), .v (.c (.s (.int .i64 t17.2.1))), .v (.c (.s (.string t17.2.2)))], [], 1025⟩) x
def f18.l11.st (s8 : ByteArray) (a9 : Int) (s10 : ByteArray) (a11 : Int) : St env := ⟨fullT [6, 8, 10, 11] 0 73 [.v (.c (.s (.string s8))), .v (.c (.s (.int .i64 a9))), .v (.c (.s (.string s10))), .v (.c (.s (.int .i64 a11)))], [], 801⟩
def f18.l2.step {R : Type} (k : Nat) (rec_ : ByteArray → Int → Option R) (ret : ((ByteArray × Int × Bool) ⊕ (Unit)) → Option R) (s2 : ByteArray) (a3 : Int) : Option R :=
  if (decide (a3 < (((ByteArray.size s2) : Nat) : Int))) = true then
    if (0 : Int) ≤ a3 then
      if a3 < ((ByteArray.size s2 : Nat) : Int) then
        if (decide ((bt s2 a3) ≠ (47 : Int))) = true then
          rec_ s2 (IntKind.i64.wrap (a3 + (1 : Int)))
        else
          if (0 : Int) ≤ a3 then
            if a3 ≤ ((ByteArray.size s2 : Nat) : Int) then
              (f14 k (ByteArray.extract s2 0 (Int.toNat a3))).bind fun t4 => if (0 : Int) ≤ (IntKind.i64.wrap (a3 + (1 : Int))) then
                  if (IntKind.i64.wrap (a3 + (1 : Int))) ≤ ((ByteArray.size s2 : Nat) : Int) then
                    if ((ByteArray.size s2 : Nat) : Int) ≤ ((ByteArray.size s2 : Nat) : Int) then
                      (f38 k (ByteArray.extract s2 (Int.toNat (IntKind.i64.wrap (a3 + (1 : Int)))) (Int.toNat ((ByteArray.size s2 : Nat) : Int)))).bind fun t5 => if (!t4.2) = false then
                          if (!t5.2) = false then
                            (f39 k t5.1 (0 : Int) (IntKind.i64.wrap ((8 : Int) * (((ByteArray.size t4.1) : Nat) : Int)))).bind fun t6 => if (!t6) = true then
                                ret (.inl ((⟨#[]⟩ : ByteArray), (0 : Int), false))
                              else
                                (f40 k t4.1).bind fun t7 => (f18.l11 k k t4.1 t5.1 t7 t5.1).bind (Sum.elim (fun t12 => ret (.inl (t12.1, t12.2.1, t12.2.2.1))) (fun t13 => if (decide ((((ByteArray.size t13.1) : Nat) : Int) = (4 : Int))) = true then
                                      if (0 : Int) ≤ t13.2.1 then
                                        if t13.2.1 ≤ ((ByteArray.size t13.2.2 : Nat) : Int) then
                                          ret (.inl ((ByteArray.extract t13.2.2 0 (Int.toNat t13.2.1)), (4 : Int), true))
                                        else none
                                      else none
                                    else
                                      if (0 : Int) ≤ t13.2.1 then
                                        if t13.2.1 ≤ ((ByteArray.size t13.2.2 : Nat) : Int) then
                                          ret (.inl ((ByteArray.extract t13.2.2 0 (Int.toNat t13.2.1)), (6 : Int), true))
                                        else none
                                      else none))
                          else
                            ret (.inl ((⟨#[]⟩ : ByteArray), (0 : Int), false))
                        else
                          ret (.inl ((⟨#[]⟩ : ByteArray), (0 : Int), false))
                    else none
                  else none
                else none
            else none
          else none
      else none
    else none
  else
    ret (.inr ())
def f18.l2 (k : Nat) : Nat → ByteArray → Int → Option ((ByteArray × Int × Bool) ⊕ (Unit))
  | 0, _, _ => none
  | j + 1, s2, a3 => f18.l2.step k (fun s2 a3 => f18.l2 k j s2 a3) some s2 a3
def f18.l2.w {R : Type} : ((ByteArray × Int × Bool) ⊕ (Unit)) → (Exit → St env → Option R) → Option R := fun x K => Sum.elim (fun t18 => K .ret ⟨fullT [2, 3, 4] 0 73 [.v (.c (.s (.string t18.1))), .v (.c (.s (.int .i64 t18.2.1))), .v (.c (.s (.bool t18.2.2)))], [], 1361⟩) (fun t19 => K (.exit 0) ⟨fullT [] 0 73 [], [], 1361⟩) x
def f18.l2.st (s2 : ByteArray) (a3 : Int) : St env := ⟨fullT [0, 5] 0 73 [.v (.c (.s (.string s2))), .v (.c (.s (.int .i64 a3)))], [], 65⟩
def f18.l11.hd (k : Nat) (ts_ : List (AV env)) (mm_ : Mem env) (n_ : Nat) : LCl env :=
  gTs LCl.no [6, 8, 10, 11] 73 ts_ fun l_ => gV LCl.no l_ fun a_ l_ => rV LCl.no a_ fun v_ => vS LCl.no v_ fun s8 => gV LCl.no l_ fun a_ l_ => rV LCl.no a_ fun v_ => vI LCl.no .i64 v_ fun a9 => gV LCl.no l_ fun a_ l_ => rV LCl.no a_ fun v_ => vS LCl.no v_ fun s10 => gV LCl.no l_ fun a_ l_ => rV LCl.no a_ fun v_ => vI LCl.no .i64 v_ fun a11 => gE LCl.no l_ <| gE LCl.no mm_ <| gN LCl.no 801 n_ { α := (ByteArray × Int × Bool × ByteArray × Int × ByteArray) ⊕ (ByteArray × Int × ByteArray), o := f18.l11 k k s8 a9 s10 a11, w := f18.l11.w }
def f18.l2.hd (k : Nat) (ts_ : List (AV env)) (mm_ : Mem env) (n_ : Nat) : LCl env :=
  gTs LCl.no [0, 5] 73 ts_ fun l_ => gV LCl.no l_ fun a_ l_ => rV LCl.no a_ fun v_ => vS LCl.no v_ fun s2 => gV LCl.no l_ fun a_ l_ => rV LCl.no a_ fun v_ => vI LCl.no .i64 v_ fun a3 => gE LCl.no l_ <| gE LCl.no mm_ <| gN LCl.no 65 n_ { α := (ByteArray × Int × Bool) ⊕ (Unit), o := f18.l2 k k s2 a3, w := f18.l2.w }
def f18.step {R : Type} (k : Nat) (ret : (ByteArray × Int × Bool) → Option R) (s1 : ByteArray) : Option R :=
  (f18.l2 k k s1 (0 : Int)).bind (Sum.elim (fun t14 => ret (t14.1, t14.2.1, t14.2.2)) (fun t15 => ret ((⟨#[]⟩ : ByteArray), (0 : Int), false)))
def f18 (k : Nat) (s1 : ByteArray) : Option (ByteArray × Int × Bool) := f18.step k some s1
def f18.w {R : Type} : (ByteArray × Int × Bool) → (Res env → Option R) → Option R := fun t20 K => K ⟨.tup [.c (.s (.string t20.1)), .c (.s (.int .i64 t20.2.1)), .c (.s (.bool t20.2.2))], [[]]⟩
theorem f18.wn (x : (ByteArray × Int × Bool)) : ∃ res, ∀ {R : Type} (K : Res env → Option R), f18.w x K = K res := by
  exact ⟨_, fun _ => rfl⟩
def f18.hd (k : Nat) (ps_ : List (P2 env)) : Cl env :=
  gC Cl.no ps_ fun p_ ps_ => qC Cl.no p_ fun c_ => qS Cl.no c_ fun v_ => vS Cl.no v_ fun s1 => gE Cl.no ps_ <| { α := ByteArray × Int × Bool, o := f18 k s1, w := f18.w, nat := fun x _ => f18.wn x }
def f18.e (k : Nat) : Entry env := ⟨f18.hd k, [], []⟩
def f18.X (k : Nat) : Ctx env := { C := lookE [(14, f14.e k), (38, f38.e k), (39, f39.e k), (40, f40.e k)], L := lookE [(11, fun S => f18.l11.hd k S.ts S.m S.n), (2, fun S => f18.l2.hd k S.ts S.m S.n)], J := lookE [], keep := lookD [(11, [6, 8, 10, 11]), (2, [0, 5])], keepX := lookD [(11, [2, 3, 4, 6, 8, 10]), (2, [2, 3, 4])], span := lookN [(11, 224), (2, 1296)], eff := fun n => memN n [], prep := lookP [], np := 0 }
theorem f18.l11.nat {R : Type} (k : Nat) (rec_ : ByteArray → Int → ByteArray → Int → Option ((ByteArray × Int × Bool × ByteArray × Int × ByteArray) ⊕ (ByteArray × Int × ByteArray))) (g : ((ByteArray × Int × Bool × ByteArray × Int × ByteArray) ⊕ (ByteArray × Int × ByteArray)) → Option R) (s8 : ByteArray) (a9 : Int) (s10 : ByteArray) (a11 : Int) : (f18.l11.step k rec_ some s8 a9 s10 a11).bind g = f18.l11.step k (fun s8 a9 s10 a11 => (rec_ s8 a9 s10 a11).bind g) g s8 a9 s10 a11 := by
  simp only [f18.l11.step, bind_ite, bind_sum, Option.bind_assoc, Option.bind_some, Option.bind_none]
theorem f18.l11.good (k : Nat) (s8 : ByteArray) (a9 : Int) (s10 : ByteArray) (a11 : Int) : GoodL (f18.X k) (nthC 1 (loopsOf (bodyOf Tryd.f18))) (f18.l11.st s8 a9 s10 a11) { α := ((ByteArray × Int × Bool × ByteArray × Int × ByteArray) ⊕ (ByteArray × Int × ByteArray)), o := f18.l11 k k s8 a9 s10 a11, w := f18.l11.w } :=
  loop_good (ι := ByteArray × Int × ByteArray × Int) (α := ((ByteArray × Int × Bool × ByteArray × Int × ByteArray) ⊕ (ByteArray × Int × ByteArray))) (fun i => f18.l11.st i.1 i.2.1 i.2.2.1 i.2.2.2) (fun j i => f18.l11 k j i.1 i.2.1 i.2.2.1 i.2.2.2) f18.l11.w (fun rec_ ret i => f18.l11.step k (fun s8 a9 s10 a11 => rec_ (s8, a9, s10, a11)) ret i.1 i.2.1 i.2.2.1 i.2.2.2)
    (fun _ => rfl) (fun _ _ => rfl) (fun rec_ g i => f18.l11.nat k _ g i.1 i.2.1 i.2.2.1 i.2.2.2) (fun {R} i0 i rec_ K => by kernel_rfl) k (s8, a9, s10, a11)
theorem f18.l11.all (k : Nat) (S : St env) : GoodL (f18.X k) (nthC 1 (loopsOf (bodyOf Tryd.f18))) S (f18.l11.hd k S.ts S.m S.n) := by
  obtain ⟨ts_, m_, n_⟩ := S
  show GoodL _ _ _ (f18.l11.hd k ts_ m_ n_)
  unfold f18.l11.hd
  refine gTs_ok (p := GoodL _ _ _) goodL_no fun _ h => ?_
  subst h
  refine gV_ok (p := GoodL _ _ _) goodL_no fun _ _ h => ?_
  subst h
  refine rV_ok (p := GoodL _ _ _) goodL_no fun _ h => ?_
  subst h
  refine vS_ok (p := GoodL _ _ _) goodL_no fun _ h => ?_
  subst h
  refine gV_ok (p := GoodL _ _ _) goodL_no fun _ _ h => ?_
  subst h
  refine rV_ok (p := GoodL _ _ _) goodL_no fun _ h => ?_
  subst h
  refine vI_ok (p := GoodL _ _ _) goodL_no fun _ h => ?_
  subst h
  refine gV_ok (p := GoodL _ _ _) goodL_no fun _ _ h => ?_
  subst h
  refine rV_ok (p := GoodL _ _ _) goodL_no fun _ h => ?_
  subst h
  refine vS_ok (p := GoodL _ _ _) goodL_no fun _ h => ?_
  subst h
  refine gV_ok (p := GoodL _ _ _) goodL_no fun _ _ h => ?_
  subst h
  refine rV_ok (p := GoodL _ _ _) goodL_no fun _ h => ?_
  subst h
  refine vI_ok (p := GoodL _ _ _) goodL_no fun _ h => ?_
  subst h
  refine gE_ok (p := GoodL _ _ _) goodL_no fun h => ?_
  subst h
  refine gE_ok (p := GoodL _ _ _) goodL_no fun h => ?_
  subst h
  refine gN_ok (p := GoodL _ _ _) goodL_no fun h => ?_
  subst h
  exact f18.l11.good k _ _ _ _
theorem f18.l2.nat {R : Type} (k : Nat) (rec_ : ByteArray → Int → Option ((ByteArray × Int × Bool) ⊕ (Unit))) (g : ((ByteArray × Int × Bool) ⊕ (Unit)) → Option R) (s2 : ByteArray) (a3 : Int) : (f18.l2.step k rec_ some s2 a3).bind g = f18.l2.step k (fun s2 a3 => (rec_ s2 a3).bind g) g s2 a3 := by
  simp only [f18.l2.step, bind_ite, bind_sum, Option.bind_assoc, Option.bind_some, Option.bind_none]
theorem f18.l2.good (k : Nat) (s2 : ByteArray) (a3 : Int) : GoodL (f18.X k) (nthC 0 (loopsOf (bodyOf Tryd.f18))) (f18.l2.st s2 a3) { α := ((ByteArray × Int × Bool) ⊕ (Unit)), o := f18.l2 k k s2 a3, w := f18.l2.w } :=
  loop_good (ι := ByteArray × Int) (α := ((ByteArray × Int × Bool) ⊕ (Unit))) (fun i => f18.l2.st i.1 i.2) (fun j i => f18.l2 k j i.1 i.2) f18.l2.w (fun rec_ ret i => f18.l2.step k (fun s2 a3 => rec_ (s2, a3)) ret i.1 i.2)
    (fun _ => rfl) (fun _ _ => rfl) (fun rec_ g i => f18.l2.nat k _ g i.1 i.2) (fun {R} i0 i rec_ K => by kernel_rfl) k (s2, a3)
theorem f18.l2.all (k : Nat) (S : St env) : GoodL (f18.X k) (nthC 0 (loopsOf (bodyOf Tryd.f18))) S (f18.l2.hd k S.ts S.m S.n) := by
  obtain ⟨ts_, m_, n_⟩ := S
  show GoodL _ _ _ (f18.l2.hd k ts_ m_ n_)
  unfold f18.l2.hd
  refine gTs_ok (p := GoodL _ _ _) goodL_no fun _ h => ?_
  subst h
  refine gV_ok (p := GoodL _ _ _) goodL_no fun _ _ h => ?_
  subst h
  refine rV_ok (p := GoodL _ _ _) goodL_no fun _ h => ?_
  subst h
  refine vS_ok (p := GoodL _ _ _) goodL_no fun _ h => ?_
  subst h
  refine gV_ok (p := GoodL _ _ _) goodL_no fun _ _ h => ?_
  subst h
  refine rV_ok (p := GoodL _ _ _) goodL_no fun _ h => ?_
  subst h
  refine vI_ok (p := GoodL _ _ _) goodL_no fun _ h => ?_
  subst h
  refine gE_ok (p := GoodL _ _ _) goodL_no fun h => ?_
  subst h
  refine gE_ok (p := GoodL _ _ _) goodL_no fun h => ?_
  subst h
  refine gN_ok (p := GoodL _ _ _) goodL_no fun h => ?_
  subst h
  exact f18.l2.good k _ _
theorem f18.nat {R : Type} (k : Nat) (g : (ByteArray × Int × Bool) → Option R) (s1 : ByteArray) : f18.step k g s1 = (f18 k s1).bind g := by
  simp only [f18, f18.step, bind_ite, bind_sum, Option.bind_assoc, Option.bind_some, Option.bind_none]
theorem f18.ev (k : Nat) (s1 : ByteArray) : evF (f18.X k) (bodyOf Tryd.f18) Tryd.f18.ntmps Tryd.f18.results.toList [.v (.c (.s (.string s1)))] = f18.step k (fun x => f18.w x some) s1 := by kernel_rfl
theorem f18.hok (k : Nat) : HOK (f18.X k) (bodyOf Tryd.f18) where
  l := allP_mem (by exact ⟨ls_of (h0 := fun S => f18.l2.hd k S.ts S.m S.n) (by kernel_rfl) (f18.l2.all k), ls_of (h0 := fun S => f18.l11.hd k S.ts S.m S.n) (by kernel_rfl) (f18.l11.all k), trivial⟩)
  j := allP_mem (by exact trivial)
theorem f18.sound (k : Nat) : SoundC env Tryd.prog 18 ((f18.e k).F) := by
  intro ps_
  show GoodC _ _ _ ps_ (f18.hd k ps_)
  unfold f18.hd
  refine gC_ok (p := GoodC env Tryd.prog 18 _) goodC_no fun _ _ h => ?_
  subst h
  refine qC_ok (p := GoodC env Tryd.prog 18 _) goodC_no fun _ h => ?_
  subst h
  refine qS_ok (p := GoodC env Tryd.prog 18 _) goodC_no fun _ h => ?_
  subst h
  refine vS_ok (p := GoodC env Tryd.prog 18 _) goodC_no fun _ h => ?_
  subst h
  refine gE_ok (p := GoodC env Tryd.prog 18 _) goodC_no fun h => ?_
  subst h
  exact fun_good (fun_sound envOK (cs_sound _ (by exact ⟨⟨f14.sound k, f14.fnok⟩, ⟨f38.sound k, f38.fnok⟩, ⟨f39.sound k, f39.fnok⟩, ⟨f40.sound k, f40.fnok⟩, trivial⟩)) (f18.hok k) Tryd.func18 rfl) ((f18.ev k _).trans (f18.nat k _ _))
theorem f18.says (k : Nat) (s1 : ByteArray) (t21 : ByteArray × Int × Bool) (h_ : f18 k s1 = some t21) : SoundAt env Tryd.prog 18 [.v (.c (.s (.string s1)))] ⟨.tup [.c (.s (.string t21.1)), .c (.s (.int .i64 t21.2.1)), .c (.s (.bool t21.2.2))], [[]]⟩ :=
  fun_sound envOK (cs_sound _ (by exact ⟨⟨f14.sound k, f14.fnok⟩, ⟨f38.sound k, f38.fnok⟩, ⟨f39.sound k, f39.fnok⟩, ⟨f40.sound k, f40.fnok⟩, trivial⟩)) (f18.hok k) Tryd.func18 rfl _ _ (((f18.ev k s1).trans (f18.nat k _ s1)).trans (by rw [h_]; rfl))
theorem f18.fnok : FnOK Tryd.prog 18 := fn_ok Tryd.func18 (by kernel_rfl) rfl
def f8.step {R : Type} (k : Nat) (ret : (ByteArray × Int × Int) → Option R) (s1 : ByteArray) : Option R :=
  if (decide ((((ByteArray.size s1) : Nat) : Int) > (65536 : Int))) = true then
    ret ((⟨#[]⟩ : ByteArray), (0 : Int), (2 : Int))
  else
    if (decide ((((ByteArray.size s1) : Nat) : Int) > (70 : Int))) = true then
      ret ((⟨#[]⟩ : ByteArray), (0 : Int), (3 : Int))
    else
      (f18 k s1).bind fun t2 => if (!t2.2.2) = true then
          ret ((⟨#[]⟩ : ByteArray), (0 : Int), (3 : Int))
        else
          ret (t2.1, t2.2.1, (0 : Int))
def f8 (k : Nat) (s1 : ByteArray) : Option (ByteArray × Int × Int) := f8.step k some s1
def f8.w {R : Type} : (ByteArray × Int × Int) → (Res env → Option R) → Option R := fun t3 K => K ⟨.tup [.c (.s (.string t3.1)), .c (.s (.int .i64 t3.2.1)), .c (.s (.int .i64 t3.2.2))], [[]]⟩
theorem f8.wn (x : (ByteArray × Int × Int)) : ∃ res, ∀ {R : Type} (K : Res env → Option R), f8.w x K = K res := by
  exact ⟨_, fun _ => rfl⟩
def f8.hd (k : Nat) (ps_ : List (P2 env)) : Cl env :=
  gC Cl.no ps_ fun p_ ps_ => qC Cl.no p_ fun c_ => qS Cl.no c_ fun v_ => vS Cl.no v_ fun s1 => gE Cl.no ps_ <| { α := ByteArray × Int × Int, o := f8 k s1, w := f8.w, nat := fun x _ => f8.wn x }
def f8.e (k : Nat) : Entry env := ⟨f8.hd k, [], []⟩
def f8.X (k : Nat) : Ctx env := { C := lookE [(18, f18.e k)], L := lookE [], J := lookE [], keep := lookD [], keepX := lookD [], span := lookN [], eff := fun n => memN n [], prep := lookP [], np := 0 }
theorem f8.nat {R : Type} (k : Nat) (g : (ByteArray × Int × Int) → Option R) (s1 : ByteArray) : f8.step k g s1 = (f8 k s1).bind g := by
  simp only [f8, f8.step, bind_ite, bind_sum, Option.bind_assoc, Option.bind_some, Option.bind_none]
theorem f8.ev (k : Nat) (s1 : ByteArray) : evF (f8.X k) (bodyOf Tryd.f8) Tryd.f8.ntmps Tryd.f8.results.toList [.v (.c (.s (.string s1)))] = f8.step k (fun x => f8.w x some) s1 := by kernel_rfl
theorem f8.hok (k : Nat) : HOK (f8.X k) (bodyOf Tryd.f8) where
  l := allP_mem (by exact trivial)
  j := allP_mem (by exact trivial)
theorem f8.sound (k : Nat) : SoundC env Tryd.prog 8 ((f8.e k).F) := by
  intro ps_
  show GoodC _ _ _ ps_ (f8.hd k ps_)
  unfold f8.hd
  refine gC_ok (p := GoodC env Tryd.prog 8 _) goodC_no fun _ _ h => ?_
  subst h
  refine qC_ok (p := GoodC env Tryd.prog 8 _) goodC_no fun _ h => ?_
  subst h
  refine qS_ok (p := GoodC env Tryd.prog 8 _) goodC_no fun _ h => ?_
  subst h
  refine vS_ok (p := GoodC env Tryd.prog 8 _) goodC_no fun _ h => ?_
  subst h
  refine gE_ok (p := GoodC env Tryd.prog 8 _) goodC_no fun h => ?_
  subst h
  exact fun_good (fun_sound envOK (cs_sound _ (by exact ⟨⟨f18.sound k, f18.fnok⟩, trivial⟩)) (f8.hok k) Tryd.func8 rfl) ((f8.ev k _).trans (f8.nat k _ _))
theorem f8.says (k : Nat) (s1 : ByteArray) (t4 : ByteArray × Int × Int) (h_ : f8 k s1 = some t4) : SoundAt env Tryd.prog 8 [.v (.c (.s (.string s1)))] ⟨.tup [.c (.s (.string t4.1)), .c (.s (.int .i64 t4.2.1)), .c (.s (.int .i64 t4.2.2))], [[]]⟩ :=
  fun_sound envOK (cs_sound _ (by exact ⟨⟨f18.sound k, f18.fnok⟩, trivial⟩)) (f8.hok k) Tryd.func8 rfl _ _ (((f8.ev k s1).trans (f8.nat k _ s1)).trans (by rw [h_]; rfl))
theorem f8.fnok : FnOK Tryd.prog 8 := fn_ok Tryd.func8 (by kernel_rfl) rfl
def f22.l6.step {R : Type} (k : Nat) (rec_ : ByteArray → Int → Int → (List Int) → Option R) (ret : (ByteArray × Int × (List Int)) → Option R) (s5 : ByteArray) (a6 : Int) (a7 : Int) (xs8 : List Int) : Option R :=
  if (decide (a7 ≥ (0 : Int))) = true then
    if (0 : Int) ≤ a6 then
      if a6 < ((ByteArray.size s5 : Nat) : Int) then
        if (0 : Int) ≤ a7 then
          if (List.length xs8 + List.length ([(IntKind.u8.wrap ((48 : Int) + (bitsV .and .u8 (Int.fdiv (bt s5 a6) (2 ^ (min (Int.toNat a7) IntKind.u8.bits))) (1 : Int))))] : List Int)) * 1 ≤ maxN then
            rec_ s5 a6 (IntKind.i64.wrap (a7 - (1 : Int))) (xs8 ++ ([(IntKind.u8.wrap ((48 : Int) + (bitsV .and .u8 (Int.fdiv (bt s5 a6) (2 ^ (min (Int.toNat a7) IntKind.u8.bits))) (1 : Int))))] : List Int))
          else none
        else none
      else none
    else none
  else
    ret (s5, a6, xs8)
def f22.l6 (k : Nat) : Nat → ByteArray → Int → Int → (List Int) → Option (ByteArray × Int × (List Int))
  | 0, _, _, _, _ => none
  | j + 1, s5, a6, a7, xs8 => f22.l6.step k (fun s5 a6 a7 xs8 => f22.l6 k j s5 a6 a7 xs8) some s5 a6 a7 xs8
def f22.l6.w {R : Type} : (ByteArray × Int × (List Int)) → (Exit → St env → Option R) → Option R := fun t11 K => K (.exit 2) ⟨fullT [0, 3, 4] 0 32 [.v (.c (.s (.string t11.1))), .v (.c (.row 65)), .v (.c (.s (.int .i64 t11.2.1)))], [(65, .row true 5 t11.2.2)], 449⟩
def f22.l6.st (s5 : ByteArray) (a6 : Int) (a7 : Int) (xs8 : List Int) : St env := ⟨fullT [0, 3, 4, 5] 0 32 [.v (.c (.s (.string s5))), .v (.c (.row 65)), .v (.c (.s (.int .i64 a6))), .v (.c (.s (.int .i64 a7)))], [(65, .row true 5 xs8)], 193⟩
def f22.l3.step {R : Type} (k : Nat) (rec_ : ByteArray → Int → (List Int) → Option R) (ret : ((List Int)) → Option R) (s2 : ByteArray) (a3 : Int) (xs4 : List Int) : Option R :=
  if (decide (a3 < (((ByteArray.size s2) : Nat) : Int))) = true then
    (f22.l6 k k s2 a3 (7 : Int) xs4).bind fun t9 => rec_ t9.1 (IntKind.i64.wrap (t9.2.1 + (1 : Int))) t9.2.2
  else
    ret xs4
def f22.l3 (k : Nat) : Nat → ByteArray → Int → (List Int) → Option ((List Int))
  | 0, _, _, _ => none
  | j + 1, s2, a3, xs4 => f22.l3.step k (fun s2 a3 xs4 => f22.l3 k j s2 a3 xs4) some s2 a3 xs4
def f22.l3.w {R : Type} : ((List Int)) → (Exit → St env → Option R) → Option R := fun t12 K => K (.exit 0) ⟨fullT [3] 0 32 [.v (.c (.row 65))], [(65, .row true 5 t12)], 497⟩
def f22.l3.st (s2 : ByteArray) (a3 : Int) (xs4 : List Int) : St env := ⟨fullT [0, 3, 4] 0 32 [.v (.c (.s (.string s2))), .v (.c (.row 65)), .v (.c (.s (.int .i64 a3)))], [(65, .row true 5 xs4)], 113⟩
def f22.l6.hd (k : Nat) (ts_ : List (AV env)) (mm_ : Mem env) (n_ : Nat) : LCl env :=
  gTs LCl.no [0, 3, 4, 5] 32 ts_ fun l_ => gV LCl.no l_ fun a_ l_ => rV LCl.no a_ fun v_ => vS LCl.no v_ fun s5 => gV LCl.no l_ fun a_ l_ => rRow LCl.no 65 a_ <| gV LCl.no l_ fun a_ l_ => rV LCl.no a_ fun v_ => vI LCl.no .i64 v_ fun a6 => gV LCl.no l_ fun a_ l_ => rV LCl.no a_ fun v_ => vI LCl.no .i64 v_ fun a7 => gE LCl.no l_ <| mRow LCl.no 65 true 5 mm_ fun xs8 m_ => gE LCl.no m_ <| gN LCl.no 193 n_ { α := ByteArray × Int × (List Int), o := f22.l6 k k s5 a6 a7 xs8, w := f22.l6.w }
def f22.l3.hd (k : Nat) (ts_ : List (AV env)) (mm_ : Mem env) (n_ : Nat) : LCl env :=
  gTs LCl.no [0, 3, 4] 32 ts_ fun l_ => gV LCl.no l_ fun a_ l_ => rV LCl.no a_ fun v_ => vS LCl.no v_ fun s2 => gV LCl.no l_ fun a_ l_ => rRow LCl.no 65 a_ <| gV LCl.no l_ fun a_ l_ => rV LCl.no a_ fun v_ => vI LCl.no .i64 v_ fun a3 => gE LCl.no l_ <| mRow LCl.no 65 true 5 mm_ fun xs4 m_ => gE LCl.no m_ <| gN LCl.no 113 n_ { α := (List Int), o := f22.l3 k k s2 a3 xs4, w := f22.l3.w }
def f22.step {R : Type} (k : Nat) (ret : ByteArray → Option R) (s1 : ByteArray) : Option R :=
  if (0 : Int) ≤ (IntKind.i64.wrap ((8 : Int) * (((ByteArray.size s1) : Nat) : Int))) then
    if (Int.toNat (IntKind.i64.wrap ((8 : Int) * (((ByteArray.size s1) : Nat) : Int)))) * 1 ≤ maxN then
      (f22.l3 k k s1 (0 : Int) (List.replicate 0 (0 : Int))).bind fun t10 => ret (strOf t10)
    else none
  else none
def f22 (k : Nat) (s1 : ByteArray) : Option ByteArray := f22.step k some s1
def f22.w {R : Type} : ByteArray → (Res env → Option R) → Option R := fun t13 K => K ⟨.v (.c (.s (.string t13))), [[]]⟩
theorem f22.wn (x : ByteArray) : ∃ res, ∀ {R : Type} (K : Res env → Option R), f22.w x K = K res := by
  exact ⟨_, fun _ => rfl⟩
def f22.hd (k : Nat) (ps_ : List (P2 env)) : Cl env :=
  gC Cl.no ps_ fun p_ ps_ => qC Cl.no p_ fun c_ => qS Cl.no c_ fun v_ => vS Cl.no v_ fun s1 => gE Cl.no ps_ <| { α := ByteArray, o := f22 k s1, w := f22.w, nat := fun x _ => f22.wn x }
def f22.e (k : Nat) : Entry env := ⟨f22.hd k, [], []⟩
def f22.X (k : Nat) : Ctx env := { C := lookE [], L := lookE [(6, fun S => f22.l6.hd k S.ts S.m S.n), (3, fun S => f22.l3.hd k S.ts S.m S.n)], J := lookE [], keep := lookD [(6, [0, 3, 4, 5]), (3, [0, 3, 4])], keepX := lookD [(6, [0, 3, 4]), (3, [3])], span := lookN [(6, 256), (3, 384)], eff := fun n => memN n [], prep := lookP [], np := 0 }
theorem f22.l6.nat {R : Type} (k : Nat) (rec_ : ByteArray → Int → Int → (List Int) → Option (ByteArray × Int × (List Int))) (g : (ByteArray × Int × (List Int)) → Option R) (s5 : ByteArray) (a6 : Int) (a7 : Int) (xs8 : List Int) : (f22.l6.step k rec_ some s5 a6 a7 xs8).bind g = f22.l6.step k (fun s5 a6 a7 xs8 => (rec_ s5 a6 a7 xs8).bind g) g s5 a6 a7 xs8 := by
  simp only [f22.l6.step, bind_ite, bind_sum, Option.bind_assoc, Option.bind_some, Option.bind_none]
theorem f22.l6.good (k : Nat) (s5 : ByteArray) (a6 : Int) (a7 : Int) (xs8 : List Int) : GoodL (f22.X k) (nthC 1 (loopsOf (bodyOf Tryd.f22))) (f22.l6.st s5 a6 a7 xs8) { α := (ByteArray × Int × (List Int)), o := f22.l6 k k s5 a6 a7 xs8, w := f22.l6.w } :=
  loop_good (ι := ByteArray × Int × Int × (List Int)) (α := (ByteArray × Int × (List Int))) (fun i => f22.l6.st i.1 i.2.1 i.2.2.1 i.2.2.2) (fun j i => f22.l6 k j i.1 i.2.1 i.2.2.1 i.2.2.2) f22.l6.w (fun rec_ ret i => f22.l6.step k (fun s5 a6 a7 xs8 => rec_ (s5, a6, a7, xs8)) ret i.1 i.2.1 i.2.2.1 i.2.2.2)
    (fun _ => rfl) (fun _ _ => rfl) (fun rec_ g i => f22.l6.nat k _ g i.1 i.2.1 i.2.2.1 i.2.2.2) (fun {R} i0 i rec_ K => by kernel_rfl) k (s5, a6, a7, xs8)
theorem f22.l6.all (k : Nat) (S : St env) : GoodL (f22.X k) (nthC 1 (loopsOf (bodyOf Tryd.f22))) S (f22.l6.hd k S.ts S.m S.n) := by
  obtain ⟨ts_, m_, n_⟩ := S
  show GoodL _ _ _ (f22.l6.hd k ts_ m_ n_)
  unfold f22.l6.hd
  refine gTs_ok (p := GoodL _ _ _) goodL_no fun _ h => ?_
  subst h
  refine gV_ok (p := GoodL _ _ _) goodL_no fun _ _ h => ?_
  subst h
  refine rV_ok (p := GoodL _ _ _) goodL_no fun _ h => ?_
  subst h
  refine vS_ok (p := GoodL _ _ _) goodL_no fun _ h => ?_
  subst h
  refine gV_ok (p := GoodL _ _ _) goodL_no fun _ _ h => ?_
  subst h
  refine rRow_ok (p := GoodL _ _ _) goodL_no fun h => ?_
  subst h
  refine gV_ok (p := GoodL _ _ _) goodL_no fun _ _ h => ?_
  subst h
  refine rV_ok (p := GoodL _ _ _) goodL_no fun _ h => ?_
  subst h
  refine vI_ok (p := GoodL _ _ _) goodL_no fun _ h => ?_
  subst h
  refine gV_ok (p := GoodL _ _ _) goodL_no fun _ _ h => ?_
  subst h
  refine rV_ok (p := GoodL _ _ _) goodL_no fun _ h => ?_
  subst h
  refine vI_ok (p := GoodL _ _ _) goodL_no fun _ h => ?_
  subst h
  refine gE_ok (p := GoodL _ _ _) goodL_no fun h => ?_
  subst h
  refine mRow_ok (p := GoodL _ _ _) goodL_no fun _ _ h => ?_
  subst h
  refine gE_ok (p := GoodL _ _ _) goodL_no fun h => ?_
  subst h
  refine gN_ok (p := GoodL _ _ _) goodL_no fun h => ?_
  subst h
  exact f22.l6.good k _ _ _ _
theorem f22.l3.nat {R : Type} (k : Nat) (rec_ : ByteArray → Int → (List Int) → Option ((List Int))) (g : ((List Int)) → Option R) (s2 : ByteArray) (a3 : Int) (xs4 : List Int) : (f22.l3.step k rec_ some s2 a3 xs4).bind g = f22.l3.step k (fun s2 a3 xs4 => (rec_ s2 a3 xs4).bind g) g s2 a3 xs4 := by
  simp only [f22.l3.step, bind_ite, bind_sum, Option.bind_assoc, Option.bind_some, Option.bind_none]
theorem f22.l3.good (k : Nat) (s2 : ByteArray) (a3 : Int) (xs4 : List Int) : GoodL (f22.X k) (nthC 0 (loopsOf (bodyOf Tryd.f22))) (f22.l3.st s2 a3 xs4) { α := ((List Int)), o := f22.l3 k k s2 a3 xs4, w := f22.l3.w } :=
  loop_good (ι := ByteArray × Int × (List Int)) (α := ((List Int))) (fun i => f22.l3.st i.1 i.2.1 i.2.2) (fun j i => f22.l3 k j i.1 i.2.1 i.2.2) f22.l3.w (fun rec_ ret i => f22.l3.step k (fun s2 a3 xs4 => rec_ (s2, a3, xs4)) ret i.1 i.2.1 i.2.2)
    (fun _ => rfl) (fun _ _ => rfl) (fun rec_ g i => f22.l3.nat k _ g i.1 i.2.1 i.2.2) (fun {R} i0 i rec_ K => by kernel_rfl) k (s2, a3, xs4)
theorem f22.l3.all (k : Nat) (S : St env) : GoodL (f22.X k) (nthC 0 (loopsOf (bodyOf Tryd.f22))) S (f22.l3.hd k S.ts S.m S.n) := by
  obtain ⟨ts_, m_, n_⟩ := S
  show GoodL _ _ _ (f22.l3.hd k ts_ m_ n_)
  unfold f22.l3.hd
  refine gTs_ok (p := GoodL _ _ _) goodL_no fun _ h => ?_
  subst h
  refine gV_ok (p := GoodL _ _ _) goodL_no fun _ _ h => ?_
  subst h
  refine rV_ok (p := GoodL _ _ _) goodL_no fun _ h => ?_
  subst h
  refine vS_ok (p := GoodL _ _ _) goodL_no fun _ h => ?_
  subst h
  refine gV_ok (p := GoodL _ _ _) goodL_no fun _ _ h => ?_
  subst h
  refine rRow_ok (p := GoodL _ _ _) goodL_no fun h => ?_
  subst h
  refine gV_ok (p := GoodL _ _ _) goodL_no fun _ _ h => ?_
  subst h
  refine rV_ok (p := GoodL _ _ _) goodL_no fun _ h => ?_
  subst h
  refine vI_ok (p := GoodL _ _ _) goodL_no fun _ h => ?_
  subst h
  refine gE_ok (p := GoodL _ _ _) goodL_no fun h => ?_
  subst h
  refine mRow_ok (p := GoodL _ _ _) goodL_no fun _ _ h => ?_
  subst h
  refine gE_ok (p := GoodL _ _ _) goodL_no fun h => ?_
  subst h
  refine gN_ok (p := GoodL _ _ _) goodL_no fun h => ?_
  subst h
  exact f22.l3.good k _ _ _
theorem f22.nat {R : Type} (k : Nat) (g : ByteArray → Option R) (s1 : ByteArray) : f22.step k g s1 = (f22 k s1).bind g := by
  simp only [f22, f22.step, bind_ite, bind_sum, Option.bind_assoc, Option.bind_some, Option.bind_none]
theorem f22.ev (k : Nat) (s1 : ByteArray) : evF (f22.X k) (bodyOf Tryd.f22) Tryd.f22.ntmps Tryd.f22.results.toList [.v (.c (.s (.string s1)))] = f22.step k (fun x => f22.w x some) s1 := by kernel_rfl
theorem f22.hok (k : Nat) : HOK (f22.X k) (bodyOf Tryd.f22) where
  l := allP_mem (by exact ⟨ls_of (h0 := fun S => f22.l3.hd k S.ts S.m S.n) (by kernel_rfl) (f22.l3.all k), ls_of (h0 := fun S => f22.l6.hd k S.ts S.m S.n) (by kernel_rfl) (f22.l6.all k), trivial⟩)
  j := allP_mem (by exact trivial)
theorem f22.sound (k : Nat) : SoundC env Tryd.prog 22 ((f22.e k).F) := by
  intro ps_
  show GoodC _ _ _ ps_ (f22.hd k ps_)
  unfold f22.hd
  refine gC_ok (p := GoodC env Tryd.prog 22 _) goodC_no fun _ _ h => ?_
  subst h
  refine qC_ok (p := GoodC env Tryd.prog 22 _) goodC_no fun _ h => ?_
  subst h
  refine qS_ok (p := GoodC env Tryd.prog 22 _) goodC_no fun _ h => ?_
  subst h
  refine vS_ok (p := GoodC env Tryd.prog 22 _) goodC_no fun _ h => ?_
  subst h
  refine gE_ok (p := GoodC env Tryd.prog 22 _) goodC_no fun h => ?_
  subst h
  exact fun_good (fun_sound envOK (cs_sound _ (by exact trivial)) (f22.hok k) Tryd.func22 rfl) ((f22.ev k _).trans (f22.nat k _ _))
theorem f22.says (k : Nat) (s1 : ByteArray) (t14 : ByteArray) (h_ : f22 k s1 = some t14) : SoundAt env Tryd.prog 22 [.v (.c (.s (.string s1)))] ⟨.v (.c (.s (.string t14))), [[]]⟩ :=
  fun_sound envOK (cs_sound _ (by exact trivial)) (f22.hok k) Tryd.func22 rfl _ _ (((f22.ev k s1).trans (f22.nat k _ s1)).trans (by rw [h_]; rfl))
theorem f22.fnok : FnOK Tryd.prog 22 := fn_ok Tryd.func22 (by kernel_rfl) rfl
def f24.step {R : Type} (k : Nat) (ret : Int → Option R) (s1 : ByteArray) : Option R :=
  if (decide ((((ByteArray.size s1) : Nat) : Int) = (4 : Int))) = true then
    ret (4 : Int)
  else
    ret (6 : Int)
def f24 (k : Nat) (s1 : ByteArray) : Option Int := f24.step k some s1
def f24.w {R : Type} : Int → (Res env → Option R) → Option R := fun t2 K => K ⟨.v (.c (.s (.int .i64 t2))), [[]]⟩
theorem f24.wn (x : Int) : ∃ res, ∀ {R : Type} (K : Res env → Option R), f24.w x K = K res := by
  exact ⟨_, fun _ => rfl⟩
def f24.hd (k : Nat) (ps_ : List (P2 env)) : Cl env :=
  gC Cl.no ps_ fun p_ ps_ => qC Cl.no p_ fun c_ => qS Cl.no c_ fun v_ => vS Cl.no v_ fun s1 => gE Cl.no ps_ <| { α := Int, o := f24 k s1, w := f24.w, nat := fun x _ => f24.wn x }
def f24.e (k : Nat) : Entry env := ⟨f24.hd k, [], []⟩
def f24.X (k : Nat) : Ctx env := { C := lookE [], L := lookE [], J := lookE [], keep := lookD [], keepX := lookD [], span := lookN [], eff := fun n => memN n [], prep := lookP [], np := 0 }
theorem f24.nat {R : Type} (k : Nat) (g : Int → Option R) (s1 : ByteArray) : f24.step k g s1 = (f24 k s1).bind g := by
  simp only [f24, f24.step, bind_ite, bind_sum, Option.bind_assoc, Option.bind_some, Option.bind_none]
theorem f24.ev (k : Nat) (s1 : ByteArray) : evF (f24.X k) (bodyOf Tryd.f24) Tryd.f24.ntmps Tryd.f24.results.toList [.v (.c (.s (.string s1)))] = f24.step k (fun x => f24.w x some) s1 := by kernel_rfl
theorem f24.hok (k : Nat) : HOK (f24.X k) (bodyOf Tryd.f24) where
  l := allP_mem (by exact trivial)
  j := allP_mem (by exact trivial)
theorem f24.sound (k : Nat) : SoundC env Tryd.prog 24 ((f24.e k).F) := by
  intro ps_
  show GoodC _ _ _ ps_ (f24.hd k ps_)
  unfold f24.hd
  refine gC_ok (p := GoodC env Tryd.prog 24 _) goodC_no fun _ _ h => ?_
  subst h
  refine qC_ok (p := GoodC env Tryd.prog 24 _) goodC_no fun _ h => ?_
  subst h
  refine qS_ok (p := GoodC env Tryd.prog 24 _) goodC_no fun _ h => ?_
  subst h
  refine vS_ok (p := GoodC env Tryd.prog 24 _) goodC_no fun _ h => ?_
  subst h
  refine gE_ok (p := GoodC env Tryd.prog 24 _) goodC_no fun h => ?_
  subst h
  exact fun_good (fun_sound envOK (cs_sound _ (by exact trivial)) (f24.hok k) Tryd.func24 rfl) ((f24.ev k _).trans (f24.nat k _ _))
theorem f24.says (k : Nat) (s1 : ByteArray) (t3 : Int) (h_ : f24 k s1 = some t3) : SoundAt env Tryd.prog 24 [.v (.c (.s (.string s1)))] ⟨.v (.c (.s (.int .i64 t3))), [[]]⟩ :=
  fun_sound envOK (cs_sound _ (by exact trivial)) (f24.hok k) Tryd.func24 rfl _ _ (((f24.ev k s1).trans (f24.nat k _ s1)).trans (by rw [h_]; rfl))
theorem f24.fnok : FnOK Tryd.prog 24 := fn_ok Tryd.func24 (by kernel_rfl) rfl
def f9.step {R : Type} (k : Nat) (ret : (ByteArray × Int × Int) → Option R) (s1 : ByteArray) : Option R :=
  (f15 k ([s1] : List ByteArray)).bind fun t2 => if t2 = true then
      ret ((⟨#[]⟩ : ByteArray), (0 : Int), (2 : Int))
    else
      if (decide ((((ByteArray.size s1) : Nat) : Int) > (70 : Int))) = true then
        ret ((⟨#[]⟩ : ByteArray), (0 : Int), (3 : Int))
      else
        (f19 k s1 (⟨#[47]⟩ : ByteArray)).bind fun t3 => (f7 k t3.1).bind fun t4 => (f20 k t3.2.1).bind fun t5 => if (!t3.2.2) = false then
                if (decide (t4.2 ≠ (0 : Int))) = false then
                  if (!t5.2) = false then
                    (f21 k t5.1 (0 : Int) (IntKind.i64.wrap ((8 : Int) * (((ByteArray.size t4.1) : Nat) : Int)))).bind fun t6 => if (!t6) = true then
                        ret ((⟨#[]⟩ : ByteArray), (0 : Int), (3 : Int))
                      else
                        (f22 k t4.1).bind fun t7 => if (0 : Int) ≤ t5.1 then
                            if t5.1 ≤ ((ByteArray.size t7 : Nat) : Int) then
                              if ((ByteArray.size t7 : Nat) : Int) ≤ ((ByteArray.size t7 : Nat) : Int) then
                                (f23 k (ByteArray.extract t7 (Int.toNat t5.1) (Int.toNat ((ByteArray.size t7 : Nat) : Int))) (⟨#[49]⟩ : ByteArray)).bind fun t8 => if t8 = true then
                                    ret ((⟨#[]⟩ : ByteArray), (0 : Int), (3 : Int))
                                  else
                                    if (0 : Int) ≤ t5.1 then
                                      if t5.1 ≤ ((ByteArray.size t7 : Nat) : Int) then
                                        (f24 k t4.1).bind fun t9 => ret ((ByteArray.extract t7 0 (Int.toNat t5.1)), t9, (0 : Int))
                                      else none
                                    else none
                              else none
                            else none
                          else none
                  else
                    ret ((⟨#[]⟩ : ByteArray), (0 : Int), (3 : Int))
                else
                  ret ((⟨#[]⟩ : ByteArray), (0 : Int), (3 : Int))
              else
                ret ((⟨#[]⟩ : ByteArray), (0 : Int), (3 : Int))
def f9 (k : Nat) (s1 : ByteArray) : Option (ByteArray × Int × Int) := f9.step k some s1
def f9.w {R : Type} : (ByteArray × Int × Int) → (Res env → Option R) → Option R := fun t10 K => K ⟨.tup [.c (.s (.string t10.1)), .c (.s (.int .i64 t10.2.1)), .c (.s (.int .i64 t10.2.2))], [[]]⟩
theorem f9.wn (x : (ByteArray × Int × Int)) : ∃ res, ∀ {R : Type} (K : Res env → Option R), f9.w x K = K res := by
  exact ⟨_, fun _ => rfl⟩
def f9.hd (k : Nat) (ps_ : List (P2 env)) : Cl env :=
  gC Cl.no ps_ fun p_ ps_ => qC Cl.no p_ fun c_ => qS Cl.no c_ fun v_ => vS Cl.no v_ fun s1 => gE Cl.no ps_ <| { α := ByteArray × Int × Int, o := f9 k s1, w := f9.w, nat := fun x _ => f9.wn x }
def f9.e (k : Nat) : Entry env := ⟨f9.hd k, [], []⟩
def f9.X (k : Nat) : Ctx env := { C := lookE [(7, f7.e k), (15, f15.e k), (19, f19.e k), (20, f20.e k), (21, f21.e k), (22, f22.e k), (23, f23.e k), (24, f24.e k)], L := lookE [], J := lookE [], keep := lookD [], keepX := lookD [], span := lookN [], eff := fun n => memN n [], prep := lookP [], np := 0 }
theorem f9.nat {R : Type} (k : Nat) (g : (ByteArray × Int × Int) → Option R) (s1 : ByteArray) : f9.step k g s1 = (f9 k s1).bind g := by
  simp only [f9, f9.step, bind_ite, bind_sum, Option.bind_assoc, Option.bind_some, Option.bind_none]
theorem f9.ev (k : Nat) (s1 : ByteArray) : evF (f9.X k) (bodyOf Tryd.f9) Tryd.f9.ntmps Tryd.f9.results.toList [.v (.c (.s (.string s1)))] = f9.step k (fun x => f9.w x some) s1 := by kernel_rfl
theorem f9.hok (k : Nat) : HOK (f9.X k) (bodyOf Tryd.f9) where
  l := allP_mem (by exact trivial)
  j := allP_mem (by exact trivial)
theorem f9.sound (k : Nat) : SoundC env Tryd.prog 9 ((f9.e k).F) := by
  intro ps_
  show GoodC _ _ _ ps_ (f9.hd k ps_)
  unfold f9.hd
  refine gC_ok (p := GoodC env Tryd.prog 9 _) goodC_no fun _ _ h => ?_
  subst h
  refine qC_ok (p := GoodC env Tryd.prog 9 _) goodC_no fun _ h => ?_
  subst h
  refine qS_ok (p := GoodC env Tryd.prog 9 _) goodC_no fun _ h => ?_
  subst h
  refine vS_ok (p := GoodC env Tryd.prog 9 _) goodC_no fun _ h => ?_
  subst h
  refine gE_ok (p := GoodC env Tryd.prog 9 _) goodC_no fun h => ?_
  subst h
  exact fun_good (fun_sound envOK (cs_sound _ (by exact ⟨⟨f7.sound k, f7.fnok⟩, ⟨f15.sound k, f15.fnok⟩, ⟨f19.sound k, f19.fnok⟩, ⟨f20.sound k, f20.fnok⟩, ⟨f21.sound k, f21.fnok⟩, ⟨f22.sound k, f22.fnok⟩, ⟨f23.sound k, f23.fnok⟩, ⟨f24.sound k, f24.fnok⟩, trivial⟩)) (f9.hok k) Tryd.func9 rfl) ((f9.ev k _).trans (f9.nat k _ _))
theorem f9.says (k : Nat) (s1 : ByteArray) (t11 : ByteArray × Int × Int) (h_ : f9 k s1 = some t11) : SoundAt env Tryd.prog 9 [.v (.c (.s (.string s1)))] ⟨.tup [.c (.s (.string t11.1)), .c (.s (.int .i64 t11.2.1)), .c (.s (.int .i64 t11.2.2))], [[]]⟩ :=
  fun_sound envOK (cs_sound _ (by exact ⟨⟨f7.sound k, f7.fnok⟩, ⟨f15.sound k, f15.fnok⟩, ⟨f19.sound k, f19.fnok⟩, ⟨f20.sound k, f20.fnok⟩, ⟨f21.sound k, f21.fnok⟩, ⟨f22.sound k, f22.fnok⟩, ⟨f23.sound k, f23.fnok⟩, ⟨f24.sound k, f24.fnok⟩, trivial⟩)) (f9.hok k) Tryd.func9 rfl _ _ (((f9.ev k s1).trans (f9.nat k _ s1)).trans (by rw [h_]; rfl))
theorem f9.fnok : FnOK Tryd.prog 9 := fn_ok Tryd.func9 (by kernel_rfl) rfl
def f4.step {R : Type} (k : Nat) (ret : Bool → Option R) (s1 : ByteArray) : Option R :=
  if (decide ((((ByteArray.size s1) : Nat) : Int) > (1048576 : Int))) = true then
    ret true
  else
    (f8 k s1).bind fun t2 => (f9 k s1).bind fun t3 => if (decide (ByteArray.toList t3.1 ≠ ByteArray.toList t2.1)) = false then
          if (decide (t3.2.1 ≠ t2.2.1)) = false then
            if (decide (t3.2.2 ≠ t2.2.2)) = true then
              ret false
            else
              ret true
          else
            ret false
        else
          ret false
def f4 (k : Nat) (s1 : ByteArray) : Option Bool := f4.step k some s1
def f4.w {R : Type} : Bool → (Res env → Option R) → Option R := fun t4 K => K ⟨.v (.c (.s (.bool t4))), [[]]⟩
theorem f4.wn (x : Bool) : ∃ res, ∀ {R : Type} (K : Res env → Option R), f4.w x K = K res := by
  exact ⟨_, fun _ => rfl⟩
def f4.hd (k : Nat) (ps_ : List (P2 env)) : Cl env :=
  gC Cl.no ps_ fun p_ ps_ => qC Cl.no p_ fun c_ => qS Cl.no c_ fun v_ => vS Cl.no v_ fun s1 => gE Cl.no ps_ <| { α := Bool, o := f4 k s1, w := f4.w, nat := fun x _ => f4.wn x }
def f4.e (k : Nat) : Entry env := ⟨f4.hd k, [], []⟩
def f4.X (k : Nat) : Ctx env := { C := lookE [(8, f8.e k), (9, f9.e k)], L := lookE [], J := lookE [], keep := lookD [], keepX := lookD [], span := lookN [], eff := fun n => memN n [], prep := lookP [], np := 0 }
theorem f4.nat {R : Type} (k : Nat) (g : Bool → Option R) (s1 : ByteArray) : f4.step k g s1 = (f4 k s1).bind g := by
  simp only [f4, f4.step, bind_ite, bind_sum, Option.bind_assoc, Option.bind_some, Option.bind_none]
theorem f4.ev (k : Nat) (s1 : ByteArray) : evF (f4.X k) (bodyOf Tryd.f4) Tryd.f4.ntmps Tryd.f4.results.toList [.v (.c (.s (.string s1)))] = f4.step k (fun x => f4.w x some) s1 := by kernel_rfl
theorem f4.hok (k : Nat) : HOK (f4.X k) (bodyOf Tryd.f4) where
  l := allP_mem (by exact trivial)
  j := allP_mem (by exact trivial)
theorem f4.sound (k : Nat) : SoundC env Tryd.prog 4 ((f4.e k).F) := by
  intro ps_
  show GoodC _ _ _ ps_ (f4.hd k ps_)
  unfold f4.hd
  refine gC_ok (p := GoodC env Tryd.prog 4 _) goodC_no fun _ _ h => ?_
  subst h
  refine qC_ok (p := GoodC env Tryd.prog 4 _) goodC_no fun _ h => ?_
  subst h
  refine qS_ok (p := GoodC env Tryd.prog 4 _) goodC_no fun _ h => ?_
  subst h
  refine vS_ok (p := GoodC env Tryd.prog 4 _) goodC_no fun _ h => ?_
  subst h
  refine gE_ok (p := GoodC env Tryd.prog 4 _) goodC_no fun h => ?_
  subst h
  exact fun_good (fun_sound envOK (cs_sound _ (by exact ⟨⟨f8.sound k, f8.fnok⟩, ⟨f9.sound k, f9.fnok⟩, trivial⟩)) (f4.hok k) Tryd.func4 rfl) ((f4.ev k _).trans (f4.nat k _ _))
theorem f4.says (k : Nat) (s1 : ByteArray) (t5 : Bool) (h_ : f4 k s1 = some t5) : SoundAt env Tryd.prog 4 [.v (.c (.s (.string s1)))] ⟨.v (.c (.s (.bool t5))), [[]]⟩ :=
  fun_sound envOK (cs_sound _ (by exact ⟨⟨f8.sound k, f8.fnok⟩, ⟨f9.sound k, f9.fnok⟩, trivial⟩)) (f4.hok k) Tryd.func4 rfl _ _ (((f4.ev k s1).trans (f4.nat k _ s1)).trans (by rw [h_]; rfl))
theorem f4.fnok : FnOK Tryd.prog 4 := fn_ok Tryd.func4 (by kernel_rfl) rfl
end Go.Proofs.YtebmblbfplmcaaaDoor.B

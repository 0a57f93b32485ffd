/- Written by a program of this session. -/
import Derived.Test.YtildepkogbcdpaaEPa
namespace Go.Proofs.Ytildepkogbcdpaa.B
open Go Go.B
set_option linter.unusedVariables false
set_option linter.unusedSimpArgs false
def f174.step {R : Type} (k : Nat) (ret : (((List S104) × Int × ByteArray × ByteArray × Int × Int × Int × Int × Bool × Bool × (List Int) × Int) ⊕ (((List S104) × Int × ByteArray × ByteArray × Int × Int × Int × Int × Bool × Bool × Int) ⊕ ((List S104) × Int × ByteArray × ByteArray × Int × Int × Int × Int × Bool × Bool × Int))) → Option R) (xs1 : List S104) (a2 : Int) (s3 : ByteArray) (s4 : ByteArray) (a5 : Int) (a6 : Int) (a7 : Int) (a8 : Int) (b9 : Bool) (b10 : Bool) (xs11 : List Int) (a12 : Int) : Option R :=
  if (!b9) = true then
    if (decide (a8 = (0 : Int))) = true then
      (f146 k a2 s3 s4 a5 a6 a7 a8 b9 b10 xs11).bind fun t13 => ret (.inl (xs1, t13.1, t13.2.1, t13.2.2.1, t13.2.2.2.1, t13.2.2.2.2.1, t13.2.2.2.2.2.1, t13.2.2.2.2.2.2.1, t13.2.2.2.2.2.2.2.1, t13.2.2.2.2.2.2.2.2.1, t13.2.2.2.2.2.2.2.2.2, (0 : Int)))
    else
      if (List.length ([] : List Int) + List.length xs11) * 1 ≤ maxN then
        (f177 k xs1 s3 s4 a7 a6 (IntKind.i64.wrap (a12 + (30 : Int))) ([] : List S211)).bind fun t14 => if (decide (t14 ≥ (0 : Int))) = true then
            if (0 : Int) ≤ t14 then
              if t14 < ((List.length xs1 : Nat) : Int) then
                (f192 k (List.getD xs1 (Int.toNat t14) (⟨ByteArray.empty, ByteArray.empty, (0 : Int), (0 : Int), (0 : Int), []⟩ : S104)).f5 (IntKind.i64.wrap ((8 : Int) * a8)) (!b9) (([] : List Int) ++ xs11)).bind fun t15 => if t15 = true then
                    ret (.inr (.inl (xs1, (0 : Int), ByteArray.empty, ByteArray.empty, (0 : Int), (0 : Int), (0 : Int), (0 : Int), false, false, (9 : Int))))
                  else
                    (f193 k (List.getD xs1 (Int.toNat t14) (⟨ByteArray.empty, ByteArray.empty, (0 : Int), (0 : Int), (0 : Int), []⟩ : S104)).f5 (IntKind.i64.wrap ((8 : Int) * a8)) (!b9) (([] : List Int) ++ xs11)).bind (Sum.elim (fun t16 => if (!t16.2) = true then
                        (f194 k xs1 t14).bind fun t17 => ret (.inr (.inl (t17, (0 : Int), ByteArray.empty, ByteArray.empty, (0 : Int), (0 : Int), (0 : Int), (0 : Int), false, false, (12 : Int))))
                      else
                        if (decide ((((List.length t16.1) : Nat) : Int) > (12 : Int))) = true then
                          (f194 k xs1 t14).bind fun t18 => ret (.inr (.inl (t18, (0 : Int), ByteArray.empty, ByteArray.empty, (0 : Int), (0 : Int), (0 : Int), (0 : Int), false, false, (6 : Int))))
                        else
                          (f178 k (List.getD xs1 (Int.toNat t14) (⟨ByteArray.empty, ByteArray.empty, (0 : Int), (0 : Int), (0 : Int), []⟩ : S104)).f0 (List.getD xs1 (Int.toNat t14) (⟨ByteArray.empty, ByteArray.empty, (0 : Int), (0 : Int), (0 : Int), []⟩ : S104)).f1 (List.getD xs1 (Int.toNat t14) (⟨ByteArray.empty, ByteArray.empty, (0 : Int), (0 : Int), (0 : Int), []⟩ : S104)).f2 (List.getD xs1 (Int.toNat t14) (⟨ByteArray.empty, ByteArray.empty, (0 : Int), (0 : Int), (0 : Int), []⟩ : S104)).f3 (List.getD xs1 (Int.toNat t14) (⟨ByteArray.empty, ByteArray.empty, (0 : Int), (0 : Int), (0 : Int), []⟩ : S104)).f4 t16.1).bind fun t19 => if t19 = true then
                              if (decide (t14 ≥ (0 : Int))) = true then
                                (f194 k xs1 t14).bind fun t20 => (f195 k t20 a2 s3 s4 a5 a6 a7 a8 b9 b10 xs11 (List.getD xs1 (Int.toNat t14) (⟨ByteArray.empty, ByteArray.empty, (0 : Int), (0 : Int), (0 : Int), []⟩ : S104)).f0 (List.getD xs1 (Int.toNat t14) (⟨ByteArray.empty, ByteArray.empty, (0 : Int), (0 : Int), (0 : Int), []⟩ : S104)).f1 (List.getD xs1 (Int.toNat t14) (⟨ByteArray.empty, ByteArray.empty, (0 : Int), (0 : Int), (0 : Int), []⟩ : S104)).f2 (List.getD xs1 (Int.toNat t14) (⟨ByteArray.empty, ByteArray.empty, (0 : Int), (0 : Int), (0 : Int), []⟩ : S104)).f3 (List.getD xs1 (Int.toNat t14) (⟨ByteArray.empty, ByteArray.empty, (0 : Int), (0 : Int), (0 : Int), []⟩ : S104)).f4 t16.1).bind (Sum.elim (fun t21 => ret (.inr (.inl (t21.1, t21.2.1, t21.2.2.1, t21.2.2.2.1, t21.2.2.2.2.1, t21.2.2.2.2.2.1, t21.2.2.2.2.2.2.1, t21.2.2.2.2.2.2.2.1, t21.2.2.2.2.2.2.2.2.1, t21.2.2.2.2.2.2.2.2.2.1, t21.2.2.2.2.2.2.2.2.2.2)))) (fun t22 => ret (.inl (t22.1, t22.2.1, t22.2.2.1, t22.2.2.2.1, t22.2.2.2.2.1, t22.2.2.2.2.2.1, t22.2.2.2.2.2.2.1, t22.2.2.2.2.2.2.2.1, t22.2.2.2.2.2.2.2.2.1, t22.2.2.2.2.2.2.2.2.2.1, t22.2.2.2.2.2.2.2.2.2.2.1, t22.2.2.2.2.2.2.2.2.2.2.2))))
                              else
                                (f195 k xs1 a2 s3 s4 a5 a6 a7 a8 b9 b10 xs11 (List.getD xs1 (Int.toNat t14) (⟨ByteArray.empty, ByteArray.empty, (0 : Int), (0 : Int), (0 : Int), []⟩ : S104)).f0 (List.getD xs1 (Int.toNat t14) (⟨ByteArray.empty, ByteArray.empty, (0 : Int), (0 : Int), (0 : Int), []⟩ : S104)).f1 (List.getD xs1 (Int.toNat t14) (⟨ByteArray.empty, ByteArray.empty, (0 : Int), (0 : Int), (0 : Int), []⟩ : S104)).f2 (List.getD xs1 (Int.toNat t14) (⟨ByteArray.empty, ByteArray.empty, (0 : Int), (0 : Int), (0 : Int), []⟩ : S104)).f3 (List.getD xs1 (Int.toNat t14) (⟨ByteArray.empty, ByteArray.empty, (0 : Int), (0 : Int), (0 : Int), []⟩ : S104)).f4 t16.1).bind (Sum.elim (fun t23 => ret (.inr (.inl (t23.1, t23.2.1, t23.2.2.1, t23.2.2.2.1, t23.2.2.2.2.1, t23.2.2.2.2.2.1, t23.2.2.2.2.2.2.1, t23.2.2.2.2.2.2.2.1, t23.2.2.2.2.2.2.2.2.1, t23.2.2.2.2.2.2.2.2.2.1, t23.2.2.2.2.2.2.2.2.2.2)))) (fun t24 => ret (.inl (t24.1, t24.2.1, t24.2.2.1, t24.2.2.2.1, t24.2.2.2.2.1, t24.2.2.2.2.2.1, t24.2.2.2.2.2.2.1, t24.2.2.2.2.2.2.2.1, t24.2.2.2.2.2.2.2.2.1, t24.2.2.2.2.2.2.2.2.2.1, t24.2.2.2.2.2.2.2.2.2.2.1, t24.2.2.2.2.2.2.2.2.2.2.2))))
                            else
                              if (decide (t14 ≥ (0 : Int))) = true then
                                if (List.length ([] : List S104) + List.length xs1) * 80 ≤ maxN then
                                  if (0 : Int) ≤ t14 then
                                    if t14 < ((List.length (([] : List S104) ++ xs1) : Nat) : Int) then
                                      ret (.inr (.inr ((List.set (([] : List S104) ++ xs1) (Int.toNat t14) (⟨(List.getD xs1 (Int.toNat t14) (⟨ByteArray.empty, ByteArray.empty, (0 : Int), (0 : Int), (0 : Int), []⟩ : S104)).f0, (List.getD xs1 (Int.toNat t14) (⟨ByteArray.empty, ByteArray.empty, (0 : Int), (0 : Int), (0 : Int), []⟩ : S104)).f1, (List.getD xs1 (Int.toNat t14) (⟨ByteArray.empty, ByteArray.empty, (0 : Int), (0 : Int), (0 : Int), []⟩ : S104)).f2, (List.getD xs1 (Int.toNat t14) (⟨ByteArray.empty, ByteArray.empty, (0 : Int), (0 : Int), (0 : Int), []⟩ : S104)).f3, (List.getD xs1 (Int.toNat t14) (⟨ByteArray.empty, ByteArray.empty, (0 : Int), (0 : Int), (0 : Int), []⟩ : S104)).f4, t16.1⟩ : S104)), (0 : Int), ByteArray.empty, ByteArray.empty, (0 : Int), (0 : Int), (0 : Int), (0 : Int), false, false, (15 : Int))))
                                    else none
                                  else none
                                else none
                              else
                                if (List.length ([] : List S104) + List.length xs1) * 80 ≤ maxN then
                                  if (List.length (([] : List S104) ++ xs1) + List.length ([(⟨(List.getD xs1 (Int.toNat t14) (⟨ByteArray.empty, ByteArray.empty, (0 : Int), (0 : Int), (0 : Int), []⟩ : S104)).f0, (List.getD xs1 (Int.toNat t14) (⟨ByteArray.empty, ByteArray.empty, (0 : Int), (0 : Int), (0 : Int), []⟩ : S104)).f1, (List.getD xs1 (Int.toNat t14) (⟨ByteArray.empty, ByteArray.empty, (0 : Int), (0 : Int), (0 : Int), []⟩ : S104)).f2, (List.getD xs1 (Int.toNat t14) (⟨ByteArray.empty, ByteArray.empty, (0 : Int), (0 : Int), (0 : Int), []⟩ : S104)).f3, (List.getD xs1 (Int.toNat t14) (⟨ByteArray.empty, ByteArray.empty, (0 : Int), (0 : Int), (0 : Int), []⟩ : S104)).f4, t16.1⟩ : S104)] : List S104)) * 80 ≤ maxN then
                                    ret (.inr (.inr (((([] : List S104) ++ xs1) ++ ([(⟨(List.getD xs1 (Int.toNat t14) (⟨ByteArray.empty, ByteArray.empty, (0 : Int), (0 : Int), (0 : Int), []⟩ : S104)).f0, (List.getD xs1 (Int.toNat t14) (⟨ByteArray.empty, ByteArray.empty, (0 : Int), (0 : Int), (0 : Int), []⟩ : S104)).f1, (List.getD xs1 (Int.toNat t14) (⟨ByteArray.empty, ByteArray.empty, (0 : Int), (0 : Int), (0 : Int), []⟩ : S104)).f2, (List.getD xs1 (Int.toNat t14) (⟨ByteArray.empty, ByteArray.empty, (0 : Int), (0 : Int), (0 : Int), []⟩ : S104)).f3, (List.getD xs1 (Int.toNat t14) (⟨ByteArray.empty, ByteArray.empty, (0 : Int), (0 : Int), (0 : Int), []⟩ : S104)).f4, t16.1⟩ : S104)] : List S104)), (0 : Int), ByteArray.empty, ByteArray.empty, (0 : Int), (0 : Int), (0 : Int), (0 : Int), false, false, (15 : Int))))
                                  else none
                                else none) (fun t25 => if (!t25.2) = true then
                        (f194 k xs1 t14).bind fun t26 => ret (.inr (.inl (t26, (0 : Int), ByteArray.empty, ByteArray.empty, (0 : Int), (0 : Int), (0 : Int), (0 : Int), false, false, (12 : Int))))
                      else
                        if (decide ((((List.length t25.1) : Nat) : Int) > (12 : Int))) = true then
                          (f194 k xs1 t14).bind fun t27 => ret (.inr (.inl (t27, (0 : Int), ByteArray.empty, ByteArray.empty, (0 : Int), (0 : Int), (0 : Int), (0 : Int), false, false, (6 : Int))))
                        else
                          (f178 k (List.getD xs1 (Int.toNat t14) (⟨ByteArray.empty, ByteArray.empty, (0 : Int), (0 : Int), (0 : Int), []⟩ : S104)).f0 (List.getD xs1 (Int.toNat t14) (⟨ByteArray.empty, ByteArray.empty, (0 : Int), (0 : Int), (0 : Int), []⟩ : S104)).f1 (List.getD xs1 (Int.toNat t14) (⟨ByteArray.empty, ByteArray.empty, (0 : Int), (0 : Int), (0 : Int), []⟩ : S104)).f2 (List.getD xs1 (Int.toNat t14) (⟨ByteArray.empty, ByteArray.empty, (0 : Int), (0 : Int), (0 : Int), []⟩ : S104)).f3 (List.getD xs1 (Int.toNat t14) (⟨ByteArray.empty, ByteArray.empty, (0 : Int), (0 : Int), (0 : Int), []⟩ : S104)).f4 t25.1).bind fun t28 => if t28 = true then
                              if (decide (t14 ≥ (0 : Int))) = true then
                                (f194 k xs1 t14).bind fun t29 => (f195 k t29 a2 s3 s4 a5 a6 a7 a8 b9 b10 xs11 (List.getD xs1 (Int.toNat t14) (⟨ByteArray.empty, ByteArray.empty, (0 : Int), (0 : Int), (0 : Int), []⟩ : S104)).f0 (List.getD xs1 (Int.toNat t14) (⟨ByteArray.empty, ByteArray.empty, (0 : Int), (0 : Int), (0 : Int), []⟩ : S104)).f1 (List.getD xs1 (Int.toNat t14) (⟨ByteArray.empty, ByteArray.empty, (0 : Int), (0 : Int), (0 : Int), []⟩ : S104)).f2 (List.getD xs1 (Int.toNat t14) (⟨ByteArray.empty, ByteArray.empty, (0 : Int), (0 : Int), (0 : Int), []⟩ : S104)).f3 (List.getD xs1 (Int.toNat t14) (⟨ByteArray.empty, ByteArray.empty, (0 : Int), (0 : Int), (0 : Int), []⟩ : S104)).f4 t25.1).bind (Sum.elim (fun t30 => ret (.inr (.inl (t30.1, t30.2.1, t30.2.2.1, t30.2.2.2.1, t30.2.2.2.2.1, t30.2.2.2.2.2.1, t30.2.2.2.2.2.2.1, t30.2.2.2.2.2.2.2.1, t30.2.2.2.2.2.2.2.2.1, t30.2.2.2.2.2.2.2.2.2.1, t30.2.2.2.2.2.2.2.2.2.2)))) (fun t31 => ret (.inl (t31.1, t31.2.1, t31.2.2.1, t31.2.2.2.1, t31.2.2.2.2.1, t31.2.2.2.2.2.1, t31.2.2.2.2.2.2.1, t31.2.2.2.2.2.2.2.1, t31.2.2.2.2.2.2.2.2.1, t31.2.2.2.2.2.2.2.2.2.1, t31.2.2.2.2.2.2.2.2.2.2.1, t31.2.2.2.2.2.2.2.2.2.2.2))))
                              else
                                (f195 k xs1 a2 s3 s4 a5 a6 a7 a8 b9 b10 xs11 (List.getD xs1 (Int.toNat t14) (⟨ByteArray.empty, ByteArray.empty, (0 : Int), (0 : Int), (0 : Int), []⟩ : S104)).f0 (List.getD xs1 (Int.toNat t14) (⟨ByteArray.empty, ByteArray.empty, (0 : Int), (0 : Int), (0 : Int), []⟩ : S104)).f1 (List.getD xs1 (Int.toNat t14) (⟨ByteArray.empty, ByteArray.empty, (0 : Int), (0 : Int), (0 : Int), []⟩ : S104)).f2 (List.getD xs1 (Int.toNat t14) (⟨ByteArray.empty, ByteArray.empty, (0 : Int), (0 : Int), (0 : Int), []⟩ : S104)).f3 (List.getD xs1 (Int.toNat t14) (⟨ByteArray.empty, ByteArray.empty, (0 : Int), (0 : Int), (0 : Int), []⟩ : S104)).f4 t25.1).bind (Sum.elim (fun t32 => ret (.inr (.inl (t32.1, t32.2.1, t32.2.2.1, t32.2.2.2.1, t32.2.2.2.2.1, t32.2.2.2.2.2.1, t32.2.2.2.2.2.2.1, t32.2.2.2.2.2.2.2.1, t32.2.2.2.2.2.2.2.2.1, t32.2.2.2.2.2.2.2.2.2.1, t32.2.2.2.2.2.2.2.2.2.2)))) (fun t33 => ret (.inl (t33.1, t33.2.1, t33.2.2.1, t33.2.2.2.1, t33.2.2.2.2.1, t33.2.2.2.2.2.1, t33.2.2.2.2.2.2.1, t33.2.2.2.2.2.2.2.1, t33.2.2.2.2.2.2.2.2.1, t33.2.2.2.2.2.2.2.2.2.1, t33.2.2.2.2.2.2.2.2.2.2.1, t33.2.2.2.2.2.2.2.2.2.2.2))))
                            else
                              if (decide (t14 ≥ (0 : Int))) = true then
                                if (List.length ([] : List S104) + List.length xs1) * 80 ≤ maxN then
                                  if (0 : Int) ≤ t14 then
                                    if t14 < ((List.length (([] : List S104) ++ xs1) : Nat) : Int) then
                                      ret (.inr (.inr ((List.set (([] : List S104) ++ xs1) (Int.toNat t14) (⟨(List.getD xs1 (Int.toNat t14) (⟨ByteArray.empty, ByteArray.empty, (0 : Int), (0 : Int), (0 : Int), []⟩ : S104)).f0, (List.getD xs1 (Int.toNat t14) (⟨ByteArray.empty, ByteArray.empty, (0 : Int), (0 : Int), (0 : Int), []⟩ : S104)).f1, (List.getD xs1 (Int.toNat t14) (⟨ByteArray.empty, ByteArray.empty, (0 : Int), (0 : Int), (0 : Int), []⟩ : S104)).f2, (List.getD xs1 (Int.toNat t14) (⟨ByteArray.empty, ByteArray.empty, (0 : Int), (0 : Int), (0 : Int), []⟩ : S104)).f3, (List.getD xs1 (Int.toNat t14) (⟨ByteArray.empty, ByteArray.empty, (0 : Int), (0 : Int), (0 : Int), []⟩ : S104)).f4, t25.1⟩ : S104)), (0 : Int), ByteArray.empty, ByteArray.empty, (0 : Int), (0 : Int), (0 : Int), (0 : Int), false, false, (15 : Int))))
                                    else none
                                  else none
                                else none
                              else
                                if (List.length ([] : List S104) + List.length xs1) * 80 ≤ maxN then
                                  if (List.length (([] : List S104) ++ xs1) + List.length ([(⟨(List.getD xs1 (Int.toNat t14) (⟨ByteArray.empty, ByteArray.empty, (0 : Int), (0 : Int), (0 : Int), []⟩ : S104)).f0, (List.getD xs1 (Int.toNat t14) (⟨ByteArray.empty, ByteArray.empty, (0 : Int), (0 : Int), (0 : Int), []⟩ : S104)).f1, (List.getD xs1 (Int.toNat t14) (⟨ByteArray.empty, ByteArray.empty, (0 : Int), (0 : Int), (0 : Int), []⟩ : S104)).f2, (List.getD xs1 (Int.toNat t14) (⟨ByteArray.empty, ByteArray.empty, (0 : Int), (0 : Int), (0 : Int), []⟩ : S104)).f3, (List.getD xs1 (Int.toNat t14) (⟨ByteArray.empty, ByteArray.empty, (0 : Int), (0 : Int), (0 : Int), []⟩ : S104)).f4, t25.1⟩ : S104)] : List S104)) * 80 ≤ maxN then
                                    ret (.inr (.inr (((([] : List S104) ++ xs1) ++ ([(⟨(List.getD xs1 (Int.toNat t14) (⟨ByteArray.empty, ByteArray.empty, (0 : Int), (0 : Int), (0 : Int), []⟩ : S104)).f0, (List.getD xs1 (Int.toNat t14) (⟨ByteArray.empty, ByteArray.empty, (0 : Int), (0 : Int), (0 : Int), []⟩ : S104)).f1, (List.getD xs1 (Int.toNat t14) (⟨ByteArray.empty, ByteArray.empty, (0 : Int), (0 : Int), (0 : Int), []⟩ : S104)).f2, (List.getD xs1 (Int.toNat t14) (⟨ByteArray.empty, ByteArray.empty, (0 : Int), (0 : Int), (0 : Int), []⟩ : S104)).f3, (List.getD xs1 (Int.toNat t14) (⟨ByteArray.empty, ByteArray.empty, (0 : Int), (0 : Int), (0 : Int), []⟩ : S104)).f4, t25.1⟩ : S104)] : List S104)), (0 : Int), ByteArray.empty, ByteArray.empty, (0 : Int), (0 : Int), (0 : Int), (0 : Int), false, false, (15 : Int))))
                                  else none
                                else none))
              else none
            else none
          else
            if (decide ((((List.length xs1) : Nat) : Int) = (6 : Int))) = true then
              ret (.inr (.inl (xs1, (0 : Int), ByteArray.empty, ByteArray.empty, (0 : Int), (0 : Int), (0 : Int), (0 : Int), false, false, (7 : Int))))
            else
              (f193 k ([] : List S211) (IntKind.i64.wrap ((8 : Int) * a8)) (!b9) (([] : List Int) ++ xs11)).bind (Sum.elim (fun t34 => if (!t34.2) = true then
                  (f194 k xs1 t14).bind fun t35 => ret (.inr (.inl (t35, (0 : Int), ByteArray.empty, ByteArray.empty, (0 : Int), (0 : Int), (0 : Int), (0 : Int), false, false, (12 : Int))))
                else
                  if (decide ((((List.length t34.1) : Nat) : Int) > (12 : Int))) = true then
                    (f194 k xs1 t14).bind fun t36 => ret (.inr (.inl (t36, (0 : Int), ByteArray.empty, ByteArray.empty, (0 : Int), (0 : Int), (0 : Int), (0 : Int), false, false, (6 : Int))))
                  else
                    (f178 k s3 s4 a7 a6 (IntKind.i64.wrap (a12 + (30 : Int))) t34.1).bind fun t37 => if t37 = true then
                        if (decide (t14 ≥ (0 : Int))) = true then
                          (f194 k xs1 t14).bind fun t38 => (f195 k t38 a2 s3 s4 a5 a6 a7 a8 b9 b10 xs11 s3 s4 a7 a6 (IntKind.i64.wrap (a12 + (30 : Int))) t34.1).bind (Sum.elim (fun t39 => ret (.inr (.inl (t39.1, t39.2.1, t39.2.2.1, t39.2.2.2.1, t39.2.2.2.2.1, t39.2.2.2.2.2.1, t39.2.2.2.2.2.2.1, t39.2.2.2.2.2.2.2.1, t39.2.2.2.2.2.2.2.2.1, t39.2.2.2.2.2.2.2.2.2.1, t39.2.2.2.2.2.2.2.2.2.2)))) (fun t40 => ret (.inl (t40.1, t40.2.1, t40.2.2.1, t40.2.2.2.1, t40.2.2.2.2.1, t40.2.2.2.2.2.1, t40.2.2.2.2.2.2.1, t40.2.2.2.2.2.2.2.1, t40.2.2.2.2.2.2.2.2.1, t40.2.2.2.2.2.2.2.2.2.1, t40.2.2.2.2.2.2.2.2.2.2.1, t40.2.2.2.2.2.2.2.2.2.2.2))))
                        else
                          (f195 k xs1 a2 s3 s4 a5 a6 a7 a8 b9 b10 xs11 s3 s4 a7 a6 (IntKind.i64.wrap (a12 + (30 : Int))) t34.1).bind (Sum.elim (fun t41 => ret (.inr (.inl (t41.1, t41.2.1, t41.2.2.1, t41.2.2.2.1, t41.2.2.2.2.1, t41.2.2.2.2.2.1, t41.2.2.2.2.2.2.1, t41.2.2.2.2.2.2.2.1, t41.2.2.2.2.2.2.2.2.1, t41.2.2.2.2.2.2.2.2.2.1, t41.2.2.2.2.2.2.2.2.2.2)))) (fun t42 => ret (.inl (t42.1, t42.2.1, t42.2.2.1, t42.2.2.2.1, t42.2.2.2.2.1, t42.2.2.2.2.2.1, t42.2.2.2.2.2.2.1, t42.2.2.2.2.2.2.2.1, t42.2.2.2.2.2.2.2.2.1, t42.2.2.2.2.2.2.2.2.2.1, t42.2.2.2.2.2.2.2.2.2.2.1, t42.2.2.2.2.2.2.2.2.2.2.2))))
                      else
                        if (decide (t14 ≥ (0 : Int))) = true then
                          if (List.length ([] : List S104) + List.length xs1) * 80 ≤ maxN then
                            if (0 : Int) ≤ t14 then
                              if t14 < ((List.length (([] : List S104) ++ xs1) : Nat) : Int) then
                                ret (.inr (.inr ((List.set (([] : List S104) ++ xs1) (Int.toNat t14) (⟨s3, s4, a7, a6, (IntKind.i64.wrap (a12 + (30 : Int))), t34.1⟩ : S104)), (0 : Int), ByteArray.empty, ByteArray.empty, (0 : Int), (0 : Int), (0 : Int), (0 : Int), false, false, (15 : Int))))
                              else none
                            else none
                          else none
                        else
                          if (List.length ([] : List S104) + List.length xs1) * 80 ≤ maxN then
                            if (List.length (([] : List S104) ++ xs1) + List.length ([(⟨s3, s4, a7, a6, (IntKind.i64.wrap (a12 + (30 : Int))), t34.1⟩ : S104)] : List S104)) * 80 ≤ maxN then
                              ret (.inr (.inr (((([] : List S104) ++ xs1) ++ ([(⟨s3, s4, a7, a6, (IntKind.i64.wrap (a12 + (30 : Int))), t34.1⟩ : S104)] : List S104)), (0 : Int), ByteArray.empty, ByteArray.empty, (0 : Int), (0 : Int), (0 : Int), (0 : Int), false, false, (15 : Int))))
                            else none
                          else none) (fun t43 => if (!t43.2) = true then
                  (f194 k xs1 t14).bind fun t44 => ret (.inr (.inl (t44, (0 : Int), ByteArray.empty, ByteArray.empty, (0 : Int), (0 : Int), (0 : Int), (0 : Int), false, false, (12 : Int))))
                else
                  if (decide ((((List.length t43.1) : Nat) : Int) > (12 : Int))) = true then
                    (f194 k xs1 t14).bind fun t45 => ret (.inr (.inl (t45, (0 : Int), ByteArray.empty, ByteArray.empty, (0 : Int), (0 : Int), (0 : Int), (0 : Int), false, false, (6 : Int))))
                  else
                    (f178 k s3 s4 a7 a6 (IntKind.i64.wrap (a12 + (30 : Int))) t43.1).bind fun t46 => if t46 = true then
                        if (decide (t14 ≥ (0 : Int))) = true then
                          (f194 k xs1 t14).bind fun t47 => (f195 k t47 a2 s3 s4 a5 a6 a7 a8 b9 b10 xs11 s3 s4 a7 a6 (IntKind.i64.wrap (a12 + (30 : Int))) t43.1).bind (Sum.elim (fun t48 => ret (.inr (.inl (t48.1, t48.2.1, t48.2.2.1, t48.2.2.2.1, t48.2.2.2.2.1, t48.2.2.2.2.2.1, t48.2.2.2.2.2.2.1, t48.2.2.2.2.2.2.2.1, t48.2.2.2.2.2.2.2.2.1, t48.2.2.2.2.2.2.2.2.2.1, t48.2.2.2.2.2.2.2.2.2.2)))) (fun t49 => ret (.inl (t49.1, t49.2.1, t49.2.2.1, t49.2.2.2.1, t49.2.2.2.2.1, t49.2.2.2.2.2.1, t49.2.2.2.2.2.2.1, t49.2.2.2.2.2.2.2.1, t49.2.2.2.2.2.2.2.2.1, t49.2.2.2.2.2.2.2.2.2.1, t49.2.2.2.2.2.2.2.2.2.2.1, t49.2.2.2.2.2.2.2.2.2.2.2))))
                        else
                          (f195 k xs1 a2 s3 s4 a5 a6 a7 a8 b9 b10 xs11 s3 s4 a7 a6 (IntKind.i64.wrap (a12 + (30 : Int))) t43.1).bind (Sum.elim (fun t50 => ret (.inr (.inl (t50.1, t50.2.1, t50.2.2.1, t50.2.2.2.1, t50.2.2.2.2.1, t50.2.2.2.2.2.1, t50.2.2.2.2.2.2.1, t50.2.2.2.2.2.2.2.1, t50.2.2.2.2.2.2.2.2.1, t50.2.2.2.2.2.2.2.2.2.1, t50.2.2.2.2.2.2.2.2.2.2)))) (fun t51 => ret (.inl (t51.1, t51.2.1, t51.2.2.1, t51.2.2.2.1, t51.2.2.2.2.1, t51.2.2.2.2.2.1, t51.2.2.2.2.2.2.1, t51.2.2.2.2.2.2.2.1, t51.2.2.2.2.2.2.2.2.1, t51.2.2.2.2.2.2.2.2.2.1, t51.2.2.2.2.2.2.2.2.2.2.1, t51.2.2.2.2.2.2.2.2.2.2.2))))
                      else
                        if (decide (t14 ≥ (0 : Int))) = true then
                          if (List.length ([] : List S104) + List.length xs1) * 80 ≤ maxN then
                            if (0 : Int) ≤ t14 then
                              if t14 < ((List.length (([] : List S104) ++ xs1) : Nat) : Int) then
                                ret (.inr (.inr ((List.set (([] : List S104) ++ xs1) (Int.toNat t14) (⟨s3, s4, a7, a6, (IntKind.i64.wrap (a12 + (30 : Int))), t43.1⟩ : S104)), (0 : Int), ByteArray.empty, ByteArray.empty, (0 : Int), (0 : Int), (0 : Int), (0 : Int), false, false, (15 : Int))))
                              else none
                            else none
                          else none
                        else
                          if (List.length ([] : List S104) + List.length xs1) * 80 ≤ maxN then
                            if (List.length (([] : List S104) ++ xs1) + List.length ([(⟨s3, s4, a7, a6, (IntKind.i64.wrap (a12 + (30 : Int))), t43.1⟩ : S104)] : List S104)) * 80 ≤ maxN then
                              ret (.inr (.inr (((([] : List S104) ++ xs1) ++ ([(⟨s3, s4, a7, a6, (IntKind.i64.wrap (a12 + (30 : Int))), t43.1⟩ : S104)] : List S104)), (0 : Int), ByteArray.empty, ByteArray.empty, (0 : Int), (0 : Int), (0 : Int), (0 : Int), false, false, (15 : Int))))
                            else none
                          else none))
      else none
  else
    if (List.length ([] : List Int) + List.length xs11) * 1 ≤ maxN then
      (f177 k xs1 s3 s4 a7 a6 (IntKind.i64.wrap (a12 + (30 : Int))) ([] : List S211)).bind fun t52 => if (decide (t52 ≥ (0 : Int))) = true then
          if (0 : Int) ≤ t52 then
            if t52 < ((List.length xs1 : Nat) : Int) then
              (f192 k (List.getD xs1 (Int.toNat t52) (⟨ByteArray.empty, ByteArray.empty, (0 : Int), (0 : Int), (0 : Int), []⟩ : S104)).f5 (IntKind.i64.wrap ((8 : Int) * a8)) (!b9) (([] : List Int) ++ xs11)).bind fun t53 => if t53 = true then
                  ret (.inr (.inl (xs1, (0 : Int), ByteArray.empty, ByteArray.empty, (0 : Int), (0 : Int), (0 : Int), (0 : Int), false, false, (9 : Int))))
                else
                  (f193 k (List.getD xs1 (Int.toNat t52) (⟨ByteArray.empty, ByteArray.empty, (0 : Int), (0 : Int), (0 : Int), []⟩ : S104)).f5 (IntKind.i64.wrap ((8 : Int) * a8)) (!b9) (([] : List Int) ++ xs11)).bind (Sum.elim (fun t54 => if (!t54.2) = true then
                      (f194 k xs1 t52).bind fun t55 => ret (.inr (.inl (t55, (0 : Int), ByteArray.empty, ByteArray.empty, (0 : Int), (0 : Int), (0 : Int), (0 : Int), false, false, (12 : Int))))
                    else
                      if (decide ((((List.length t54.1) : Nat) : Int) > (12 : Int))) = true then
                        (f194 k xs1 t52).bind fun t56 => ret (.inr (.inl (t56, (0 : Int), ByteArray.empty, ByteArray.empty, (0 : Int), (0 : Int), (0 : Int), (0 : Int), false, false, (6 : Int))))
                      else
                        (f178 k (List.getD xs1 (Int.toNat t52) (⟨ByteArray.empty, ByteArray.empty, (0 : Int), (0 : Int), (0 : Int), []⟩ : S104)).f0 (List.getD xs1 (Int.toNat t52) (⟨ByteArray.empty, ByteArray.empty, (0 : Int), (0 : Int), (0 : Int), []⟩ : S104)).f1 (List.getD xs1 (Int.toNat t52) (⟨ByteArray.empty, ByteArray.empty, (0 : Int), (0 : Int), (0 : Int), []⟩ : S104)).f2 (List.getD xs1 (Int.toNat t52) (⟨ByteArray.empty, ByteArray.empty, (0 : Int), (0 : Int), (0 : Int), []⟩ : S104)).f3 (List.getD xs1 (Int.toNat t52) (⟨ByteArray.empty, ByteArray.empty, (0 : Int), (0 : Int), (0 : Int), []⟩ : S104)).f4 t54.1).bind fun t57 => if t57 = true then
                            if (decide (t52 ≥ (0 : Int))) = true then
                              (f194 k xs1 t52).bind fun t58 => (f195 k t58 a2 s3 s4 a5 a6 a7 a8 b9 b10 xs11 (List.getD xs1 (Int.toNat t52) (⟨ByteArray.empty, ByteArray.empty, (0 : Int), (0 : Int), (0 : Int), []⟩ : S104)).f0 (List.getD xs1 (Int.toNat t52) (⟨ByteArray.empty, ByteArray.empty, (0 : Int), (0 : Int), (0 : Int), []⟩ : S104)).f1 (List.getD xs1 (Int.toNat t52) (⟨ByteArray.empty, ByteArray.empty, (0 : Int), (0 : Int), (0 : Int), []⟩ : S104)).f2 (List.getD xs1 (Int.toNat t52) (⟨ByteArray.empty, ByteArray.empty, (0 : Int), (0 : Int), (0 : Int), []⟩ : S104)).f3 (List.getD xs1 (Int.toNat t52) (⟨ByteArray.empty, ByteArray.empty, (0 : Int), (0 : Int), (0 : Int), []⟩ : S104)).f4 t54.1).bind (Sum.elim (fun t59 => ret (.inr (.inl (t59.1, t59.2.1, t59.2.2.1, t59.2.2.2.1, t59.2.2.2.2.1, t59.2.2.2.2.2.1, t59.2.2.2.2.2.2.1, t59.2.2.2.2.2.2.2.1, t59.2.2.2.2.2.2.2.2.1, t59.2.2.2.2.2.2.2.2.2.1, t59.2.2.2.2.2.2.2.2.2.2)))) (fun t60 => ret (.inl (t60.1, t60.2.1, t60.2.2.1, t60.2.2.2.1, t60.2.2.2.2.1, t60.2.2.2.2.2.1, t60.2.2.2.2.2.2.1, t60.2.2.2.2.2.2.2.1, t60.2.2.2.2.2.2.2.2.1, t60.2.2.2.2.2.2.2.2.2.1, t60.2.2.2.2.2.2.2.2.2.2.1, t60.2.2.2.2.2.2.2.2.2.2.2))))
                            else
                              (f195 k xs1 a2 s3 s4 a5 a6 a7 a8 b9 b10 xs11 (List.getD xs1 (Int.toNat t52) (⟨ByteArray.empty, ByteArray.empty, (0 : Int), (0 : Int), (0 : Int), []⟩ : S104)).f0 (List.getD xs1 (Int.toNat t52) (⟨ByteArray.empty, ByteArray.empty, (0 : Int), (0 : Int), (0 : Int), []⟩ : S104)).f1 (List.getD xs1 (Int.toNat t52) (⟨ByteArray.empty, ByteArray.empty, (0 : Int), (0 : Int), (0 : Int), []⟩ : S104)).f2 (List.getD xs1 (Int.toNat t52) (⟨ByteArray.empty, ByteArray.empty, (0 : Int), (0 : Int), (0 : Int), []⟩ : S104)).f3 (List.getD xs1 (Int.toNat t52) (⟨ByteArray.empty, ByteArray.empty, (0 : Int), (0 : Int), (0 : Int), []⟩ : S104)).f4 t54.1).bind (Sum.elim (fun t61 => ret (.inr (.inl (t61.1, t61.2.1, t61.2.2.1, t61.2.2.2.1, t61.2.2.2.2.1, t61.2.2.2.2.2.1, t61.2.2.2.2.2.2.1, t61.2.2.2.2.2.2.2.1, t61.2.2.2.2.2.2.2.2.1, t61.2.2.2.2.2.2.2.2.2.1, t61.2.2.2.2.2.2.2.2.2.2)))) (fun t62 => ret (.inl (t62.1, t62.2.1, t62.2.2.1, t62.2.2.2.1, t62.2.2.2.2.1, t62.2.2.2.2.2.1, t62.2.2.2.2.2.2.1, t62.2.2.2.2.2.2.2.1, t62.2.2.2.2.2.2.2.2.1, t62.2.2.2.2.2.2.2.2.2.1, t62.2.2.2.2.2.2.2.2.2.2.1, t62.2.2.2.2.2.2.2.2.2.2.2))))
                          else
                            if (decide (t52 ≥ (0 : Int))) = true then
                              if (List.length ([] : List S104) + List.length xs1) * 80 ≤ maxN then
                                if (0 : Int) ≤ t52 then
                                  if t52 < ((List.length (([] : List S104) ++ xs1) : Nat) : Int) then
                                    ret (.inr (.inr ((List.set (([] : List S104) ++ xs1) (Int.toNat t52) (⟨(List.getD xs1 (Int.toNat t52) (⟨ByteArray.empty, ByteArray.empty, (0 : Int), (0 : Int), (0 : Int), []⟩ : S104)).f0, (List.getD xs1 (Int.toNat t52) (⟨ByteArray.empty, ByteArray.empty, (0 : Int), (0 : Int), (0 : Int), []⟩ : S104)).f1, (List.getD xs1 (Int.toNat t52) (⟨ByteArray.empty, ByteArray.empty, (0 : Int), (0 : Int), (0 : Int), []⟩ : S104)).f2, (List.getD xs1 (Int.toNat t52) (⟨ByteArray.empty, ByteArray.empty, (0 : Int), (0 : Int), (0 : Int), []⟩ : S104)).f3, (List.getD xs1 (Int.toNat t52) (⟨ByteArray.empty, ByteArray.empty, (0 : Int), (0 : Int), (0 : Int), []⟩ : S104)).f4, t54.1⟩ : S104)), (0 : Int), ByteArray.empty, ByteArray.empty, (0 : Int), (0 : Int), (0 : Int), (0 : Int), false, false, (15 : Int))))
                                  else none
                                else none
                              else none
                            else
                              if (List.length ([] : List S104) + List.length xs1) * 80 ≤ maxN then
                                if (List.length (([] : List S104) ++ xs1) + List.length ([(⟨(List.getD xs1 (Int.toNat t52) (⟨ByteArray.empty, ByteArray.empty, (0 : Int), (0 : Int), (0 : Int), []⟩ : S104)).f0, (List.getD xs1 (Int.toNat t52) (⟨ByteArray.empty, ByteArray.empty, (0 : Int), (0 : Int), (0 : Int), []⟩ : S104)).f1, (List.getD xs1 (Int.toNat t52) (⟨ByteArray.empty, ByteArray.empty, (0 : Int), (0 : Int), (0 : Int), []⟩ : S104)).f2, (List.getD xs1 (Int.toNat t52) (⟨ByteArray.empty, ByteArray.empty, (0 : Int), (0 : Int), (0 : Int), []⟩ : S104)).f3, (List.getD xs1 (Int.toNat t52) (⟨ByteArray.empty, ByteArray.empty, (0 : Int), (0 : Int), (0 : Int), []⟩ : S104)).f4, t54.1⟩ : S104)] : List S104)) * 80 ≤ maxN then
                                  ret (.inr (.inr (((([] : List S104) ++ xs1) ++ ([(⟨(List.getD xs1 (Int.toNat t52) (⟨ByteArray.empty, ByteArray.empty, (0 : Int), (0 : Int), (0 : Int), []⟩ : S104)).f0, (List.getD xs1 (Int.toNat t52) (⟨ByteArray.empty, ByteArray.empty, (0 : Int), (0 : Int), (0 : Int), []⟩ : S104)).f1, (List.getD xs1 (Int.toNat t52) (⟨ByteArray.empty, ByteArray.empty, (0 : Int), (0 : Int), (0 : Int), []⟩ : S104)).f2, (List.getD xs1 (Int.toNat t52) (⟨ByteArray.empty, ByteArray.empty, (0 : Int), (0 : Int), (0 : Int), []⟩ : S104)).f3, (List.getD xs1 (Int.toNat t52) (⟨ByteArray.empty, ByteArray.empty, (0 : Int), (0 : Int), (0 : Int), []⟩ : S104)).f4, t54.1⟩ : S104)] : List S104)), (0 : Int), ByteArray.empty, ByteArray.empty, (0 : Int), (0 : Int), (0 : Int), (0 : Int), false, false, (15 : Int))))
                                else none
                              else none) (fun t63 => if (!t63.2) = true then
                      (f194 k xs1 t52).bind fun t64 => ret (.inr (.inl (t64, (0 : Int), ByteArray.empty, ByteArray.empty, (0 : Int), (0 : Int), (0 : Int), (0 : Int), false, false, (12 : Int))))
                    else
                      if (decide ((((List.length t63.1) : Nat) : Int) > (12 : Int))) = true then
                        (f194 k xs1 t52).bind fun t65 => ret (.inr (.inl (t65, (0 : Int), ByteArray.empty, ByteArray.empty, (0 : Int), (0 : Int), (0 : Int), (0 : Int), false, false, (6 : Int))))
                      else
                        (f178 k (List.getD xs1 (Int.toNat t52) (⟨ByteArray.empty, ByteArray.empty, (0 : Int), (0 : Int), (0 : Int), []⟩ : S104)).f0 (List.getD xs1 (Int.toNat t52) (⟨ByteArray.empty, ByteArray.empty, (0 : Int), (0 : Int), (0 : Int), []⟩ : S104)).f1 (List.getD xs1 (Int.toNat t52) (⟨ByteArray.empty, ByteArray.empty, (0 : Int), (0 : Int), (0 : Int), []⟩ : S104)).f2 (List.getD xs1 (Int.toNat t52) (⟨ByteArray.empty, ByteArray.empty, (0 : Int), (0 : Int), (0 : Int), []⟩ : S104)).f3 (List.getD xs1 (Int.toNat t52) (⟨ByteArray.empty, ByteArray.empty, (0 : Int), (0 : Int), (0 : Int), []⟩ : S104)).f4 t63.1).bind fun t66 => if t66 = true then
                            if (decide (t52 ≥ (0 : Int))) = true then
                              (f194 k xs1 t52).bind fun t67 => (f195 k t67 a2 s3 s4 a5 a6 a7 a8 b9 b10 xs11 (List.getD xs1 (Int.toNat t52) (⟨ByteArray.empty, ByteArray.empty, (0 : Int), (0 : Int), (0 : Int), []⟩ : S104)).f0 (List.getD xs1 (Int.toNat t52) (⟨ByteArray.empty, ByteArray.empty, (0 : Int), (0 : Int), (0 : Int), []⟩ : S104)).f1 (List.getD xs1 (Int.toNat t52) (⟨ByteArray.empty, ByteArray.empty, (0 : Int), (0 : Int), (0 : Int), []⟩ : S104)).f2 (List.getD xs1 (Int.toNat t52) (⟨ByteArray.empty, ByteArray.empty, (0 : Int), (0 : Int), (0 : Int), []⟩ : S104)).f3 (List.getD xs1 (Int.toNat t52) (⟨ByteArray.empty, ByteArray.empty, (0 : Int), (0 : Int), (0 : Int), []⟩ : S104)).f4 t63.1).bind (Sum.elim (fun t68 => ret (.inr (.inl (t68.1, t68.2.1, t68.2.2.1, t68.2.2.2.1, t68.2.2.2.2.1, t68.2.2.2.2.2.1, t68.2.2.2.2.2.2.1, t68.2.2.2.2.2.2.2.1, t68.2.2.2.2.2.2.2.2.1, t68.2.2.2.2.2.2.2.2.2.1, t68.2.2.2.2.2.2.2.2.2.2)))) (fun t69 => ret (.inl (t69.1, t69.2.1, t69.2.2.1, t69.2.2.2.1, t69.2.2.2.2.1, t69.2.2.2.2.2.1, t69.2.2.2.2.2.2.1, t69.2.2.2.2.2.2.2.1, t69.2.2.2.2.2.2.2.2.1, t69.2.2.2.2.2.2.2.2.2.1, t69.2.2.2.2.2.2.2.2.2.2.1, t69.2.2.2.2.2.2.2.2.2.2.2))))
                            else
                              (f195 k xs1 a2 s3 s4 a5 a6 a7 a8 b9 b10 xs11 (List.getD xs1 (Int.toNat t52) (⟨ByteArray.empty, ByteArray.empty, (0 : Int), (0 : Int), (0 : Int), []⟩ : S104)).f0 (List.getD xs1 (Int.toNat t52) (⟨ByteArray.empty, ByteArray.empty, (0 : Int), (0 : Int), (0 : Int), []⟩ : S104)).f1 (List.getD xs1 (Int.toNat t52) (⟨ByteArray.empty, ByteArray.empty, (0 : Int), (0 : Int), (0 : Int), []⟩ : S104)).f2 (List.getD xs1 (Int.toNat t52) (⟨ByteArray.empty, ByteArray.empty, (0 : Int), (0 : Int), (0 : Int), []⟩ : S104)).f3 (List.getD xs1 (Int.toNat t52) (⟨ByteArray.empty, ByteArray.empty, (0 : Int), (0 : Int), (0 : Int), []⟩ : S104)).f4 t63.1).bind (Sum.elim (fun t70 => ret (.inr (.inl (t70.1, t70.2.1, t70.2.2.1, t70.2.2.2.1, t70.2.2.2.2.1, t70.2.2.2.2.2.1, t70.2.2.2.2.2.2.1, t70.2.2.2.2.2.2.2.1, t70.2.2.2.2.2.2.2.2.1, t70.2.2.2.2.2.2.2.2.2.1, t70.2.2.2.2.2.2.2.2.2.2)))) (fun t71 => ret (.inl (t71.1, t71.2.1, t71.2.2.1, t71.2.2.2.1, t71.2.2.2.2.1, t71.2.2.2.2.2.1, t71.2.2.2.2.2.2.1, t71.2.2.2.2.2.2.2.1, t71.2.2.2.2.2.2.2.2.1, t71.2.2.2.2.2.2.2.2.2.1, t71.2.2.2.2.2.2.2.2.2.2.1, t71.2.2.2.2.2.2.2.2.2.2.2))))
                          else
                            if (decide (t52 ≥ (0 : Int))) = true then
                              if (List.length ([] : List S104) + List.length xs1) * 80 ≤ maxN then
                                if (0 : Int) ≤ t52 then
                                  if t52 < ((List.length (([] : List S104) ++ xs1) : Nat) : Int) then
                                    ret (.inr (.inr ((List.set (([] : List S104) ++ xs1) (Int.toNat t52) (⟨(List.getD xs1 (Int.toNat t52) (⟨ByteArray.empty, ByteArray.empty, (0 : Int), (0 : Int), (0 : Int), []⟩ : S104)).f0, (List.getD xs1 (Int.toNat t52) (⟨ByteArray.empty, ByteArray.empty, (0 : Int), (0 : Int), (0 : Int), []⟩ : S104)).f1, (List.getD xs1 (Int.toNat t52) (⟨ByteArray.empty, ByteArray.empty, (0 : Int), (0 : Int), (0 : Int), []⟩ : S104)).f2, (List.getD xs1 (Int.toNat t52) (⟨ByteArray.empty, ByteArray.empty, (0 : Int), (0 : Int), (0 : Int), []⟩ : S104)).f3, (List.getD xs1 (Int.toNat t52) (⟨ByteArray.empty, ByteArray.empty, (0 : Int), (0 : Int), (0 : Int), []⟩ : S104)).f4, t63.1⟩ : S104)), (0 : Int), ByteArray.empty, ByteArray.empty, (0 : Int), (0 : Int), (0 : Int), (0 : Int), false, false, (15 : Int))))
                                  else none
                                else none
                              else none
                            else
                              if (List.length ([] : List S104) + List.length xs1) * 80 ≤ maxN then
                                if (List.length (([] : List S104) ++ xs1) + List.length ([(⟨(List.getD xs1 (Int.toNat t52) (⟨ByteArray.empty, ByteArray.empty, (0 : Int), (0 : Int), (0 : Int), []⟩ : S104)).f0, (List.getD xs1 (Int.toNat t52) (⟨ByteArray.empty, ByteArray.empty, (0 : Int), (0 : Int), (0 : Int), []⟩ : S104)).f1, (List.getD xs1 (Int.toNat t52) (⟨ByteArray.empty, ByteArray.empty, (0 : Int), (0 : Int), (0 : Int), []⟩ : S104)).f2, (List.getD xs1 (Int.toNat t52) (⟨ByteArray.empty, ByteArray.empty, (0 : Int), (0 : Int), (0 : Int), []⟩ : S104)).f3, (List.getD xs1 (Int.toNat t52) (⟨ByteArray.empty, ByteArray.empty, (0 : Int), (0 : Int), (0 : Int), []⟩ : S104)).f4, t63.1⟩ : S104)] : List S104)) * 80 ≤ maxN then
                                  ret (.inr (.inr (((([] : List S104) ++ xs1) ++ ([(⟨(List.getD xs1 (Int.toNat t52) (⟨ByteArray.empty, ByteArray.empty, (0 : Int), (0 : Int), (0 : Int), []⟩ : S104)).f0, (List.getD xs1 (Int.toNat t52) (⟨ByteArray.empty, ByteArray.empty, (0 : Int), (0 : Int), (0 : Int), []⟩ : S104)).f1, (List.getD xs1 (Int.toNat t52) (⟨ByteArray.empty, ByteArray.empty, (0 : Int), (0 : Int), (0 : Int), []⟩ : S104)).f2, (List.getD xs1 (Int.toNat t52) (⟨ByteArray.empty, ByteArray.empty, (0 : Int), (0 : Int), (0 : Int), []⟩ : S104)).f3, (List.getD xs1 (Int.toNat t52) (⟨ByteArray.empty, ByteArray.empty, (0 : Int), (0 : Int), (0 : Int), []⟩ : S104)).f4, t63.1⟩ : S104)] : List S104)), (0 : Int), ByteArray.empty, ByteArray.empty, (0 : Int), (0 : Int), (0 : Int), (0 : Int), false, false, (15 : Int))))
                                else none
                              else none))
            else none
          else none
        else
          if (decide ((((List.length xs1) : Nat) : Int) = (6 : Int))) = true then
            ret (.inr (.inl (xs1, (0 : Int), ByteArray.empty, ByteArray.empty, (0 : Int), (0 : Int), (0 : Int), (0 : Int), false, false, (7 : Int))))
          else
            (f193 k ([] : List S211) (IntKind.i64.wrap ((8 : Int) * a8)) (!b9) (([] : List Int) ++ xs11)).bind (Sum.elim (fun t72 => if (!t72.2) = true then
                (f194 k xs1 t52).bind fun t73 => ret (.inr (.inl (t73, (0 : Int), ByteArray.empty, ByteArray.empty, (0 : Int), (0 : Int), (0 : Int), (0 : Int), false, false, (12 : Int))))
              else
                if (decide ((((List.length t72.1) : Nat) : Int) > (12 : Int))) = true then
                  (f194 k xs1 t52).bind fun t74 => ret (.inr (.inl (t74, (0 : Int), ByteArray.empty, ByteArray.empty, (0 : Int), (0 : Int), (0 : Int), (0 : Int), false, false, (6 : Int))))
                else
                  (f178 k s3 s4 a7 a6 (IntKind.i64.wrap (a12 + (30 : Int))) t72.1).bind fun t75 => if t75 = true then
                      if (decide (t52 ≥ (0 : Int))) = true then
                        (f194 k xs1 t52).bind fun t76 => (f195 k t76 a2 s3 s4 a5 a6 a7 a8 b9 b10 xs11 s3 s4 a7 a6 (IntKind.i64.wrap (a12 + (30 : Int))) t72.1).bind (Sum.elim (fun t77 => ret (.inr (.inl (t77.1, t77.2.1, t77.2.2.1, t77.2.2.2.1, t77.2.2.2.2.1, t77.2.2.2.2.2.1, t77.2.2.2.2.2.2.1, t77.2.2.2.2.2.2.2.1, t77.2.2.2.2.2.2.2.2.1, t77.2.2.2.2.2.2.2.2.2.1, t77.2.2.2.2.2.2.2.2.2.2)))) (fun t78 => ret (.inl (t78.1, t78.2.1, t78.2.2.1, t78.2.2.2.1, t78.2.2.2.2.1, t78.2.2.2.2.2.1, t78.2.2.2.2.2.2.1, t78.2.2.2.2.2.2.2.1, t78.2.2.2.2.2.2.2.2.1, t78.2.2.2.2.2.2.2.2.2.1, t78.2.2.2.2.2.2.2.2.2.2.1, t78.2.2.2.2.2.2.2.2.2.2.2))))
                      else
                        (f195 k xs1 a2 s3 s4 a5 a6 a7 a8 b9 b10 xs11 s3 s4 a7 a6 (IntKind.i64.wrap (a12 + (30 : Int))) t72.1).bind (Sum.elim (fun t79 => ret (.inr (.inl (t79.1, t79.2.1, t79.2.2.1, t79.2.2.2.1, t79.2.2.2.2.1, t79.2.2.2.2.2.1, t79.2.2.2.2.2.2.1, t79.2.2.2.2.2.2.2.1, t79.2.2.2.2.2.2.2.2.1, t79.2.2.2.2.2.2.2.2.2.1, t79.2.2.2.2.2.2.2.2.2.2)))) (fun t80 => ret (.inl (t80.1, t80.2.1, t80.2.2.1, t80.2.2.2.1, t80.2.2.2.2.1, t80.2.2.2.2.2.1, t80.2.2.2.2.2.2.1, t80.2.2.2.2.2.2.2.1, t80.2.2.2.2.2.2.2.2.1, t80.2.2.2.2.2.2.2.2.2.1, t80.2.2.2.2.2.2.2.2.2.2.1, t80.2.2.2.2.2.2.2.2.2.2.2))))
                    else
                      if (decide (t52 ≥ (0 : Int))) = true then
                        if (List.length ([] : List S104) + List.length xs1) * 80 ≤ maxN then
                          if (0 : Int) ≤ t52 then
                            if t52 < ((List.length (([] : List S104) ++ xs1) : Nat) : Int) then
                              ret (.inr (.inr ((List.set (([] : List S104) ++ xs1) (Int.toNat t52) (⟨s3, s4, a7, a6, (IntKind.i64.wrap (a12 + (30 : Int))), t72.1⟩ : S104)), (0 : Int), ByteArray.empty, ByteArray.empty, (0 : Int), (0 : Int), (0 : Int), (0 : Int), false, false, (15 : Int))))
                            else none
                          else none
                        else none
                      else
                        if (List.length ([] : List S104) + List.length xs1) * 80 ≤ maxN then
                          if (List.length (([] : List S104) ++ xs1) + List.length ([(⟨s3, s4, a7, a6, (IntKind.i64.wrap (a12 + (30 : Int))), t72.1⟩ : S104)] : List S104)) * 80 ≤ maxN then
                            ret (.inr (.inr (((([] : List S104) ++ xs1) ++ ([(⟨s3, s4, a7, a6, (IntKind.i64.wrap (a12 + (30 : Int))), t72.1⟩ : S104)] : List S104)), (0 : Int), ByteArray.empty, ByteArray.empty, (0 : Int), (0 : Int), (0 : Int), (0 : Int), false, false, (15 : Int))))
                          else none
                        else none) (fun t81 => if (!t81.2) = true then
                (f194 k xs1 t52).bind fun t82 => ret (.inr (.inl (t82, (0 : Int), ByteArray.empty, ByteArray.empty, (0 : Int), (0 : Int), (0 : Int), (0 : Int), false, false, (12 : Int))))
              else
                if (decide ((((List.length t81.1) : Nat) : Int) > (12 : Int))) = true then
                  (f194 k xs1 t52).bind fun t83 => ret (.inr (.inl (t83, (0 : Int), ByteArray.empty, ByteArray.empty, (0 : Int), (0 : Int), (0 : Int), (0 : Int), false, false, (6 : Int))))
                else
                  (f178 k s3 s4 a7 a6 (IntKind.i64.wrap (a12 + (30 : Int))) t81.1).bind fun t84 => if t84 = true then
                      if (decide (t52 ≥ (0 : Int))) = true then
                        (f194 k xs1 t52).bind fun t85 => (f195 k t85 a2 s3 s4 a5 a6 a7 a8 b9 b10 xs11 s3 s4 a7 a6 (IntKind.i64.wrap (a12 + (30 : Int))) t81.1).bind (Sum.elim (fun t86 => ret (.inr (.inl (t86.1, t86.2.1, t86.2.2.1, t86.2.2.2.1, t86.2.2.2.2.1, t86.2.2.2.2.2.1, t86.2.2.2.2.2.2.1, t86.2.2.2.2.2.2.2.1, t86.2.2.2.2.2.2.2.2.1, t86.2.2.2.2.2.2.2.2.2.1, t86.2.2.2.2.2.2.2.2.2.2)))) (fun t87 => ret (.inl (t87.1, t87.2.1, t87.2.2.1, t87.2.2.2.1, t87.2.2.2.2.1, t87.2.2.2.2.2.1, t87.2.2.2.2.2.2.1, t87.2.2.2.2.2.2.2.1, t87.2.2.2.2.2.2.2.2.1, t87.2.2.2.2.2.2.2.2.2.1, t87.2.2.2.2.2.2.2.2.2.2.1, t87.2.2.2.2.2.2.2.2.2.2.2))))
                      else
                        (f195 k xs1 a2 s3 s4 a5 a6 a7 a8 b9 b10 xs11 s3 s4 a7 a6 (IntKind.i64.wrap (a12 + (30 : Int))) t81.1).bind (Sum.elim (fun t88 => ret (.inr (.inl (t88.1, t88.2.1, t88.2.2.1, t88.2.2.2.1, t88.2.2.2.2.1, t88.2.2.2.2.2.1, t88.2.2.2.2.2.2.1, t88.2.2.2.2.2.2.2.1, t88.2.2.2.2.2.2.2.2.1, t88.2.2.2.2.2.2.2.2.2.1, t88.2.2.2.2.2.2.2.2.2.2)))) (fun t89 => ret (.inl (t89.1, t89.2.1, t89.2.2.1, t89.2.2.2.1, t89.2.2.2.2.1, t89.2.2.2.2.2.1, t89.2.2.2.2.2.2.1, t89.2.2.2.2.2.2.2.1, t89.2.2.2.2.2.2.2.2.1, t89.2.2.2.2.2.2.2.2.2.1, t89.2.2.2.2.2.2.2.2.2.2.1, t89.2.2.2.2.2.2.2.2.2.2.2))))
                    else
                      if (decide (t52 ≥ (0 : Int))) = true then
                        if (List.length ([] : List S104) + List.length xs1) * 80 ≤ maxN then
                          if (0 : Int) ≤ t52 then
                            if t52 < ((List.length (([] : List S104) ++ xs1) : Nat) : Int) then
                              ret (.inr (.inr ((List.set (([] : List S104) ++ xs1) (Int.toNat t52) (⟨s3, s4, a7, a6, (IntKind.i64.wrap (a12 + (30 : Int))), t81.1⟩ : S104)), (0 : Int), ByteArray.empty, ByteArray.empty, (0 : Int), (0 : Int), (0 : Int), (0 : Int), false, false, (15 : Int))))
                            else none
                          else none
                        else none
                      else
                        if (List.length ([] : List S104) + List.length xs1) * 80 ≤ maxN then
                          if (List.length (([] : List S104) ++ xs1) + List.length ([(⟨s3, s4, a7, a6, (IntKind.i64.wrap (a12 + (30 : Int))), t81.1⟩ : S104)] : List S104)) * 80 ≤ maxN then
                            ret (.inr (.inr (((([] : List S104) ++ xs1) ++ ([(⟨s3, s4, a7, a6, (IntKind.i64.wrap (a12 + (30 : Int))), t81.1⟩ : S104)] : List S104)), (0 : Int), ByteArray.empty, ByteArray.empty, (0 : Int), (0 : Int), (0 : Int), (0 : Int), false, false, (15 : Int))))
                          else none
                        else none))
    else none
def f174 (k : Nat) (xs1 : List S104) (a2 : Int) (s3 : ByteArray) (s4 : ByteArray) (a5 : Int) (a6 : Int) (a7 : Int) (a8 : Int) (b9 : Bool) (b10 : Bool) (xs11 : List Int) (a12 : Int) : Option (((List S104) × Int × ByteArray × ByteArray × Int × Int × Int × Int × Bool × Bool × (List Int) × Int) ⊕ (((List S104) × Int × ByteArray × ByteArray × Int × Int × Int × Int × Bool × Bool × Int) ⊕ ((List S104) × Int × ByteArray × ByteArray × Int × Int × Int × Int × Bool × Bool × Int))) := f174.step k some xs1 a2 s3 s4 a5 a6 a7 a8 b9 b10 xs11 a12
def f174.w {R : Type} : (((List S104) × Int × ByteArray × ByteArray × Int × Int × Int × Int × Bool × Bool × (List Int) × Int) ⊕ (((List S104) × Int × ByteArray × ByteArray × Int × Int × Int × Int × Bool × Bool × Int) ⊕ ((List S104) × Int × ByteArray × ByteArray × Int × Int × Int × Int × Bool × Bool × Int))) → (Res env → Option R) → Option R := fun x K => Sum.elim (fun t90 => K ⟨.tup [.c (.imm 104 t90.1), .g [.s (.int .i64 t90.2.1), .s (.string t90.2.2.1), .s (.string t90.2.2.2.1), .s (.int .i64 t90.2.2.2.2.1), .s (.int .i64 t90.2.2.2.2.2.1), .s (.int .i64 t90.2.2.2.2.2.2.1), .s (.int .i64 t90.2.2.2.2.2.2.2.1), .s (.bool t90.2.2.2.2.2.2.2.2.1), .s (.bool t90.2.2.2.2.2.2.2.2.2.1), .own true 5 t90.2.2.2.2.2.2.2.2.2.2.1], .c (.s (.int .i64 t90.2.2.2.2.2.2.2.2.2.2.2))], [[], [], []]⟩) (Sum.elim (fun t91 => K ⟨.tup [.c (.imm 104 t91.1), .g [.s (.int .i64 t91.2.1), .s (.string t91.2.2.1), .s (.string t91.2.2.2.1), .s (.int .i64 t91.2.2.2.2.1), .s (.int .i64 t91.2.2.2.2.2.1), .s (.int .i64 t91.2.2.2.2.2.2.1), .s (.int .i64 t91.2.2.2.2.2.2.2.1), .s (.bool t91.2.2.2.2.2.2.2.2.1), .s (.bool t91.2.2.2.2.2.2.2.2.2.1), .s (.slice none 0 0)], .c (.s (.int .i64 t91.2.2.2.2.2.2.2.2.2.2))], [[], [], []]⟩) (fun t92 => K ⟨.tup [.c (.own false 104 t92.1), .g [.s (.int .i64 t92.2.1), .s (.string t92.2.2.1), .s (.string t92.2.2.2.1), .s (.int .i64 t92.2.2.2.2.1), .s (.int .i64 t92.2.2.2.2.2.1), .s (.int .i64 t92.2.2.2.2.2.2.1), .s (.int .i64 t92.2.2.2.2.2.2.2.1), .s (.bool t92.2.2.2.2.2.2.2.2.1), .s (.bool t92.2.2.2.2.2.2.2.2.2.1), .s (.slice none 0 0)], .c (.s (.int .i64 t92.2.2.2.2.2.2.2.2.2.2))], [[], [], []]⟩)) x
theorem f174.wn (x : (((List S104) × Int × ByteArray × ByteArray × Int × Int × Int × Int × Bool × Bool × (List Int) × Int) ⊕ (((List S104) × Int × ByteArray × ByteArray × Int × Int × Int × Int × Bool × Bool × Int) ⊕ ((List S104) × Int × ByteArray × ByteArray × Int × Int × Int × Int × Bool × Bool × Int)))) : ∃ res, ∀ {R : Type} (K : Res env → Option R), f174.w x K = K res := by
  rcases x with x | x | x <;> exact ⟨_, fun _ => rfl⟩
def f174.hd (k : Nat) (ps_ : List (P2 env)) : Cl env :=
  gC Cl.no ps_ fun p_ ps_ => qC Cl.no p_ fun c_ => qSl Cl.no 104 c_ fun xs1 => gC Cl.no ps_ fun p_ ps_ => qG Cl.no p_ fun cs_ => gC Cl.no cs_ fun c_ cs_ => qS Cl.no c_ fun v_ => vI Cl.no .i64 v_ fun a2 => gC Cl.no cs_ fun c_ cs_ => qS Cl.no c_ fun v_ => vS Cl.no v_ fun s3 => gC Cl.no cs_ fun c_ cs_ => qS Cl.no c_ fun v_ => vS Cl.no v_ fun s4 => gC Cl.no cs_ fun c_ cs_ => qS Cl.no c_ fun v_ => vI Cl.no .i64 v_ fun a5 => gC Cl.no cs_ fun c_ cs_ => qS Cl.no c_ fun v_ => vI Cl.no .i64 v_ fun a6 => gC Cl.no cs_ fun c_ cs_ => qS Cl.no c_ fun v_ => vI Cl.no .i64 v_ fun a7 => gC Cl.no cs_ fun c_ cs_ => qS Cl.no c_ fun v_ => vI Cl.no .i64 v_ fun a8 => gC Cl.no cs_ fun c_ cs_ => qS Cl.no c_ fun v_ => vB Cl.no v_ fun b9 => gC Cl.no cs_ fun c_ cs_ => qS Cl.no c_ fun v_ => vB Cl.no v_ fun b10 => gC Cl.no cs_ fun c_ cs_ => qSl Cl.no 5 c_ fun xs11 => gE Cl.no cs_ <| gC Cl.no ps_ fun p_ ps_ => qC Cl.no p_ fun c_ => qS Cl.no c_ fun v_ => vI Cl.no .i64 v_ fun a12 => gE Cl.no ps_ <| { α := ((List S104) × Int × ByteArray × ByteArray × Int × Int × Int × Int × Bool × Bool × (List Int) × Int) ⊕ (((List S104) × Int × ByteArray × ByteArray × Int × Int × Int × Int × Bool × Bool × Int) ⊕ ((List S104) × Int × ByteArray × ByteArray × Int × Int × Int × Int × Bool × Bool × Int)), o := f174 k xs1 a2 s3 s4 a5 a6 a7 a8 b9 b10 xs11 a12, w := f174.w, nat := fun x _ => f174.wn x }
def f174.e (k : Nat) : Entry env := ⟨fun ps => f174.hd k (coer [[.rd 104], [.no, .no, .no, .no, .no, .no, .no, .no, .no, .rd 5], [.no]] ps), [], []⟩
def f174.X (k : Nat) : Ctx env := { C := lookE [(146, f146.e k), (177, f177.e k), (178, f178.e k), (192, f192.e k), (193, f193.e k), (194, f194.e k), (195, f195.e k)], L := lookE [], J := lookE [], keep := lookD [], keepX := lookD [], span := lookN [], eff := fun n => memN n [4, 27], prep := lookP [], np := 0 }
theorem f174.nat {R : Type} (k : Nat) (g : (((List S104) × Int × ByteArray × ByteArray × Int × Int × Int × Int × Bool × Bool × (List Int) × Int) ⊕ (((List S104) × Int × ByteArray × ByteArray × Int × Int × Int × Int × Bool × Bool × Int) ⊕ ((List S104) × Int × ByteArray × ByteArray × Int × Int × Int × Int × Bool × Bool × Int))) → Option R) (xs1 : List S104) (a2 : Int) (s3 : ByteArray) (s4 : ByteArray) (a5 : Int) (a6 : Int) (a7 : Int) (a8 : Int) (b9 : Bool) (b10 : Bool) (xs11 : List Int) (a12 : Int) : f174.step k g xs1 a2 s3 s4 a5 a6 a7 a8 b9 b10 xs11 a12 = (f174 k xs1 a2 s3 s4 a5 a6 a7 a8 b9 b10 xs11 a12).bind g := by
  simp only [f174, f174.step, bind_ite, bind_sum, Option.bind_assoc, Option.bind_some, Option.bind_none]
theorem f174.ev (k : Nat) (xs1 : List S104) (a2 : Int) (s3 : ByteArray) (s4 : ByteArray) (a5 : Int) (a6 : Int) (a7 : Int) (a8 : Int) (b9 : Bool) (b10 : Bool) (xs11 : List Int) (a12 : Int) : evF (f174.X k) (bodyOf Try.f174) Try.f174.ntmps Try.f174.results.toList [.v (.c (.sl 104 xs1)), .g [.s (.int .i64 a2), .s (.string s3), .s (.string s4), .s (.int .i64 a5), .s (.int .i64 a6), .s (.int .i64 a7), .s (.int .i64 a8), .s (.bool b9), .s (.bool b10), .sl 5 xs11], .v (.c (.s (.int .i64 a12)))] = f174.step k (fun x => f174.w x some) xs1 a2 s3 s4 a5 a6 a7 a8 b9 b10 xs11 a12 := by kernel_rfl
theorem f174.hok (k : Nat) : HOK (f174.X k) (bodyOf Try.f174) where
  l := allP_mem (by exact trivial)
  j := allP_mem (by exact trivial)
theorem f174.sound0 (k : Nat) : SoundC env Try.prog 174 (f174.hd k) := by
  intro ps_
  show GoodC _ _ _ ps_ (f174.hd k ps_)
  unfold f174.hd
  refine gC_ok (p := GoodC env Try.prog 174 _) goodC_no fun _ _ h => ?_
  subst h
  refine qC_ok (p := GoodC env Try.prog 174 _) goodC_no fun _ h => ?_
  subst h
  refine qSl_ok (p := GoodC env Try.prog 174 _) goodC_no fun _ h => ?_
  subst h
  refine gC_ok (p := GoodC env Try.prog 174 _) goodC_no fun _ _ h => ?_
  subst h
  refine qG_ok (p := GoodC env Try.prog 174 _) goodC_no fun _ h => ?_
  subst h
  refine gC_ok (p := GoodC env Try.prog 174 _) goodC_no fun _ _ h => ?_
  subst h
  refine qS_ok (p := GoodC env Try.prog 174 _) goodC_no fun _ h => ?_
  subst h
  refine vI_ok (p := GoodC env Try.prog 174 _) goodC_no fun _ h => ?_
  subst h
  refine gC_ok (p := GoodC env Try.prog 174 _) goodC_no fun _ _ h => ?_
  subst h
  refine qS_ok (p := GoodC env Try.prog 174 _) goodC_no fun _ h => ?_
  subst h
  refine vS_ok (p := GoodC env Try.prog 174 _) goodC_no fun _ h => ?_
  subst h
  refine gC_ok (p := GoodC env Try.prog 174 _) goodC_no fun _ _ h => ?_
  subst h
  refine qS_ok (p := GoodC env Try.prog 174 _) goodC_no fun _ h => ?_
  subst h
  refine vS_ok (p := GoodC env Try.prog 174 _) goodC_no fun _ h => ?_
  subst h
  refine gC_ok (p := GoodC env Try.prog 174 _) goodC_no fun _ _ h => ?_
  subst h
  refine qS_ok (p := GoodC env Try.prog 174 _) goodC_no fun _ h => ?_
  subst h
  refine vI_ok (p := GoodC env Try.prog 174 _) goodC_no fun _ h => ?_
  subst h
  refine gC_ok (p := GoodC env Try.prog 174 _) goodC_no fun _ _ h => ?_
  subst h
  refine qS_ok (p := GoodC env Try.prog 174 _) goodC_no fun _ h => ?_
  subst h
  refine vI_ok (p := GoodC env Try.prog 174 _) goodC_no fun _ h => ?_
  subst h
  refine gC_ok (p := GoodC env Try.prog 174 _) goodC_no fun _ _ h => ?_
  subst h
  refine qS_ok (p := GoodC env Try.prog 174 _) goodC_no fun _ h => ?_
  subst h
  refine vI_ok (p := GoodC env Try.prog 174 _) goodC_no fun _ h => ?_
  subst h
  refine gC_ok (p := GoodC env Try.prog 174 _) goodC_no fun _ _ h => ?_
  subst h
  refine qS_ok (p := GoodC env Try.prog 174 _) goodC_no fun _ h => ?_
  subst h
  refine vI_ok (p := GoodC env Try.prog 174 _) goodC_no fun _ h => ?_
  subst h
  refine gC_ok (p := GoodC env Try.prog 174 _) goodC_no fun _ _ h => ?_
  subst h
  refine qS_ok (p := GoodC env Try.prog 174 _) goodC_no fun _ h => ?_
  subst h
  refine vB_ok (p := GoodC env Try.prog 174 _) goodC_no fun _ h => ?_
  subst h
  refine gC_ok (p := GoodC env Try.prog 174 _) goodC_no fun _ _ h => ?_
  subst h
  refine qS_ok (p := GoodC env Try.prog 174 _) goodC_no fun _ h => ?_
  subst h
  refine vB_ok (p := GoodC env Try.prog 174 _) goodC_no fun _ h => ?_
  subst h
  refine gC_ok (p := GoodC env Try.prog 174 _) goodC_no fun _ _ h => ?_
  subst h
  refine qSl_ok (p := GoodC env Try.prog 174 _) goodC_no fun _ h => ?_
  subst h
  refine gE_ok (p := GoodC env Try.prog 174 _) goodC_no fun h => ?_
  subst h
  refine gC_ok (p := GoodC env Try.prog 174 _) goodC_no fun _ _ h => ?_
  subst h
  refine qC_ok (p := GoodC env Try.prog 174 _) goodC_no fun _ h => ?_
  subst h
  refine qS_ok (p := GoodC env Try.prog 174 _) goodC_no fun _ h => ?_
  subst h
  refine vI_ok (p := GoodC env Try.prog 174 _) goodC_no fun _ h => ?_
  subst h
  refine gE_ok (p := GoodC env Try.prog 174 _) goodC_no fun h => ?_
  subst h
  exact fun_good (fun_sound envOK (cs_sound _ (by exact ⟨⟨f146.sound k, f146.fnok⟩, ⟨f177.sound k, f177.fnok⟩, ⟨f178.sound k, f178.fnok⟩, ⟨f192.sound k, f192.fnok⟩, ⟨f193.sound k, f193.fnok⟩, ⟨f194.sound k, f194.fnok⟩, ⟨f195.sound k, f195.fnok⟩, trivial⟩)) (f174.hok k) Try.func174 rfl) ((f174.ev k _ _ _ _ _ _ _ _ _ _ _ _).trans (f174.nat k _ _ _ _ _ _ _ _ _ _ _ _ _))
theorem f174.sound (k : Nat) : SoundC env Try.prog 174 (f174.e k).F := soundC_coer (f174.sound0 k) [[.rd 104], [.no, .no, .no, .no, .no, .no, .no, .no, .no, .rd 5], [.no]]
theorem f174.fnok : FnOK Try.prog 174 := fn_ok Try.func174 (by kernel_rfl) rfl
def f134.l5.step {R : Type} (k : Nat) (rec_ : (List S104) → (List S24) → Int → Int → (List Int) → Int → Int → Option R) (ret : ((List S104) × (List Int) × Int × Int) → Option R) (xs6 : List S104) (xs7 : List S24) (a8 : Int) (a9 : Int) (xs10 : List Int) (a11 : Int) (a12 : Int) : Option R :=
  if (decide (a9 < a8)) = true then
    if (0 : Int) ≤ a9 then
      if a9 < ((List.length xs7 : Nat) : Int) then
        (f145 k xs10 a11 a12 (50 : Int)).bind fun t13 => (f174 k xs6 (List.getD xs7 (Int.toNat a9) (⟨(0 : Int), ByteArray.empty, ByteArray.empty, (0 : Int), (0 : Int), (0 : Int), (0 : Int), false, false, []⟩ : S24)).f0 (List.getD xs7 (Int.toNat a9) (⟨(0 : Int), ByteArray.empty, ByteArray.empty, (0 : Int), (0 : Int), (0 : Int), (0 : Int), false, false, []⟩ : S24)).f1 (List.getD xs7 (Int.toNat a9) (⟨(0 : Int), ByteArray.empty, ByteArray.empty, (0 : Int), (0 : Int), (0 : Int), (0 : Int), false, false, []⟩ : S24)).f2 (List.getD xs7 (Int.toNat a9) (⟨(0 : Int), ByteArray.empty, ByteArray.empty, (0 : Int), (0 : Int), (0 : Int), (0 : Int), false, false, []⟩ : S24)).f3 (List.getD xs7 (Int.toNat a9) (⟨(0 : Int), ByteArray.empty, ByteArray.empty, (0 : Int), (0 : Int), (0 : Int), (0 : Int), false, false, []⟩ : S24)).f4 (List.getD xs7 (Int.toNat a9) (⟨(0 : Int), ByteArray.empty, ByteArray.empty, (0 : Int), (0 : Int), (0 : Int), (0 : Int), false, false, []⟩ : S24)).f5 (List.getD xs7 (Int.toNat a9) (⟨(0 : Int), ByteArray.empty, ByteArray.empty, (0 : Int), (0 : Int), (0 : Int), (0 : Int), false, false, []⟩ : S24)).f6 (List.getD xs7 (Int.toNat a9) (⟨(0 : Int), ByteArray.empty, ByteArray.empty, (0 : Int), (0 : Int), (0 : Int), (0 : Int), false, false, []⟩ : S24)).f7 (List.getD xs7 (Int.toNat a9) (⟨(0 : Int), ByteArray.empty, ByteArray.empty, (0 : Int), (0 : Int), (0 : Int), (0 : Int), false, false, []⟩ : S24)).f8 (List.getD xs7 (Int.toNat a9) (⟨(0 : Int), ByteArray.empty, ByteArray.empty, (0 : Int), (0 : Int), (0 : Int), (0 : Int), false, false, []⟩ : S24)).f9 t13.1).bind (Sum.elim (fun t14 => rec_ t14.1 xs7 a8 (IntKind.i64.wrap (a9 + (1 : Int))) t13.2.1 t13.2.2.1 t13.2.2.2) (Sum.elim (fun t15 => rec_ t15.1 xs7 a8 (IntKind.i64.wrap (a9 + (1 : Int))) t13.2.1 t13.2.2.1 t13.2.2.2) (fun t16 => rec_ t16.1 xs7 a8 (IntKind.i64.wrap (a9 + (1 : Int))) t13.2.1 t13.2.2.1 t13.2.2.2)))
      else none
    else none
  else
    ret (xs6, xs10, a11, a12)
def f134.l5 (k : Nat) : Nat → (List S104) → (List S24) → Int → Int → (List Int) → Int → Int → Option ((List S104) × (List Int) × Int × Int)
  | 0, _, _, _, _, _, _, _ => none
  | j + 1, xs6, xs7, a8, a9, xs10, a11, a12 => f134.l5.step k (fun xs6 xs7 a8 a9 xs10 a11 a12 => f134.l5 k j xs6 xs7 a8 a9 xs10 a11 a12) some xs6 xs7 a8 a9 xs10 a11 a12
def f134.l5.w {R : Type} : ((List S104) × (List Int) × Int × Int) → (Exit → St env → Option R) → Option R := fun t18 K => K (.exit 0) ⟨fullT [0, 3] 0 33 [.v (.c (.bp 0 0)), .v (.c (.imm 104 t18.1))], [(0, .box [.imm 5 t18.2.1, .s (.int .i64 t18.2.2.1), .s (.int .i64 t18.2.2.2)])], 513⟩
def f134.l5.st (xs6 : List S104) (xs7 : List S24) (a8 : Int) (a9 : Int) (xs10 : List Int) (a11 : Int) (a12 : Int) : St env := ⟨fullT [0, 3, 4, 5, 6] 0 33 [.v (.c (.bp 0 0)), .v (.c (.imm 104 xs6)), .v (.c (.imm 24 xs7)), .v (.c (.s (.int .i64 a8))), .v (.c (.s (.int .i64 a9)))], [(0, .box [.imm 5 xs10, .s (.int .i64 a11), .s (.int .i64 a12)])], 209⟩
def f134.l5.hd (k : Nat) (ts_ : List (AV env)) (mm_ : Mem env) (n_ : Nat) : LCl env :=
  gTs LCl.no [0, 3, 4, 5, 6] 33 ts_ fun l_ => gV LCl.no l_ fun a_ l_ => rBp LCl.no 0 0 a_ <| gV LCl.no l_ fun a_ l_ => rImm LCl.no 104 a_ fun xs6 => gV LCl.no l_ fun a_ l_ => rImm LCl.no 24 a_ fun xs7 => gV LCl.no l_ fun a_ l_ => rV LCl.no a_ fun v_ => vI LCl.no .i64 v_ fun a8 => gV LCl.no l_ fun a_ l_ => rV LCl.no a_ fun v_ => vI LCl.no .i64 v_ fun a9 => gE LCl.no l_ <| mBox LCl.no 0 mm_ fun c_ m_ => gC LCl.no c_ fun a_ c_ => rImm LCl.no 5 a_ fun xs10 => gC LCl.no c_ fun a_ c_ => rV LCl.no a_ fun v_ => vI LCl.no .i64 v_ fun a11 => gC LCl.no c_ fun a_ c_ => rV LCl.no a_ fun v_ => vI LCl.no .i64 v_ fun a12 => gE LCl.no c_ <| gE LCl.no m_ <| gN LCl.no 209 n_ { α := (List S104) × (List Int) × Int × Int, o := f134.l5 k k xs6 xs7 a8 a9 xs10 a11 a12, w := f134.l5.w }
def f134.step {R : Type} (k : Nat) (ret : ((List S104) × (List Int) × Int × Int) → Option R) (xs1 : List Int) (a2 : Int) (a3 : Int) : Option R :=
  (f173 k xs1 a2 a3).bind fun t4 => (f145 k t4.2.1 t4.2.2.1 t4.2.2.2 (IntKind.i64.wrap ((((List.length t4.1) : Nat) : Int) + (1 : Int)))).bind fun t5 => (f134.l5 k k ([] : List S104) t4.1 t5.1 (0 : Int) t5.2.1 t5.2.2.1 t5.2.2.2).bind fun t17 => ret (t17.1, t17.2.1, t17.2.2.1, t17.2.2.2)
def f134 (k : Nat) (xs1 : List Int) (a2 : Int) (a3 : Int) : Option ((List S104) × (List Int) × Int × Int) := f134.step k some xs1 a2 a3
def f134.w {R : Type} : ((List S104) × (List Int) × Int × Int) → (Res env → Option R) → Option R := fun t19 K => K ⟨.v (.c (.imm 104 t19.1)), [[.sl 5 t19.2.1, .s (.int .i64 t19.2.2.1), .s (.int .i64 t19.2.2.2)]]⟩
theorem f134.wn (x : ((List S104) × (List Int) × Int × Int)) : ∃ res, ∀ {R : Type} (K : Res env → Option R), f134.w x K = K res := by
  exact ⟨_, fun _ => rfl⟩
def f134.hd (k : Nat) (ps_ : List (P2 env)) : Cl env :=
  gC Cl.no ps_ fun p_ ps_ => qP Cl.no p_ fun cs_ => gC Cl.no cs_ fun c_ cs_ => qSl Cl.no 5 c_ fun xs1 => gC Cl.no cs_ fun c_ cs_ => qS Cl.no c_ fun v_ => vI Cl.no .i64 v_ fun a2 => gC Cl.no cs_ fun c_ cs_ => qS Cl.no c_ fun v_ => vI Cl.no .i64 v_ fun a3 => gE Cl.no cs_ <| gE Cl.no ps_ <| { α := (List S104) × (List Int) × Int × Int, o := f134 k xs1 a2 a3, w := f134.w, nat := fun x _ => f134.wn x }
def f134.e (k : Nat) : Entry env := ⟨fun ps => f134.hd k (coer [[.rd 5, .no, .no]] ps), [], []⟩
def f134.X (k : Nat) : Ctx env := { C := lookE [(145, f145.e k), (173, f173.e k), (174, f174.e k)], L := lookE [(5, fun S => f134.l5.hd k S.ts S.m S.n)], J := lookE [], keep := lookD [(5, [0, 3, 4, 5, 6])], keepX := lookD [(5, [0, 3])], span := lookN [(5, 304)], eff := fun n => memN n [7], prep := lookP [(5, [.empT 3])], np := 0 }
theorem f134.l5.nat {R : Type} (k : Nat) (rec_ : (List S104) → (List S24) → Int → Int → (List Int) → Int → Int → Option ((List S104) × (List Int) × Int × Int)) (g : ((List S104) × (List Int) × Int × Int) → Option R) (xs6 : List S104) (xs7 : List S24) (a8 : Int) (a9 : Int) (xs10 : List Int) (a11 : Int) (a12 : Int) : (f134.l5.step k rec_ some xs6 xs7 a8 a9 xs10 a11 a12).bind g = f134.l5.step k (fun xs6 xs7 a8 a9 xs10 a11 a12 => (rec_ xs6 xs7 a8 a9 xs10 a11 a12).bind g) g xs6 xs7 a8 a9 xs10 a11 a12 := by
  simp only [f134.l5.step, bind_ite, bind_sum, Option.bind_assoc, Option.bind_some, Option.bind_none]
theorem f134.l5.good (k : Nat) (xs6 : List S104) (xs7 : List S24) (a8 : Int) (a9 : Int) (xs10 : List Int) (a11 : Int) (a12 : Int) : GoodL (f134.X k) (nthC 0 (loopsOf (bodyOf Try.f134))) (f134.l5.st xs6 xs7 a8 a9 xs10 a11 a12) { α := ((List S104) × (List Int) × Int × Int), o := f134.l5 k k xs6 xs7 a8 a9 xs10 a11 a12, w := f134.l5.w } :=
  loop_good (ι := (List S104) × (List S24) × Int × Int × (List Int) × Int × Int) (α := ((List S104) × (List Int) × Int × Int)) (fun i => f134.l5.st i.1 i.2.1 i.2.2.1 i.2.2.2.1 i.2.2.2.2.1 i.2.2.2.2.2.1 i.2.2.2.2.2.2) (fun j i => f134.l5 k j i.1 i.2.1 i.2.2.1 i.2.2.2.1 i.2.2.2.2.1 i.2.2.2.2.2.1 i.2.2.2.2.2.2) f134.l5.w (fun rec_ ret i => f134.l5.step k (fun xs6 xs7 a8 a9 xs10 a11 a12 => rec_ (xs6, xs7, a8, a9, xs10, a11, a12)) ret i.1 i.2.1 i.2.2.1 i.2.2.2.1 i.2.2.2.2.1 i.2.2.2.2.2.1 i.2.2.2.2.2.2)
    (fun _ => rfl) (fun _ _ => rfl) (fun rec_ g i => f134.l5.nat k _ g i.1 i.2.1 i.2.2.1 i.2.2.2.1 i.2.2.2.2.1 i.2.2.2.2.2.1 i.2.2.2.2.2.2) (fun {R} i0 i rec_ K => by kernel_rfl) k (xs6, xs7, a8, a9, xs10, a11, a12)
theorem f134.l5.all (k : Nat) (S : St env) : GoodL (f134.X k) (nthC 0 (loopsOf (bodyOf Try.f134))) S (f134.l5.hd k S.ts S.m S.n) := by
  obtain ⟨ts_, m_, n_⟩ := S
  show GoodL _ _ _ (f134.l5.hd k ts_ m_ n_)
  unfold f134.l5.hd
  refine gTs_ok (p := GoodL _ _ _) goodL_no fun _ h => ?_
  subst h
  refine gV_ok (p := GoodL _ _ _) goodL_no fun _ _ h => ?_
  subst h
  refine rBp_ok (p := GoodL _ _ _) goodL_no fun h => ?_
  subst h
  refine gV_ok (p := GoodL _ _ _) goodL_no fun _ _ h => ?_
  subst h
  refine rImm_ok (p := GoodL _ _ _) goodL_no fun _ h => ?_
  subst h
  refine gV_ok (p := GoodL _ _ _) goodL_no fun _ _ h => ?_
  subst h
  refine rImm_ok (p := GoodL _ _ _) goodL_no fun _ h => ?_
  subst h
  refine gV_ok (p := GoodL _ _ _) goodL_no fun _ _ h => ?_
  subst h
  refine rV_ok (p := GoodL _ _ _) goodL_no fun _ h => ?_
  subst h
  refine vI_ok (p := GoodL _ _ _) goodL_no fun _ h => ?_
  subst h
  refine gV_ok (p := GoodL _ _ _) goodL_no fun _ _ h => ?_
  subst h
  refine rV_ok (p := GoodL _ _ _) goodL_no fun _ h => ?_
  subst h
  refine vI_ok (p := GoodL _ _ _) goodL_no fun _ h => ?_
  subst h
  refine gE_ok (p := GoodL _ _ _) goodL_no fun h => ?_
  subst h
  refine mBox_ok (p := GoodL _ _ _) goodL_no fun _ _ h => ?_
  subst h
  refine gC_ok (p := GoodL _ _ _) goodL_no fun _ _ h => ?_
  subst h
  refine rImm_ok (p := GoodL _ _ _) goodL_no fun _ h => ?_
  subst h
  refine gC_ok (p := GoodL _ _ _) goodL_no fun _ _ h => ?_
  subst h
  refine rV_ok (p := GoodL _ _ _) goodL_no fun _ h => ?_
  subst h
  refine vI_ok (p := GoodL _ _ _) goodL_no fun _ h => ?_
  subst h
  refine gC_ok (p := GoodL _ _ _) goodL_no fun _ _ h => ?_
  subst h
  refine rV_ok (p := GoodL _ _ _) goodL_no fun _ h => ?_
  subst h
  refine vI_ok (p := GoodL _ _ _) goodL_no fun _ h => ?_
  subst h
  refine gE_ok (p := GoodL _ _ _) goodL_no fun h => ?_
  subst h
  refine gE_ok (p := GoodL _ _ _) goodL_no fun h => ?_
  subst h
  refine gN_ok (p := GoodL _ _ _) goodL_no fun h => ?_
  subst h
  exact f134.l5.good k _ _ _ _ _ _ _
theorem f134.nat {R : Type} (k : Nat) (g : ((List S104) × (List Int) × Int × Int) → Option R) (xs1 : List Int) (a2 : Int) (a3 : Int) : f134.step k g xs1 a2 a3 = (f134 k xs1 a2 a3).bind g := by
  simp only [f134, f134.step, bind_ite, bind_sum, Option.bind_assoc, Option.bind_some, Option.bind_none]
theorem f134.ev (k : Nat) (xs1 : List Int) (a2 : Int) (a3 : Int) : evF (f134.X k) (bodyOf Try.f134) Try.f134.ntmps Try.f134.results.toList [.v (.ptr [.sl 5 xs1, .s (.int .i64 a2), .s (.int .i64 a3)])] = f134.step k (fun x => f134.w x some) xs1 a2 a3 := by kernel_rfl
theorem f134.hok (k : Nat) : HOK (f134.X k) (bodyOf Try.f134) where
  l := allP_mem (by exact ⟨ls_of (h0 := fun S => f134.l5.hd k S.ts S.m S.n) (by kernel_rfl) (f134.l5.all k), trivial⟩)
  j := allP_mem (by exact trivial)
theorem f134.sound0 (k : Nat) : SoundC env Try.prog 134 (f134.hd k) := by
  intro ps_
  show GoodC _ _ _ ps_ (f134.hd k ps_)
  unfold f134.hd
  refine gC_ok (p := GoodC env Try.prog 134 _) goodC_no fun _ _ h => ?_
  subst h
  refine qP_ok (p := GoodC env Try.prog 134 _) goodC_no fun _ h => ?_
  subst h
  refine gC_ok (p := GoodC env Try.prog 134 _) goodC_no fun _ _ h => ?_
  subst h
  refine qSl_ok (p := GoodC env Try.prog 134 _) goodC_no fun _ h => ?_
  subst h
  refine gC_ok (p := GoodC env Try.prog 134 _) goodC_no fun _ _ h => ?_
  subst h
  refine qS_ok (p := GoodC env Try.prog 134 _) goodC_no fun _ h => ?_
  subst h
  refine vI_ok (p := GoodC env Try.prog 134 _) goodC_no fun _ h => ?_
  subst h
  refine gC_ok (p := GoodC env Try.prog 134 _) goodC_no fun _ _ h => ?_
  subst h
  refine qS_ok (p := GoodC env Try.prog 134 _) goodC_no fun _ h => ?_
  subst h
  refine vI_ok (p := GoodC env Try.prog 134 _) goodC_no fun _ h => ?_
  subst h
  refine gE_ok (p := GoodC env Try.prog 134 _) goodC_no fun h => ?_
  subst h
  refine gE_ok (p := GoodC env Try.prog 134 _) goodC_no fun h => ?_
  subst h
  exact fun_good (fun_sound envOK (cs_sound _ (by exact ⟨⟨f145.sound k, f145.fnok⟩, ⟨f173.sound k, f173.fnok⟩, ⟨f174.sound k, f174.fnok⟩, trivial⟩)) (f134.hok k) Try.func134 rfl) ((f134.ev k _ _ _).trans (f134.nat k _ _ _ _))
theorem f134.sound (k : Nat) : SoundC env Try.prog 134 (f134.e k).F := soundC_coer (f134.sound0 k) [[.rd 5, .no, .no]]
theorem f134.says (k : Nat) (xs1 : List Int) (a2 : Int) (a3 : Int) (t20 : (List S104) × (List Int) × Int × Int) (h_ : f134 k xs1 a2 a3 = some t20) : SoundAt env Try.prog 134 [.v (.ptr [.sl 5 xs1, .s (.int .i64 a2), .s (.int .i64 a3)])] ⟨.v (.c (.imm 104 t20.1)), [[.sl 5 t20.2.1, .s (.int .i64 t20.2.2.1), .s (.int .i64 t20.2.2.2)]]⟩ :=
  fun_sound envOK (cs_sound _ (by exact ⟨⟨f145.sound k, f145.fnok⟩, ⟨f173.sound k, f173.fnok⟩, ⟨f174.sound k, f174.fnok⟩, trivial⟩)) (f134.hok k) Try.func134 rfl _ _ (((f134.ev k xs1 a2 a3).trans (f134.nat k _ xs1 a2 a3)).trans (by rw [h_]; rfl))
theorem f134.fnok : FnOK Try.prog 134 := fn_ok Try.func134 (by kernel_rfl) rfl
def f133.l8.step {R : Type} (k : Nat) (rec_ : (List S104) → Int → Int → (List S104) → ByteArray → ByteArray → Int → Int → Int → (List S211) → Option R) (ret : ((List S104) × Int × (List S104) × ByteArray × ByteArray × Int × Int × Int × (List S211)) → Option R) (xs5 : List S104) (a6 : Int) (a7 : Int) (xs8 : List S104) (s9 : ByteArray) (s10 : ByteArray) (a11 : Int) (a12 : Int) (a13 : Int) (xs14 : List S211) : Option R :=
  if (0 : Int) ≤ a6 then
    if a6 < ((List.length xs5 : Nat) : Int) then
      if (decide (a7 < (((List.length (List.getD xs5 (Int.toNat a6) (⟨ByteArray.empty, ByteArray.empty, (0 : Int), (0 : Int), (0 : Int), []⟩ : S104)).f5) : Nat) : Int))) = true then
        if (0 : Int) ≤ a6 then
          if a6 < ((List.length xs5 : Nat) : Int) then
            if (0 : Int) ≤ a7 then
              if a7 < ((List.length (List.getD xs5 (Int.toNat a6) (⟨ByteArray.empty, ByteArray.empty, (0 : Int), (0 : Int), (0 : Int), []⟩ : S104)).f5 : Nat) : Int) then
                if (List.length ([] : List Int) + List.length (List.getD (List.getD xs5 (Int.toNat a6) (⟨ByteArray.empty, ByteArray.empty, (0 : Int), (0 : Int), (0 : Int), []⟩ : S104)).f5 (Int.toNat a7) (⟨(0 : Int), false, []⟩ : S211)).f2) * 1 ≤ maxN then
                  if (List.length xs14 + List.length ([(⟨(List.getD (List.getD xs5 (Int.toNat a6) (⟨ByteArray.empty, ByteArray.empty, (0 : Int), (0 : Int), (0 : Int), []⟩ : S104)).f5 (Int.toNat a7) (⟨(0 : Int), false, []⟩ : S211)).f0, (List.getD (List.getD xs5 (Int.toNat a6) (⟨ByteArray.empty, ByteArray.empty, (0 : Int), (0 : Int), (0 : Int), []⟩ : S104)).f5 (Int.toNat a7) (⟨(0 : Int), false, []⟩ : S211)).f1, (([] : List Int) ++ (List.getD (List.getD xs5 (Int.toNat a6) (⟨ByteArray.empty, ByteArray.empty, (0 : Int), (0 : Int), (0 : Int), []⟩ : S104)).f5 (Int.toNat a7) (⟨(0 : Int), false, []⟩ : S211)).f2)⟩ : S211)] : List S211)) * 40 ≤ maxN then
                    rec_ xs5 a6 (IntKind.i64.wrap (a7 + (1 : Int))) xs8 s9 s10 a11 a12 a13 (xs14 ++ ([(⟨(List.getD (List.getD xs5 (Int.toNat a6) (⟨ByteArray.empty, ByteArray.empty, (0 : Int), (0 : Int), (0 : Int), []⟩ : S104)).f5 (Int.toNat a7) (⟨(0 : Int), false, []⟩ : S211)).f0, (List.getD (List.getD xs5 (Int.toNat a6) (⟨ByteArray.empty, ByteArray.empty, (0 : Int), (0 : Int), (0 : Int), []⟩ : S104)).f5 (Int.toNat a7) (⟨(0 : Int), false, []⟩ : S211)).f1, (([] : List Int) ++ (List.getD (List.getD xs5 (Int.toNat a6) (⟨ByteArray.empty, ByteArray.empty, (0 : Int), (0 : Int), (0 : Int), []⟩ : S104)).f5 (Int.toNat a7) (⟨(0 : Int), false, []⟩ : S211)).f2)⟩ : S211)] : List S211))
                  else none
                else none
              else none
            else none
          else none
        else none
      else
        ret (xs5, a6, xs8, s9, s10, a11, a12, a13, xs14)
    else none
  else none
def f133.l8 (k : Nat) : Nat → (List S104) → Int → Int → (List S104) → ByteArray → ByteArray → Int → Int → Int → (List S211) → Option ((List S104) × Int × (List S104) × ByteArray × ByteArray × Int × Int × Int × (List S211))
  | 0, _, _, _, _, _, _, _, _, _, _ => none
  | j + 1, xs5, a6, a7, xs8, s9, s10, a11, a12, a13, xs14 => f133.l8.step k (fun xs5 a6 a7 xs8 s9 s10 a11 a12 a13 xs14 => f133.l8 k j xs5 a6 a7 xs8 s9 s10 a11 a12 a13 xs14) some xs5 a6 a7 xs8 s9 s10 a11 a12 a13 xs14
def f133.l8.w {R : Type} : ((List S104) × Int × (List S104) × ByteArray × ByteArray × Int × Int × Int × (List S211)) → (Exit → St env → Option R) → Option R := fun t17 K => K (.exit 2) ⟨fullT [0, 3, 4, 5] 0 54 [.v (.c (.imm 104 t17.1)), .v (.c (.row 17)), .v (.c (.s (.int .i64 t17.2.1))), .v (.c (.bp 193 0))], [(17, .row true 104 t17.2.2.1), (193, .box [.s (.string t17.2.2.2.1), .s (.string t17.2.2.2.2.1), .s (.int .i64 t17.2.2.2.2.2.1), .s (.int .i64 t17.2.2.2.2.2.2.1), .s (.int .i64 t17.2.2.2.2.2.2.2.1), .row 273]), (273, .row true 211 t17.2.2.2.2.2.2.2.2)], 833⟩
def f133.l8.st (xs5 : List S104) (a6 : Int) (a7 : Int) (xs8 : List S104) (s9 : ByteArray) (s10 : ByteArray) (a11 : Int) (a12 : Int) (a13 : Int) (xs14 : List S211) : St env := ⟨fullT [0, 3, 4, 5, 6] 0 54 [.v (.c (.imm 104 xs5)), .v (.c (.row 17)), .v (.c (.s (.int .i64 a6))), .v (.c (.bp 193 0)), .v (.c (.s (.int .i64 a7)))], [(17, .row true 104 xs8), (193, .box [.s (.string s9), .s (.string s10), .s (.int .i64 a11), .s (.int .i64 a12), .s (.int .i64 a13), .row 273]), (273, .row true 211 xs14)], 289⟩
def f133.l3.step {R : Type} (k : Nat) (rec_ : (List S104) → Int → (List S104) → Option R) (ret : ((List S104)) → Option R) (xs2 : List S104) (a3 : Int) (xs4 : List S104) : Option R :=
  if (decide (a3 < (((List.length xs2) : Nat) : Int))) = true then
    if (0 : Int) ≤ a3 then
      if a3 < ((List.length xs2 : Nat) : Int) then
        (f133.l8 k k xs2 a3 (0 : Int) xs4 (List.getD xs2 (Int.toNat a3) (⟨ByteArray.empty, ByteArray.empty, (0 : Int), (0 : Int), (0 : Int), []⟩ : S104)).f0 (List.getD xs2 (Int.toNat a3) (⟨ByteArray.empty, ByteArray.empty, (0 : Int), (0 : Int), (0 : Int), []⟩ : S104)).f1 (List.getD xs2 (Int.toNat a3) (⟨ByteArray.empty, ByteArray.empty, (0 : Int), (0 : Int), (0 : Int), []⟩ : S104)).f2 (List.getD xs2 (Int.toNat a3) (⟨ByteArray.empty, ByteArray.empty, (0 : Int), (0 : Int), (0 : Int), []⟩ : S104)).f3 (List.getD xs2 (Int.toNat a3) (⟨ByteArray.empty, ByteArray.empty, (0 : Int), (0 : Int), (0 : Int), []⟩ : S104)).f4 ([] : List S211)).bind fun t15 => if (List.length t15.2.2.1 + List.length ([(⟨t15.2.2.2.1, t15.2.2.2.2.1, t15.2.2.2.2.2.1, t15.2.2.2.2.2.2.1, t15.2.2.2.2.2.2.2.1, t15.2.2.2.2.2.2.2.2⟩ : S104)] : List S104)) * 80 ≤ maxN then
            rec_ t15.1 (IntKind.i64.wrap (t15.2.1 + (1 : Int))) (t15.2.2.1 ++ ([(⟨t15.2.2.2.1, t15.2.2.2.2.1, t15.2.2.2.2.2.1, t15.2.2.2.2.2.2.1, t15.2.2.2.2.2.2.2.1, t15.2.2.2.2.2.2.2.2⟩ : S104)] : List S104))
          else none
      else none
    else none
  else
    ret xs4
def f133.l3 (k : Nat) : Nat → (List S104) → Int → (List S104) → Option ((List S104))
  | 0, _, _, _ => none
  | j + 1, xs2, a3, xs4 => f133.l3.step k (fun xs2 a3 xs4 => f133.l3 k j xs2 a3 xs4) some xs2 a3 xs4
def f133.l3.w {R : Type} : ((List S104)) → (Exit → St env → Option R) → Option R := fun t18 K => K (.exit 0) ⟨fullT [3] 0 54 [.v (.c (.row 17))], [(17, .row true 104 t18)], 961⟩
def f133.l3.st (xs2 : List S104) (a3 : Int) (xs4 : List S104) : St env := ⟨fullT [0, 3, 4] 0 54 [.v (.c (.imm 104 xs2)), .v (.c (.row 17)), .v (.c (.s (.int .i64 a3)))], [(17, .row true 104 xs4)], 65⟩
def f133.l8.hd (k : Nat) (ts_ : List (AV env)) (mm_ : Mem env) (n_ : Nat) : LCl env :=
  gTs LCl.no [0, 3, 4, 5, 6] 54 ts_ fun l_ => gV LCl.no l_ fun a_ l_ => rImm LCl.no 104 a_ fun xs5 => gV LCl.no l_ fun a_ l_ => rRow LCl.no 17 a_ <| gV LCl.no l_ fun a_ l_ => rV LCl.no a_ fun v_ => vI LCl.no .i64 v_ fun a6 => gV LCl.no l_ fun a_ l_ => rBp LCl.no 193 0 a_ <| gV LCl.no l_ fun a_ l_ => rV LCl.no a_ fun v_ => vI LCl.no .i64 v_ fun a7 => gE LCl.no l_ <| mRow LCl.no 17 true 104 mm_ fun xs8 m_ => mBox LCl.no 193 m_ fun c_ m_ => gC LCl.no c_ fun a_ c_ => rV LCl.no a_ fun v_ => vS LCl.no v_ fun s9 => gC LCl.no c_ fun a_ c_ => rV LCl.no a_ fun v_ => vS LCl.no v_ fun s10 => gC LCl.no c_ fun a_ c_ => rV LCl.no a_ fun v_ => vI LCl.no .i64 v_ fun a11 => gC LCl.no c_ fun a_ c_ => rV LCl.no a_ fun v_ => vI LCl.no .i64 v_ fun a12 => gC LCl.no c_ fun a_ c_ => rV LCl.no a_ fun v_ => vI LCl.no .i64 v_ fun a13 => gC LCl.no c_ fun a_ c_ => rRow LCl.no 273 a_ <| gE LCl.no c_ <| mRow LCl.no 273 true 211 m_ fun xs14 m_ => gE LCl.no m_ <| gN LCl.no 289 n_ { α := (List S104) × Int × (List S104) × ByteArray × ByteArray × Int × Int × Int × (List S211), o := f133.l8 k k xs5 a6 a7 xs8 s9 s10 a11 a12 a13 xs14, w := f133.l8.w }
def f133.l3.hd (k : Nat) (ts_ : List (AV env)) (mm_ : Mem env) (n_ : Nat) : LCl env :=
  gTs LCl.no [0, 3, 4] 54 ts_ fun l_ => gV LCl.no l_ fun a_ l_ => rImm LCl.no 104 a_ fun xs2 => gV LCl.no l_ fun a_ l_ => rRow LCl.no 17 a_ <| gV LCl.no l_ fun a_ l_ => rV LCl.no a_ fun v_ => vI LCl.no .i64 v_ fun a3 => gE LCl.no l_ <| mRow LCl.no 17 true 104 mm_ fun xs4 m_ => gE LCl.no m_ <| gN LCl.no 65 n_ { α := (List S104), o := f133.l3 k k xs2 a3 xs4, w := f133.l3.w }
def f133.step {R : Type} (k : Nat) (ret : ((List S104)) → Option R) (xs1 : List S104) : Option R :=
  (f133.l3 k k xs1 (0 : Int) ([] : List S104)).bind fun t16 => ret t16
def f133 (k : Nat) (xs1 : List S104) : Option ((List S104)) := f133.step k some xs1
def f133.w {R : Type} : ((List S104)) → (Res env → Option R) → Option R := fun t19 K => K ⟨.v (.c (.own true 104 t19)), [[]]⟩
theorem f133.wn (x : ((List S104))) : ∃ res, ∀ {R : Type} (K : Res env → Option R), f133.w x K = K res := by
  exact ⟨_, fun _ => rfl⟩
def f133.hd (k : Nat) (ps_ : List (P2 env)) : Cl env :=
  gC Cl.no ps_ fun p_ ps_ => qC Cl.no p_ fun c_ => qSl Cl.no 104 c_ fun xs1 => gE Cl.no ps_ <| { α := (List S104), o := f133 k xs1, w := f133.w, nat := fun x _ => f133.wn x }
def f133.e (k : Nat) : Entry env := ⟨fun ps => f133.hd k (coer [[.rd 104]] ps), [], []⟩
def f133.X (k : Nat) : Ctx env := { C := lookE [], L := lookE [(8, fun S => f133.l8.hd k S.ts S.m S.n), (3, fun S => f133.l3.hd k S.ts S.m S.n)], J := lookE [], keep := lookD [(8, [0, 3, 4, 5, 6]), (3, [0, 3, 4])], keepX := lookD [(8, [0, 3, 4, 5]), (3, [3])], span := lookN [(8, 544), (3, 896)], eff := fun n => memN n [], prep := lookP [(8, [.nilB 193 5 211])], np := 0 }
theorem f133.l8.nat {R : Type} (k : Nat) (rec_ : (List S104) → Int → Int → (List S104) → ByteArray → ByteArray → Int → Int → Int → (List S211) → Option ((List S104) × Int × (List S104) × ByteArray × ByteArray × Int × Int × Int × (List S211))) (g : ((List S104) × Int × (List S104) × ByteArray × ByteArray × Int × Int × Int × (List S211)) → Option R) (xs5 : List S104) (a6 : Int) (a7 : Int) (xs8 : List S104) (s9 : ByteArray) (s10 : ByteArray) (a11 : Int) (a12 : Int) (a13 : Int) (xs14 : List S211) : (f133.l8.step k rec_ some xs5 a6 a7 xs8 s9 s10 a11 a12 a13 xs14).bind g = f133.l8.step k (fun xs5 a6 a7 xs8 s9 s10 a11 a12 a13 xs14 => (rec_ xs5 a6 a7 xs8 s9 s10 a11 a12 a13 xs14).bind g) g xs5 a6 a7 xs8 s9 s10 a11 a12 a13 xs14 := by
  simp only [f133.l8.step, bind_ite, bind_sum, Option.bind_assoc, Option.bind_some, Option.bind_none]
theorem f133.l8.good (k : Nat) (xs5 : List S104) (a6 : Int) (a7 : Int) (xs8 : List S104) (s9 : ByteArray) (s10 : ByteArray) (a11 : Int) (a12 : Int) (a13 : Int) (xs14 : List S211) : GoodL (f133.X k) (nthC 1 (loopsOf (bodyOf Try.f133))) (f133.l8.st xs5 a6 a7 xs8 s9 s10 a11 a12 a13 xs14) { α := ((List S104) × Int × (List S104) × ByteArray × ByteArray × Int × Int × Int × (List S211)), o := f133.l8 k k xs5 a6 a7 xs8 s9 s10 a11 a12 a13 xs14, w := f133.l8.w } :=
  loop_good (ι := (List S104) × Int × Int × (List S104) × ByteArray × ByteArray × Int × Int × Int × (List S211)) (α := ((List S104) × Int × (List S104) × ByteArray × ByteArray × Int × Int × Int × (List S211))) (fun i => f133.l8.st i.1 i.2.1 i.2.2.1 i.2.2.2.1 i.2.2.2.2.1 i.2.2.2.2.2.1 i.2.2.2.2.2.2.1 i.2.2.2.2.2.2.2.1 i.2.2.2.2.2.2.2.2.1 i.2.2.2.2.2.2.2.2.2) (fun j i => f133.l8 k j i.1 i.2.1 i.2.2.1 i.2.2.2.1 i.2.2.2.2.1 i.2.2.2.2.2.1 i.2.2.2.2.2.2.1 i.2.2.2.2.2.2.2.1 i.2.2.2.2.2.2.2.2.1 i.2.2.2.2.2.2.2.2.2) f133.l8.w (fun rec_ ret i => f133.l8.step k (fun xs5 a6 a7 xs8 s9 s10 a11 a12 a13 xs14 => rec_ (xs5, a6, a7, xs8, s9, s10, a11, a12, a13, xs14)) ret i.1 i.2.1 i.2.2.1 i.2.2.2.1 i.2.2.2.2.1 i.2.2.2.2.2.1 i.2.2.2.2.2.2.1 i.2.2.2.2.2.2.2.1 i.2.2.2.2.2.2.2.2.1 i.2.2.2.2.2.2.2.2.2)
    (fun _ => rfl) (fun _ _ => rfl) (fun rec_ g i => f133.l8.nat k _ g i.1 i.2.1 i.2.2.1 i.2.2.2.1 i.2.2.2.2.1 i.2.2.2.2.2.1 i.2.2.2.2.2.2.1 i.2.2.2.2.2.2.2.1 i.2.2.2.2.2.2.2.2.1 i.2.2.2.2.2.2.2.2.2) (fun {R} i0 i rec_ K => by kernel_rfl) k (xs5, a6, a7, xs8, s9, s10, a11, a12, a13, xs14)
theorem f133.l8.all (k : Nat) (S : St env) : GoodL (f133.X k) (nthC 1 (loopsOf (bodyOf Try.f133))) S (f133.l8.hd k S.ts S.m S.n) := by
  obtain ⟨ts_, m_, n_⟩ := S
  show GoodL _ _ _ (f133.l8.hd k ts_ m_ n_)
  unfold f133.l8.hd
  refine gTs_ok (p := GoodL _ _ _) goodL_no fun _ h => ?_
  subst h
  refine gV_ok (p := GoodL _ _ _) goodL_no fun _ _ h => ?_
  subst h
  refine rImm_ok (p := GoodL _ _ _) goodL_no fun _ h => ?_
  subst h
  refine gV_ok (p := GoodL _ _ _) goodL_no fun _ _ h => ?_
  subst h
  refine rRow_ok (p := GoodL _ _ _) goodL_no fun h => ?_
  subst h
  refine gV_ok (p := GoodL _ _ _) goodL_no fun _ _ h => ?_
  subst h
  refine rV_ok (p := GoodL _ _ _) goodL_no fun _ h => ?_
  subst h
  refine vI_ok (p := GoodL _ _ _) goodL_no fun _ h => ?_
  subst h
  refine gV_ok (p := GoodL _ _ _) goodL_no fun _ _ h => ?_
  subst h
  refine rBp_ok (p := GoodL _ _ _) goodL_no fun h => ?_
  subst h
  refine gV_ok (p := GoodL _ _ _) goodL_no fun _ _ h => ?_
  subst h
  refine rV_ok (p := GoodL _ _ _) goodL_no fun _ h => ?_
  subst h
  refine vI_ok (p := GoodL _ _ _) goodL_no fun _ h => ?_
  subst h
  refine gE_ok (p := GoodL _ _ _) goodL_no fun h => ?_
  subst h
  refine mRow_ok (p := GoodL _ _ _) goodL_no fun _ _ h => ?_
  subst h
  refine mBox_ok (p := GoodL _ _ _) goodL_no fun _ _ h => ?_
  subst h
  refine gC_ok (p := GoodL _ _ _) goodL_no fun _ _ h => ?_
  subst h
  refine rV_ok (p := GoodL _ _ _) goodL_no fun _ h => ?_
  subst h
  refine vS_ok (p := GoodL _ _ _) goodL_no fun _ h => ?_
  subst h
  refine gC_ok (p := GoodL _ _ _) goodL_no fun _ _ h => ?_
  subst h
  refine rV_ok (p := GoodL _ _ _) goodL_no fun _ h => ?_
  subst h
  refine vS_ok (p := GoodL _ _ _) goodL_no fun _ h => ?_
  subst h
  refine gC_ok (p := GoodL _ _ _) goodL_no fun _ _ h => ?_
  subst h
  refine rV_ok (p := GoodL _ _ _) goodL_no fun _ h => ?_
  subst h
  refine vI_ok (p := GoodL _ _ _) goodL_no fun _ h => ?_
  subst h
  refine gC_ok (p := GoodL _ _ _) goodL_no fun _ _ h => ?_
  subst h
  refine rV_ok (p := GoodL _ _ _) goodL_no fun _ h => ?_
  subst h
  refine vI_ok (p := GoodL _ _ _) goodL_no fun _ h => ?_
  subst h
  refine gC_ok (p := GoodL _ _ _) goodL_no fun _ _ h => ?_
  subst h
  refine rV_ok (p := GoodL _ _ _) goodL_no fun _ h => ?_
  subst h
  refine vI_ok (p := GoodL _ _ _) goodL_no fun _ h => ?_
  subst h
  refine gC_ok (p := GoodL _ _ _) goodL_no fun _ _ h => ?_
  subst h
  refine rRow_ok (p := GoodL _ _ _) goodL_no fun h => ?_
  subst h
  refine gE_ok (p := GoodL _ _ _) goodL_no fun h => ?_
  subst h
  refine mRow_ok (p := GoodL _ _ _) goodL_no fun _ _ h => ?_
  subst h
  refine gE_ok (p := GoodL _ _ _) goodL_no fun h => ?_
  subst h
  refine gN_ok (p := GoodL _ _ _) goodL_no fun h => ?_
  subst h
  exact f133.l8.good k _ _ _ _ _ _ _ _ _ _
theorem f133.l3.nat {R : Type} (k : Nat) (rec_ : (List S104) → Int → (List S104) → Option ((List S104))) (g : ((List S104)) → Option R) (xs2 : List S104) (a3 : Int) (xs4 : List S104) : (f133.l3.step k rec_ some xs2 a3 xs4).bind g = f133.l3.step k (fun xs2 a3 xs4 => (rec_ xs2 a3 xs4).bind g) g xs2 a3 xs4 := by
  simp only [f133.l3.step, bind_ite, bind_sum, Option.bind_assoc, Option.bind_some, Option.bind_none]
theorem f133.l3.good (k : Nat) (xs2 : List S104) (a3 : Int) (xs4 : List S104) : GoodL (f133.X k) (nthC 0 (loopsOf (bodyOf Try.f133))) (f133.l3.st xs2 a3 xs4) { α := ((List S104)), o := f133.l3 k k xs2 a3 xs4, w := f133.l3.w } :=
  loop_good (ι := (List S104) × Int × (List S104)) (α := ((List S104))) (fun i => f133.l3.st i.1 i.2.1 i.2.2) (fun j i => f133.l3 k j i.1 i.2.1 i.2.2) f133.l3.w (fun rec_ ret i => f133.l3.step k (fun xs2 a3 xs4 => rec_ (xs2, a3, xs4)) ret i.1 i.2.1 i.2.2)
    (fun _ => rfl) (fun _ _ => rfl) (fun rec_ g i => f133.l3.nat k _ g i.1 i.2.1 i.2.2) (fun {R} i0 i rec_ K => by kernel_rfl) k (xs2, a3, xs4)
theorem f133.l3.all (k : Nat) (S : St env) : GoodL (f133.X k) (nthC 0 (loopsOf (bodyOf Try.f133))) S (f133.l3.hd k S.ts S.m S.n) := by
  obtain ⟨ts_, m_, n_⟩ := S
  show GoodL _ _ _ (f133.l3.hd k ts_ m_ n_)
  unfold f133.l3.hd
  refine gTs_ok (p := GoodL _ _ _) goodL_no fun _ h => ?_
  subst h
  refine gV_ok (p := GoodL _ _ _) goodL_no fun _ _ h => ?_
  subst h
  refine rImm_ok (p := GoodL _ _ _) goodL_no fun _ h => ?_
  subst h
  refine gV_ok (p := GoodL _ _ _) goodL_no fun _ _ h => ?_
  subst h
  refine rRow_ok (p := GoodL _ _ _) goodL_no fun h => ?_
  subst h
  refine gV_ok (p := GoodL _ _ _) goodL_no fun _ _ h => ?_
  subst h
  refine rV_ok (p := GoodL _ _ _) goodL_no fun _ h => ?_
  subst h
  refine vI_ok (p := GoodL _ _ _) goodL_no fun _ h => ?_
  subst h
  refine gE_ok (p := GoodL _ _ _) goodL_no fun h => ?_
  subst h
  refine mRow_ok (p := GoodL _ _ _) goodL_no fun _ _ h => ?_
  subst h
  refine gE_ok (p := GoodL _ _ _) goodL_no fun h => ?_
  subst h
  refine gN_ok (p := GoodL _ _ _) goodL_no fun h => ?_
  subst h
  exact f133.l3.good k _ _ _
theorem f133.nat {R : Type} (k : Nat) (g : ((List S104)) → Option R) (xs1 : List S104) : f133.step k g xs1 = (f133 k xs1).bind g := by
  simp only [f133, f133.step, bind_ite, bind_sum, Option.bind_assoc, Option.bind_some, Option.bind_none]
theorem f133.ev (k : Nat) (xs1 : List S104) : evF (f133.X k) (bodyOf Try.f133) Try.f133.ntmps Try.f133.results.toList [.v (.c (.sl 104 xs1))] = f133.step k (fun x => f133.w x some) xs1 := by kernel_rfl
theorem f133.hok (k : Nat) : HOK (f133.X k) (bodyOf Try.f133) where
  l := allP_mem (by exact ⟨ls_of (h0 := fun S => f133.l3.hd k S.ts S.m S.n) (by kernel_rfl) (f133.l3.all k), ls_of (h0 := fun S => f133.l8.hd k S.ts S.m S.n) (by kernel_rfl) (f133.l8.all k), trivial⟩)
  j := allP_mem (by exact trivial)
theorem f133.sound0 (k : Nat) : SoundC env Try.prog 133 (f133.hd k) := by
  intro ps_
  show GoodC _ _ _ ps_ (f133.hd k ps_)
  unfold f133.hd
  refine gC_ok (p := GoodC env Try.prog 133 _) goodC_no fun _ _ h => ?_
  subst h
  refine qC_ok (p := GoodC env Try.prog 133 _) goodC_no fun _ h => ?_
  subst h
  refine qSl_ok (p := GoodC env Try.prog 133 _) goodC_no fun _ h => ?_
  subst h
  refine gE_ok (p := GoodC env Try.prog 133 _) goodC_no fun h => ?_
  subst h
  exact fun_good (fun_sound envOK (cs_sound _ (by exact trivial)) (f133.hok k) Try.func133 rfl) ((f133.ev k _).trans (f133.nat k _ _))
theorem f133.sound (k : Nat) : SoundC env Try.prog 133 (f133.e k).F := soundC_coer (f133.sound0 k) [[.rd 104]]
theorem f133.says (k : Nat) (xs1 : List S104) (t20 : (List S104)) (h_ : f133 k xs1 = some t20) : SoundAt env Try.prog 133 [.v (.c (.sl 104 xs1))] ⟨.v (.c (.own true 104 t20)), [[]]⟩ :=
  fun_sound envOK (cs_sound _ (by exact trivial)) (f133.hok k) Try.func133 rfl _ _ (((f133.ev k xs1).trans (f133.nat k _ xs1)).trans (by rw [h_]; rfl))
theorem f133.fnok : FnOK Try.prog 133 := fn_ok Try.func133 (by kernel_rfl) rfl
def f68.step {R : Type} (k : Nat) (ret : ((List S104)) → Option R) (xs1 : List Int) : Option R :=
  (f81 k xs1).bind fun t2 => (f134 k t2.1 t2.2.1 t2.2.2).bind fun t3 => (f133 k t3.1).bind fun t4 => ret t4
def f68 (k : Nat) (xs1 : List Int) : Option ((List S104)) := f68.step k some xs1
def f68.w {R : Type} : ((List S104)) → (Res env → Option R) → Option R := fun t5 K => K ⟨.v (.c (.own true 104 t5)), [[]]⟩
theorem f68.wn (x : ((List S104))) : ∃ res, ∀ {R : Type} (K : Res env → Option R), f68.w x K = K res := by
  exact ⟨_, fun _ => rfl⟩
def f68.hd (k : Nat) (ps_ : List (P2 env)) : Cl env :=
  gC Cl.no ps_ fun p_ ps_ => qC Cl.no p_ fun c_ => qSl Cl.no 5 c_ fun xs1 => gE Cl.no ps_ <| { α := (List S104), o := f68 k xs1, w := f68.w, nat := fun x _ => f68.wn x }
def f68.e (k : Nat) : Entry env := ⟨fun ps => f68.hd k (coer [[.rd 5]] ps), [], []⟩
def f68.X (k : Nat) : Ctx env := { C := lookE [(81, f81.e k), (133, f133.e k), (134, f134.e k)], L := lookE [], J := lookE [], keep := lookD [], keepX := lookD [], span := lookN [], eff := fun n => memN n [], prep := lookP [], np := 0 }
theorem f68.nat {R : Type} (k : Nat) (g : ((List S104)) → Option R) (xs1 : List Int) : f68.step k g xs1 = (f68 k xs1).bind g := by
  simp only [f68, f68.step, bind_ite, bind_sum, Option.bind_assoc, Option.bind_some, Option.bind_none]
theorem f68.ev (k : Nat) (xs1 : List Int) : evF (f68.X k) (bodyOf Try.f68) Try.f68.ntmps Try.f68.results.toList [.v (.c (.sl 5 xs1))] = f68.step k (fun x => f68.w x some) xs1 := by kernel_rfl
theorem f68.hok (k : Nat) : HOK (f68.X k) (bodyOf Try.f68) where
  l := allP_mem (by exact trivial)
  j := allP_mem (by exact trivial)
theorem f68.sound0 (k : Nat) : SoundC env Try.prog 68 (f68.hd k) := by
  intro ps_
  show GoodC _ _ _ ps_ (f68.hd k ps_)
  unfold f68.hd
  refine gC_ok (p := GoodC env Try.prog 68 _) goodC_no fun _ _ h => ?_
  subst h
  refine qC_ok (p := GoodC env Try.prog 68 _) goodC_no fun _ h => ?_
  subst h
  refine qSl_ok (p := GoodC env Try.prog 68 _) goodC_no fun _ h => ?_
  subst h
  refine gE_ok (p := GoodC env Try.prog 68 _) goodC_no fun h => ?_
  subst h
  exact fun_good (fun_sound envOK (cs_sound _ (by exact ⟨⟨f81.sound k, f81.fnok⟩, ⟨f133.sound k, f133.fnok⟩, ⟨f134.sound k, f134.fnok⟩, trivial⟩)) (f68.hok k) Try.func68 rfl) ((f68.ev k _).trans (f68.nat k _ _))
theorem f68.sound (k : Nat) : SoundC env Try.prog 68 (f68.e k).F := soundC_coer (f68.sound0 k) [[.rd 5]]
theorem f68.says (k : Nat) (xs1 : List Int) (t6 : (List S104)) (h_ : f68 k xs1 = some t6) : SoundAt env Try.prog 68 [.v (.c (.sl 5 xs1))] ⟨.v (.c (.own true 104 t6)), [[]]⟩ :=
  fun_sound envOK (cs_sound _ (by exact ⟨⟨f81.sound k, f81.fnok⟩, ⟨f133.sound k, f133.fnok⟩, ⟨f134.sound k, f134.fnok⟩, trivial⟩)) (f68.hok k) Try.func68 rfl _ _ (((f68.ev k xs1).trans (f68.nat k _ xs1)).trans (by rw [h_]; rfl))
theorem f68.fnok : FnOK Try.prog 68 := fn_ok Try.func68 (by kernel_rfl) rfl
def f16.step {R : Type} (k : Nat) (ret : Int → Option R) (xs1 : List Int) (a2 : Int) (a3 : Int) : Option R :=
  if (decide (a3 ≤ (1 : Int))) = true then
    ret (0 : Int)
  else
    if (decide ((((List.length xs1) : Nat) : Int) = (0 : Int))) = true then
      if a3 ≠ 0 then
        ret (Int.tmod (IntKind.i64.wrap (a2 * (7 : Int))) a3)
      else none
    else
      if (((List.length xs1) : Nat) : Int) ≠ 0 then
        if (0 : Int) ≤ (Int.tmod a2 (((List.length xs1) : Nat) : Int)) then
          if (Int.tmod a2 (((List.length xs1) : Nat) : Int)) < ((List.length xs1 : Nat) : Int) then
            if (((List.length xs1) : Nat) : Int) ≠ 0 then
              if (0 : Int) ≤ (Int.tmod (IntKind.i64.wrap (a2 + (1 : Int))) (((List.length xs1) : Nat) : Int)) then
                if (Int.tmod (IntKind.i64.wrap (a2 + (1 : Int))) (((List.length xs1) : Nat) : Int)) < ((List.length xs1 : Nat) : Int) then
                  if (((List.length xs1) : Nat) : Int) ≠ 0 then
                    if a3 ≠ 0 then
                      ret (Int.tmod (IntKind.i64.wrap ((IntKind.i64.wrap ((IntKind.i64.wrap ((IntKind.i64.wrap (List.getD xs1 (Int.toNat (Int.tmod a2 (((List.length xs1) : Nat) : Int))) (0 : Int))) * (31 : Int))) + (IntKind.i64.wrap (List.getD xs1 (Int.toNat (Int.tmod (IntKind.i64.wrap (a2 + (1 : Int))) (((List.length xs1) : Nat) : Int))) (0 : Int))))) + (IntKind.i64.wrap (Int.tdiv a2 (((List.length xs1) : Nat) : Int))))) a3)
                    else none
                  else none
                else none
              else none
            else none
          else none
        else none
      else none
def f16 (k : Nat) (xs1 : List Int) (a2 : Int) (a3 : Int) : Option Int := f16.step k some xs1 a2 a3
def f16.w {R : Type} : Int → (Res env → Option R) → Option R := fun t4 K => K ⟨.v (.c (.s (.int .i64 t4))), [[], [], []]⟩
theorem f16.wn (x : Int) : ∃ res, ∀ {R : Type} (K : Res env → Option R), f16.w x K = K res := by
  exact ⟨_, fun _ => rfl⟩
def f16.hd (k : Nat) (ps_ : List (P2 env)) : Cl env :=
  gC Cl.no ps_ fun p_ ps_ => qC Cl.no p_ fun c_ => qSl Cl.no 5 c_ fun xs1 => gC Cl.no ps_ fun p_ ps_ => qC Cl.no p_ fun c_ => qS Cl.no c_ fun v_ => vI Cl.no .i64 v_ fun a2 => gC Cl.no ps_ fun p_ ps_ => qC Cl.no p_ fun c_ => qS Cl.no c_ fun v_ => vI Cl.no .i64 v_ fun a3 => gE Cl.no ps_ <| { α := Int, o := f16 k xs1 a2 a3, w := f16.w, nat := fun x _ => f16.wn x }
def f16.e (k : Nat) : Entry env := ⟨fun ps => f16.hd k (coer [[.rd 5], [.no], [.no]] ps), [], []⟩
def f16.X (k : Nat) : Ctx env := { C := lookE [], L := lookE [], J := lookE [], keep := lookD [], keepX := lookD [], span := lookN [], eff := fun n => memN n [], prep := lookP [], np := 0 }
theorem f16.nat {R : Type} (k : Nat) (g : Int → Option R) (xs1 : List Int) (a2 : Int) (a3 : Int) : f16.step k g xs1 a2 a3 = (f16 k xs1 a2 a3).bind g := by
  simp only [f16, f16.step, bind_ite, bind_sum, Option.bind_assoc, Option.bind_some, Option.bind_none]
theorem f16.ev (k : Nat) (xs1 : List Int) (a2 : Int) (a3 : Int) : evF (f16.X k) (bodyOf Try.f16) Try.f16.ntmps Try.f16.results.toList [.v (.c (.sl 5 xs1)), .v (.c (.s (.int .i64 a2))), .v (.c (.s (.int .i64 a3)))] = f16.step k (fun x => f16.w x some) xs1 a2 a3 := by kernel_rfl
theorem f16.hok (k : Nat) : HOK (f16.X k) (bodyOf Try.f16) where
  l := allP_mem (by exact trivial)
  j := allP_mem (by exact trivial)
theorem f16.sound0 (k : Nat) : SoundC env Try.prog 16 (f16.hd k) := by
  intro ps_
  show GoodC _ _ _ ps_ (f16.hd k ps_)
  unfold f16.hd
  refine gC_ok (p := GoodC env Try.prog 16 _) goodC_no fun _ _ h => ?_
  subst h
  refine qC_ok (p := GoodC env Try.prog 16 _) goodC_no fun _ h => ?_
  subst h
  refine qSl_ok (p := GoodC env Try.prog 16 _) goodC_no fun _ h => ?_
  subst h
  refine gC_ok (p := GoodC env Try.prog 16 _) goodC_no fun _ _ h => ?_
  subst h
  refine qC_ok (p := GoodC env Try.prog 16 _) goodC_no fun _ h => ?_
  subst h
  refine qS_ok (p := GoodC env Try.prog 16 _) goodC_no fun _ h => ?_
  subst h
  refine vI_ok (p := GoodC env Try.prog 16 _) goodC_no fun _ h => ?_
  subst h
  refine gC_ok (p := GoodC env Try.prog 16 _) goodC_no fun _ _ h => ?_
  subst h
  refine qC_ok (p := GoodC env Try.prog 16 _) goodC_no fun _ h => ?_
  subst h
  refine qS_ok (p := GoodC env Try.prog 16 _) goodC_no fun _ h => ?_
  subst h
  refine vI_ok (p := GoodC env Try.prog 16 _) goodC_no fun _ h => ?_
  subst h
  refine gE_ok (p := GoodC env Try.prog 16 _) goodC_no fun h => ?_
  subst h
  exact fun_good (fun_sound envOK (cs_sound _ (by exact trivial)) (f16.hok k) Try.func16 rfl) ((f16.ev k _ _ _).trans (f16.nat k _ _ _ _))
theorem f16.sound (k : Nat) : SoundC env Try.prog 16 (f16.e k).F := soundC_coer (f16.sound0 k) [[.rd 5], [.no], [.no]]
theorem f16.says (k : Nat) (xs1 : List Int) (a2 : Int) (a3 : Int) (t5 : Int) (h_ : f16 k xs1 a2 a3 = some t5) : SoundAt env Try.prog 16 [.v (.c (.sl 5 xs1)), .v (.c (.s (.int .i64 a2))), .v (.c (.s (.int .i64 a3)))] ⟨.v (.c (.s (.int .i64 t5))), [[], [], []]⟩ :=
  fun_sound envOK (cs_sound _ (by exact trivial)) (f16.hok k) Try.func16 rfl _ _ (((f16.ev k xs1 a2 a3).trans (f16.nat k _ xs1 a2 a3)).trans (by rw [h_]; rfl))
theorem f16.fnok : FnOK Try.prog 16 := fn_ok Try.func16 (by kernel_rfl) rfl
def f83.step {R : Type} (k : Nat) (ret : Bool → Option R) (a1 : Int) (a2 : Int) (a3 : Int) : Option R :=
  if (decide (a1 ≥ a2)) = true then
    ret (decide (a1 ≤ a3))
  else
    ret false
def f83 (k : Nat) (a1 : Int) (a2 : Int) (a3 : Int) : Option Bool := f83.step k some a1 a2 a3
def f83.w {R : Type} : Bool → (Res env → Option R) → Option R := fun t4 K => K ⟨.v (.c (.s (.bool t4))), [[], [], []]⟩
theorem f83.wn (x : Bool) : ∃ res, ∀ {R : Type} (K : Res env → Option R), f83.w x K = K res := by
  exact ⟨_, fun _ => rfl⟩
def f83.hd (k : Nat) (ps_ : List (P2 env)) : Cl env :=
  gC Cl.no ps_ fun p_ ps_ => qC Cl.no p_ fun c_ => qS Cl.no c_ fun v_ => vI Cl.no .i64 v_ fun a1 => gC Cl.no ps_ fun p_ ps_ => qC Cl.no p_ fun c_ => qS Cl.no c_ fun v_ => vI Cl.no .i64 v_ fun a2 => gC Cl.no ps_ fun p_ ps_ => qC Cl.no p_ fun c_ => qS Cl.no c_ fun v_ => vI Cl.no .i64 v_ fun a3 => gE Cl.no ps_ <| { α := Bool, o := f83 k a1 a2 a3, w := f83.w, nat := fun x _ => f83.wn x }
def f83.e (k : Nat) : Entry env := ⟨f83.hd k, [], []⟩
def f83.X (k : Nat) : Ctx env := { C := lookE [], L := lookE [], J := lookE [], keep := lookD [], keepX := lookD [], span := lookN [], eff := fun n => memN n [], prep := lookP [], np := 0 }
theorem f83.nat {R : Type} (k : Nat) (g : Bool → Option R) (a1 : Int) (a2 : Int) (a3 : Int) : f83.step k g a1 a2 a3 = (f83 k a1 a2 a3).bind g := by
  simp only [f83, f83.step, bind_ite, bind_sum, Option.bind_assoc, Option.bind_some, Option.bind_none]
theorem f83.ev (k : Nat) (a1 : Int) (a2 : Int) (a3 : Int) : evF (f83.X k) (bodyOf Try.f83) Try.f83.ntmps Try.f83.results.toList [.v (.c (.s (.int .i64 a1))), .v (.c (.s (.int .i64 a2))), .v (.c (.s (.int .i64 a3)))] = f83.step k (fun x => f83.w x some) a1 a2 a3 := by kernel_rfl
theorem f83.hok (k : Nat) : HOK (f83.X k) (bodyOf Try.f83) where
  l := allP_mem (by exact trivial)
  j := allP_mem (by exact trivial)
theorem f83.sound (k : Nat) : SoundC env Try.prog 83 ((f83.e k).F) := by
  intro ps_
  show GoodC _ _ _ ps_ (f83.hd k ps_)
  unfold f83.hd
  refine gC_ok (p := GoodC env Try.prog 83 _) goodC_no fun _ _ h => ?_
  subst h
  refine qC_ok (p := GoodC env Try.prog 83 _) goodC_no fun _ h => ?_
  subst h
  refine qS_ok (p := GoodC env Try.prog 83 _) goodC_no fun _ h => ?_
  subst h
  refine vI_ok (p := GoodC env Try.prog 83 _) goodC_no fun _ h => ?_
  subst h
  refine gC_ok (p := GoodC env Try.prog 83 _) goodC_no fun _ _ h => ?_
  subst h
  refine qC_ok (p := GoodC env Try.prog 83 _) goodC_no fun _ h => ?_
  subst h
  refine qS_ok (p := GoodC env Try.prog 83 _) goodC_no fun _ h => ?_
  subst h
  refine vI_ok (p := GoodC env Try.prog 83 _) goodC_no fun _ h => ?_
  subst h
  refine gC_ok (p := GoodC env Try.prog 83 _) goodC_no fun _ _ h => ?_
  subst h
  refine qC_ok (p := GoodC env Try.prog 83 _) goodC_no fun _ h => ?_
  subst h
  refine qS_ok (p := GoodC env Try.prog 83 _) goodC_no fun _ h => ?_
  subst h
  refine vI_ok (p := GoodC env Try.prog 83 _) goodC_no fun _ h => ?_
  subst h
  refine gE_ok (p := GoodC env Try.prog 83 _) goodC_no fun h => ?_
  subst h
  exact fun_good (fun_sound envOK (cs_sound _ (by exact trivial)) (f83.hok k) Try.func83 rfl) ((f83.ev k _ _ _).trans (f83.nat k _ _ _ _))
theorem f83.says (k : Nat) (a1 : Int) (a2 : Int) (a3 : Int) (t5 : Bool) (h_ : f83 k a1 a2 a3 = some t5) : SoundAt env Try.prog 83 [.v (.c (.s (.int .i64 a1))), .v (.c (.s (.int .i64 a2))), .v (.c (.s (.int .i64 a3)))] ⟨.v (.c (.s (.bool t5))), [[], [], []]⟩ :=
  fun_sound envOK (cs_sound _ (by exact trivial)) (f83.hok k) Try.func83 rfl _ _ (((f83.ev k a1 a2 a3).trans (f83.nat k _ a1 a2 a3)).trans (by rw [h_]; rfl))
theorem f83.fnok : FnOK Try.prog 83 := fn_ok Try.func83 (by kernel_rfl) rfl
def f196.step {R : Type} (k : Nat) (ret : Bool → Option R) (a1 : Int) (b2 : Bool) (xs3 : List Int) : Option R :=
  (f83 k a1 (0 : Int) (65515 : Int)).bind fun t4 => if (!t4) = false then
      if (decide ((Int.tmod a1 (8 : Int)) ≠ (0 : Int))) = false then
        if (decide ((((List.length xs3) : Nat) : Int) > (1500 : Int))) = false then
          if (decide ((IntKind.i64.wrap (a1 + (((List.length xs3) : Nat) : Int))) > (65515 : Int))) = true then
            ret false
          else
            if b2 = false then
              if (decide ((((List.length xs3) : Nat) : Int) > (0 : Int))) = true then
                ret (decide ((Int.tmod (((List.length xs3) : Nat) : Int) (8 : Int)) = (0 : Int)))
              else
                ret false
            else
              ret true
        else
          ret false
      else
        ret false
    else
      ret false
def f196 (k : Nat) (a1 : Int) (b2 : Bool) (xs3 : List Int) : Option Bool := f196.step k some a1 b2 xs3
def f196.w {R : Type} : Bool → (Res env → Option R) → Option R := fun t5 K => K ⟨.v (.c (.s (.bool t5))), [[]]⟩
theorem f196.wn (x : Bool) : ∃ res, ∀ {R : Type} (K : Res env → Option R), f196.w x K = K res := by
  exact ⟨_, fun _ => rfl⟩
def f196.hd (k : Nat) (ps_ : List (P2 env)) : Cl env :=
  gC Cl.no ps_ fun p_ ps_ => qG Cl.no p_ fun cs_ => gC Cl.no cs_ fun c_ cs_ => qS Cl.no c_ fun v_ => vI Cl.no .i64 v_ fun a1 => gC Cl.no cs_ fun c_ cs_ => qS Cl.no c_ fun v_ => vB Cl.no v_ fun b2 => gC Cl.no cs_ fun c_ cs_ => qSl Cl.no 5 c_ fun xs3 => gE Cl.no cs_ <| gE Cl.no ps_ <| { α := Bool, o := f196 k a1 b2 xs3, w := f196.w, nat := fun x _ => f196.wn x }
def f196.e (k : Nat) : Entry env := ⟨fun ps => f196.hd k (coer [[.no, .no, .rd 5]] ps), [], []⟩
def f196.X (k : Nat) : Ctx env := { C := lookE [(83, f83.e k)], L := lookE [], J := lookE [], keep := lookD [], keepX := lookD [], span := lookN [], eff := fun n => memN n [], prep := lookP [], np := 0 }
theorem f196.nat {R : Type} (k : Nat) (g : Bool → Option R) (a1 : Int) (b2 : Bool) (xs3 : List Int) : f196.step k g a1 b2 xs3 = (f196 k a1 b2 xs3).bind g := by
  simp only [f196, f196.step, bind_ite, bind_sum, Option.bind_assoc, Option.bind_some, Option.bind_none]
theorem f196.ev (k : Nat) (a1 : Int) (b2 : Bool) (xs3 : List Int) : evF (f196.X k) (bodyOf Try.f196) Try.f196.ntmps Try.f196.results.toList [.g [.s (.int .i64 a1), .s (.bool b2), .sl 5 xs3]] = f196.step k (fun x => f196.w x some) a1 b2 xs3 := by kernel_rfl
theorem f196.hok (k : Nat) : HOK (f196.X k) (bodyOf Try.f196) where
  l := allP_mem (by exact trivial)
  j := allP_mem (by exact trivial)
theorem f196.sound0 (k : Nat) : SoundC env Try.prog 196 (f196.hd k) := by
  intro ps_
  show GoodC _ _ _ ps_ (f196.hd k ps_)
  unfold f196.hd
  refine gC_ok (p := GoodC env Try.prog 196 _) goodC_no fun _ _ h => ?_
  subst h
  refine qG_ok (p := GoodC env Try.prog 196 _) goodC_no fun _ h => ?_
  subst h
  refine gC_ok (p := GoodC env Try.prog 196 _) goodC_no fun _ _ h => ?_
  subst h
  refine qS_ok (p := GoodC env Try.prog 196 _) goodC_no fun _ h => ?_
  subst h
  refine vI_ok (p := GoodC env Try.prog 196 _) goodC_no fun _ h => ?_
  subst h
  refine gC_ok (p := GoodC env Try.prog 196 _) goodC_no fun _ _ h => ?_
  subst h
  refine qS_ok (p := GoodC env Try.prog 196 _) goodC_no fun _ h => ?_
  subst h
  refine vB_ok (p := GoodC env Try.prog 196 _) goodC_no fun _ h => ?_
  subst h
  refine gC_ok (p := GoodC env Try.prog 196 _) goodC_no fun _ _ h => ?_
  subst h
  refine qSl_ok (p := GoodC env Try.prog 196 _) goodC_no fun _ h => ?_
  subst h
  refine gE_ok (p := GoodC env Try.prog 196 _) goodC_no fun h => ?_
  subst h
  refine gE_ok (p := GoodC env Try.prog 196 _) goodC_no fun h => ?_
  subst h
  exact fun_good (fun_sound envOK (cs_sound _ (by exact ⟨⟨f83.sound k, f83.fnok⟩, trivial⟩)) (f196.hok k) Try.func196 rfl) ((f196.ev k _ _ _).trans (f196.nat k _ _ _ _))
theorem f196.sound (k : Nat) : SoundC env Try.prog 196 (f196.e k).F := soundC_coer (f196.sound0 k) [[.no, .no, .rd 5]]
theorem f196.says (k : Nat) (a1 : Int) (b2 : Bool) (xs3 : List Int) (t6 : Bool) (h_ : f196 k a1 b2 xs3 = some t6) : SoundAt env Try.prog 196 [.g [.s (.int .i64 a1), .s (.bool b2), .sl 5 xs3]] ⟨.v (.c (.s (.bool t6))), [[]]⟩ :=
  fun_sound envOK (cs_sound _ (by exact ⟨⟨f83.sound k, f83.fnok⟩, trivial⟩)) (f196.hok k) Try.func196 rfl _ _ (((f196.ev k a1 b2 xs3).trans (f196.nat k _ a1 b2 xs3)).trans (by rw [h_]; rfl))
theorem f196.fnok : FnOK Try.prog 196 := fn_ok Try.func196 (by kernel_rfl) rfl
def f197.step {R : Type} (k : Nat) (ret : Bool → Option R) (a1 : Int) (b2 : Bool) (xs3 : List Int) (a4 : Int) (b5 : Bool) (xs6 : List Int) : Option R :=
  if (decide (a1 < (IntKind.i64.wrap (a4 + (((List.length xs6) : Nat) : Int))))) = true then
    ret (decide (a4 < (IntKind.i64.wrap (a1 + (((List.length xs3) : Nat) : Int)))))
  else
    ret false
def f197 (k : Nat) (a1 : Int) (b2 : Bool) (xs3 : List Int) (a4 : Int) (b5 : Bool) (xs6 : List Int) : Option Bool := f197.step k some a1 b2 xs3 a4 b5 xs6
def f197.w {R : Type} : Bool → (Res env → Option R) → Option R := fun t7 K => K ⟨.v (.c (.s (.bool t7))), [[], []]⟩
theorem f197.wn (x : Bool) : ∃ res, ∀ {R : Type} (K : Res env → Option R), f197.w x K = K res := by
  exact ⟨_, fun _ => rfl⟩
def f197.hd (k : Nat) (ps_ : List (P2 env)) : Cl env :=
  gC Cl.no ps_ fun p_ ps_ => qG Cl.no p_ fun cs_ => gC Cl.no cs_ fun c_ cs_ => qS Cl.no c_ fun v_ => vI Cl.no .i64 v_ fun a1 => gC Cl.no cs_ fun c_ cs_ => qS Cl.no c_ fun v_ => vB Cl.no v_ fun b2 => gC Cl.no cs_ fun c_ cs_ => qSl Cl.no 5 c_ fun xs3 => gE Cl.no cs_ <| gC Cl.no ps_ fun p_ ps_ => qG Cl.no p_ fun cs_ => gC Cl.no cs_ fun c_ cs_ => qS Cl.no c_ fun v_ => vI Cl.no .i64 v_ fun a4 => gC Cl.no cs_ fun c_ cs_ => qS Cl.no c_ fun v_ => vB Cl.no v_ fun b5 => gC Cl.no cs_ fun c_ cs_ => qSl Cl.no 5 c_ fun xs6 => gE Cl.no cs_ <| gE Cl.no ps_ <| { α := Bool, o := f197 k a1 b2 xs3 a4 b5 xs6, w := f197.w, nat := fun x _ => f197.wn x }
def f197.e (k : Nat) : Entry env := ⟨fun ps => f197.hd k (coer [[.no, .no, .rd 5], [.no, .no, .rd 5]] ps), [], []⟩
def f197.X (k : Nat) : Ctx env := { C := lookE [], L := lookE [], J := lookE [], keep := lookD [], keepX := lookD [], span := lookN [], eff := fun n => memN n [], prep := lookP [], np := 0 }
theorem f197.nat {R : Type} (k : Nat) (g : Bool → Option R) (a1 : Int) (b2 : Bool) (xs3 : List Int) (a4 : Int) (b5 : Bool) (xs6 : List Int) : f197.step k g a1 b2 xs3 a4 b5 xs6 = (f197 k a1 b2 xs3 a4 b5 xs6).bind g := by
  simp only [f197, f197.step, bind_ite, bind_sum, Option.bind_assoc, Option.bind_some, Option.bind_none]
theorem f197.ev (k : Nat) (a1 : Int) (b2 : Bool) (xs3 : List Int) (a4 : Int) (b5 : Bool) (xs6 : List Int) : evF (f197.X k) (bodyOf Try.f197) Try.f197.ntmps Try.f197.results.toList [.g [.s (.int .i64 a1), .s (.bool b2), .sl 5 xs3], .g [.s (.int .i64 a4), .s (.bool b5), .sl 5 xs6]] = f197.step k (fun x => f197.w x some) a1 b2 xs3 a4 b5 xs6 := by kernel_rfl
theorem f197.hok (k : Nat) : HOK (f197.X k) (bodyOf Try.f197) where
  l := allP_mem (by exact trivial)
  j := allP_mem (by exact trivial)
theorem f197.sound0 (k : Nat) : SoundC env Try.prog 197 (f197.hd k) := by
  intro ps_
  show GoodC _ _ _ ps_ (f197.hd k ps_)
  unfold f197.hd
  refine gC_ok (p := GoodC env Try.prog 197 _) goodC_no fun _ _ h => ?_
  subst h
  refine qG_ok (p := GoodC env Try.prog 197 _) goodC_no fun _ h => ?_
  subst h
  refine gC_ok (p := GoodC env Try.prog 197 _) goodC_no fun _ _ h => ?_
  subst h
  refine qS_ok (p := GoodC env Try.prog 197 _) goodC_no fun _ h => ?_
  subst h
  refine vI_ok (p := GoodC env Try.prog 197 _) goodC_no fun _ h => ?_
  subst h
  refine gC_ok (p := GoodC env Try.prog 197 _) goodC_no fun _ _ h => ?_
  subst h
  refine qS_ok (p := GoodC env Try.prog 197 _) goodC_no fun _ h => ?_
  subst h
  refine vB_ok (p := GoodC env Try.prog 197 _) goodC_no fun _ h => ?_
  subst h
  refine gC_ok (p := GoodC env Try.prog 197 _) goodC_no fun _ _ h => ?_
  subst h
  refine qSl_ok (p := GoodC env Try.prog 197 _) goodC_no fun _ h => ?_
  subst h
  refine gE_ok (p := GoodC env Try.prog 197 _) goodC_no fun h => ?_
  subst h
  refine gC_ok (p := GoodC env Try.prog 197 _) goodC_no fun _ _ h => ?_
  subst h
  refine qG_ok (p := GoodC env Try.prog 197 _) goodC_no fun _ h => ?_
  subst h
  refine gC_ok (p := GoodC env Try.prog 197 _) goodC_no fun _ _ h => ?_
  subst h
  refine qS_ok (p := GoodC env Try.prog 197 _) goodC_no fun _ h => ?_
  subst h
  refine vI_ok (p := GoodC env Try.prog 197 _) goodC_no fun _ h => ?_
  subst h
  refine gC_ok (p := GoodC env Try.prog 197 _) goodC_no fun _ _ h => ?_
  subst h
  refine qS_ok (p := GoodC env Try.prog 197 _) goodC_no fun _ h => ?_
  subst h
  refine vB_ok (p := GoodC env Try.prog 197 _) goodC_no fun _ h => ?_
  subst h
  refine gC_ok (p := GoodC env Try.prog 197 _) goodC_no fun _ _ h => ?_
  subst h
  refine qSl_ok (p := GoodC env Try.prog 197 _) goodC_no fun _ h => ?_
  subst h
  refine gE_ok (p := GoodC env Try.prog 197 _) goodC_no fun h => ?_
  subst h
  refine gE_ok (p := GoodC env Try.prog 197 _) goodC_no fun h => ?_
  subst h
  exact fun_good (fun_sound envOK (cs_sound _ (by exact trivial)) (f197.hok k) Try.func197 rfl) ((f197.ev k _ _ _ _ _ _).trans (f197.nat k _ _ _ _ _ _ _))
theorem f197.sound (k : Nat) : SoundC env Try.prog 197 (f197.e k).F := soundC_coer (f197.sound0 k) [[.no, .no, .rd 5], [.no, .no, .rd 5]]
theorem f197.says (k : Nat) (a1 : Int) (b2 : Bool) (xs3 : List Int) (a4 : Int) (b5 : Bool) (xs6 : List Int) (t8 : Bool) (h_ : f197 k a1 b2 xs3 a4 b5 xs6 = some t8) : SoundAt env Try.prog 197 [.g [.s (.int .i64 a1), .s (.bool b2), .sl 5 xs3], .g [.s (.int .i64 a4), .s (.bool b5), .sl 5 xs6]] ⟨.v (.c (.s (.bool t8))), [[], []]⟩ :=
  fun_sound envOK (cs_sound _ (by exact trivial)) (f197.hok k) Try.func197 rfl _ _ (((f197.ev k a1 b2 xs3 a4 b5 xs6).trans (f197.nat k _ a1 b2 xs3 a4 b5 xs6)).trans (by rw [h_]; rfl))
theorem f197.fnok : FnOK Try.prog 197 := fn_ok Try.func197 (by kernel_rfl) rfl
def f198.l3.step {R : Type} (k : Nat) (rec_ : (List S211) → Int → (List S211) → Int → Int → Option R) (ret : (((List S211) × Bool) ⊕ ((List S211))) → Option R) (xs2 : List S211) (a3 : Int) (xs4 : List S211) (a5 : Int) (a6 : Int) : Option R :=
  if (decide (a6 < a5)) = true then
    if (0 : Int) ≤ a6 then
      if a6 < ((List.length xs4 : Nat) : Int) then
        if (decide ((List.getD xs4 (Int.toNat a6) (⟨(0 : Int), false, []⟩ : S211)).f0 ≠ a3)) = true then
          ret (.inl (xs2, false))
        else
          rec_ xs2 (IntKind.i64.wrap (a3 + (((List.length (List.getD xs4 (Int.toNat a6) (⟨(0 : Int), false, []⟩ : S211)).f2) : Nat) : Int))) xs4 a5 (IntKind.i64.wrap (a6 + (1 : Int)))
      else none
    else none
  else
    ret (.inr xs2)
def f198.l3 (k : Nat) : Nat → (List S211) → Int → (List S211) → Int → Int → Option (((List S211) × Bool) ⊕ ((List S211)))
  | 0, _, _, _, _, _ => none
  | j + 1, xs2, a3, xs4, a5, a6 => f198.l3.step k (fun xs2 a3 xs4 a5 a6 => f198.l3 k j xs2 a3 xs4 a5 a6) some xs2 a3 xs4 a5 a6
def f198.l3.w {R : Type} : (((List S211) × Bool) ⊕ ((List S211))) → (Exit → St env → Option R) → Option R := fun x K => Sum.elim (fun t9 => K .ret ⟨fullT [0, 2] 0 34 [.v (.c (.imm 211 t9.1)), .v (.c (.s (.bool t9.2)))], [], 369⟩) (fun t10 => K (.exit 0) ⟨fullT [0] 0 34 [.v (.c (.imm 211 t10))], [], 369⟩) x
def f198.l3.st (xs2 : List S211) (a3 : Int) (xs4 : List S211) (a5 : Int) (a6 : Int) : St env := ⟨fullT [0, 3, 6, 7, 8] 0 34 [.v (.c (.imm 211 xs2)), .v (.c (.s (.int .i64 a3))), .v (.c (.imm 211 xs4)), .v (.c (.s (.int .i64 a5))), .v (.c (.s (.int .i64 a6)))], [], 81⟩
def f198.l3.hd (k : Nat) (ts_ : List (AV env)) (mm_ : Mem env) (n_ : Nat) : LCl env :=
  gTs LCl.no [0, 3, 6, 7, 8] 34 ts_ fun l_ => gV LCl.no l_ fun a_ l_ => rImm LCl.no 211 a_ fun xs2 => gV LCl.no l_ fun a_ l_ => rV LCl.no a_ fun v_ => vI LCl.no .i64 v_ fun a3 => gV LCl.no l_ fun a_ l_ => rImm LCl.no 211 a_ fun xs4 => gV LCl.no l_ fun a_ l_ => rV LCl.no a_ fun v_ => vI LCl.no .i64 v_ fun a5 => gV LCl.no l_ fun a_ l_ => rV LCl.no a_ fun v_ => vI LCl.no .i64 v_ fun a6 => gE LCl.no l_ <| gE LCl.no mm_ <| gN LCl.no 81 n_ { α := ((List S211) × Bool) ⊕ ((List S211)), o := f198.l3 k k xs2 a3 xs4 a5 a6, w := f198.l3.w }
def f198.step {R : Type} (k : Nat) (ret : Bool → Option R) (xs1 : List S211) : Option R :=
  (f198.l3 k k xs1 (0 : Int) xs1 (((List.length xs1) : Nat) : Int) (0 : Int)).bind (Sum.elim (fun t7 => ret t7.2) (fun t8 => if (decide ((((List.length t8) : Nat) : Int) > (0 : Int))) = true then
      if (0 : Int) ≤ (IntKind.i64.wrap ((((List.length t8) : Nat) : Int) - (1 : Int))) then
        if (IntKind.i64.wrap ((((List.length t8) : Nat) : Int) - (1 : Int))) < ((List.length t8 : Nat) : Int) then
          ret (List.getD t8 (Int.toNat (IntKind.i64.wrap ((((List.length t8) : Nat) : Int) - (1 : Int)))) (⟨(0 : Int), false, []⟩ : S211)).f1
        else none
      else none
    else
      ret false))
def f198 (k : Nat) (xs1 : List S211) : Option Bool := f198.step k some xs1
def f198.w {R : Type} : Bool → (Res env → Option R) → Option R := fun t11 K => K ⟨.v (.c (.s (.bool t11))), [[]]⟩
theorem f198.wn (x : Bool) : ∃ res, ∀ {R : Type} (K : Res env → Option R), f198.w x K = K res := by
  exact ⟨_, fun _ => rfl⟩
def f198.hd (k : Nat) (ps_ : List (P2 env)) : Cl env :=
  gC Cl.no ps_ fun p_ ps_ => qC Cl.no p_ fun c_ => qSl Cl.no 211 c_ fun xs1 => gE Cl.no ps_ <| { α := Bool, o := f198 k xs1, w := f198.w, nat := fun x _ => f198.wn x }
def f198.e (k : Nat) : Entry env := ⟨fun ps => f198.hd k (coer [[.rd 211]] ps), [], []⟩
def f198.X (k : Nat) : Ctx env := { C := lookE [], L := lookE [(3, fun S => f198.l3.hd k S.ts S.m S.n)], J := lookE [], keep := lookD [(3, [0, 3, 6, 7, 8])], keepX := lookD [(3, [0, 2])], span := lookN [(3, 288)], eff := fun n => memN n [], prep := lookP [], np := 0 }
theorem f198.l3.nat {R : Type} (k : Nat) (rec_ : (List S211) → Int → (List S211) → Int → Int → Option (((List S211) × Bool) ⊕ ((List S211)))) (g : (((List S211) × Bool) ⊕ ((List S211))) → Option R) (xs2 : List S211) (a3 : Int) (xs4 : List S211) (a5 : Int) (a6 : Int) : (f198.l3.step k rec_ some xs2 a3 xs4 a5 a6).bind g = f198.l3.step k (fun xs2 a3 xs4 a5 a6 => (rec_ xs2 a3 xs4 a5 a6).bind g) g xs2 a3 xs4 a5 a6 := by
  simp only [f198.l3.step, bind_ite, bind_sum, Option.bind_assoc, Option.bind_some, Option.bind_none]
theorem f198.l3.good (k : Nat) (xs2 : List S211) (a3 : Int) (xs4 : List S211) (a5 : Int) (a6 : Int) : GoodL (f198.X k) (nthC 0 (loopsOf (bodyOf Try.f198))) (f198.l3.st xs2 a3 xs4 a5 a6) { α := (((List S211) × Bool) ⊕ ((List S211))), o := f198.l3 k k xs2 a3 xs4 a5 a6, w := f198.l3.w } :=
  loop_good (ι := (List S211) × Int × (List S211) × Int × Int) (α := (((List S211) × Bool) ⊕ ((List S211)))) (fun i => f198.l3.st i.1 i.2.1 i.2.2.1 i.2.2.2.1 i.2.2.2.2) (fun j i => f198.l3 k j i.1 i.2.1 i.2.2.1 i.2.2.2.1 i.2.2.2.2) f198.l3.w (fun rec_ ret i => f198.l3.step k (fun xs2 a3 xs4 a5 a6 => rec_ (xs2, a3, xs4, a5, a6)) ret i.1 i.2.1 i.2.2.1 i.2.2.2.1 i.2.2.2.2)
    (fun _ => rfl) (fun _ _ => rfl) (fun rec_ g i => f198.l3.nat k _ g i.1 i.2.1 i.2.2.1 i.2.2.2.1 i.2.2.2.2) (fun {R} i0 i rec_ K => by kernel_rfl) k (xs2, a3, xs4, a5, a6)
theorem f198.l3.all (k : Nat) (S : St env) : GoodL (f198.X k) (nthC 0 (loopsOf (bodyOf Try.f198))) S (f198.l3.hd k S.ts S.m S.n) := by
  obtain ⟨ts_, m_, n_⟩ := S
  show GoodL _ _ _ (f198.l3.hd k ts_ m_ n_)
  unfold f198.l3.hd
  refine gTs_ok (p := GoodL _ _ _) goodL_no fun _ h => ?_
  subst h
  refine gV_ok (p := GoodL _ _ _) goodL_no fun _ _ h => ?_
  subst h
  refine rImm_ok (p := GoodL _ _ _) goodL_no fun _ h => ?_
  subst h
  refine gV_ok (p := GoodL _ _ _) goodL_no fun _ _ h => ?_
  subst h
  refine rV_ok (p := GoodL _ _ _) goodL_no fun _ h => ?_
  subst h
  refine vI_ok (p := GoodL _ _ _) goodL_no fun _ h => ?_
  subst h
  refine gV_ok (p := GoodL _ _ _) goodL_no fun _ _ h => ?_
  subst h
  refine rImm_ok (p := GoodL _ _ _) goodL_no fun _ h => ?_
  subst h
  refine gV_ok (p := GoodL _ _ _) goodL_no fun _ _ h => ?_
  subst h
  refine rV_ok (p := GoodL _ _ _) goodL_no fun _ h => ?_
  subst h
  refine vI_ok (p := GoodL _ _ _) goodL_no fun _ h => ?_
  subst h
  refine gV_ok (p := GoodL _ _ _) goodL_no fun _ _ h => ?_
  subst h
  refine rV_ok (p := GoodL _ _ _) goodL_no fun _ h => ?_
  subst h
  refine vI_ok (p := GoodL _ _ _) goodL_no fun _ h => ?_
  subst h
  refine gE_ok (p := GoodL _ _ _) goodL_no fun h => ?_
  subst h
  refine gE_ok (p := GoodL _ _ _) goodL_no fun h => ?_
  subst h
  refine gN_ok (p := GoodL _ _ _) goodL_no fun h => ?_
  subst h
  exact f198.l3.good k _ _ _ _ _
theorem f198.nat {R : Type} (k : Nat) (g : Bool → Option R) (xs1 : List S211) : f198.step k g xs1 = (f198 k xs1).bind g := by
  simp only [f198, f198.step, bind_ite, bind_sum, Option.bind_assoc, Option.bind_some, Option.bind_none]
theorem f198.ev (k : Nat) (xs1 : List S211) : evF (f198.X k) (bodyOf Try.f198) Try.f198.ntmps Try.f198.results.toList [.v (.c (.sl 211 xs1))] = f198.step k (fun x => f198.w x some) xs1 := by kernel_rfl
theorem f198.hok (k : Nat) : HOK (f198.X k) (bodyOf Try.f198) where
  l := allP_mem (by exact ⟨ls_of (h0 := fun S => f198.l3.hd k S.ts S.m S.n) (by kernel_rfl) (f198.l3.all k), trivial⟩)
  j := allP_mem (by exact trivial)
theorem f198.sound0 (k : Nat) : SoundC env Try.prog 198 (f198.hd k) := by
  intro ps_
  show GoodC _ _ _ ps_ (f198.hd k ps_)
  unfold f198.hd
  refine gC_ok (p := GoodC env Try.prog 198 _) goodC_no fun _ _ h => ?_
  subst h
  refine qC_ok (p := GoodC env Try.prog 198 _) goodC_no fun _ h => ?_
  subst h
  refine qSl_ok (p := GoodC env Try.prog 198 _) goodC_no fun _ h => ?_
  subst h
  refine gE_ok (p := GoodC env Try.prog 198 _) goodC_no fun h => ?_
  subst h
  exact fun_good (fun_sound envOK (cs_sound _ (by exact trivial)) (f198.hok k) Try.func198 rfl) ((f198.ev k _).trans (f198.nat k _ _))
theorem f198.sound (k : Nat) : SoundC env Try.prog 198 (f198.e k).F := soundC_coer (f198.sound0 k) [[.rd 211]]
theorem f198.says (k : Nat) (xs1 : List S211) (t12 : Bool) (h_ : f198 k xs1 = some t12) : SoundAt env Try.prog 198 [.v (.c (.sl 211 xs1))] ⟨.v (.c (.s (.bool t12))), [[]]⟩ :=
  fun_sound envOK (cs_sound _ (by exact trivial)) (f198.hok k) Try.func198 rfl _ _ (((f198.ev k xs1).trans (f198.nat k _ xs1)).trans (by rw [h_]; rfl))
theorem f198.fnok : FnOK Try.prog 198 := fn_ok Try.func198 (by kernel_rfl) rfl
def f175.l6.step {R : Type} (k : Nat) (rec_ : (List S211) → Int → Int → ByteArray → ByteArray → Int → Int → Int → (List S211) → Option R) (ret : ((Bool × ByteArray × ByteArray × Int × Int × Int × (List S211)) ⊕ (ByteArray × ByteArray × Int × Int × Int × (List S211))) → Option R) (xs11 : List S211) (a12 : Int) (a13 : Int) (s14 : ByteArray) (s15 : ByteArray) (a16 : Int) (a17 : Int) (a18 : Int) (xs19 : List S211) : Option R :=
  if (decide (a13 < a12)) = true then
    if (0 : Int) ≤ a13 then
      if a13 < ((List.length xs11 : Nat) : Int) then
        (f196 k (List.getD xs11 (Int.toNat a13) (⟨(0 : Int), false, []⟩ : S211)).f0 (List.getD xs11 (Int.toNat a13) (⟨(0 : Int), false, []⟩ : S211)).f1 (List.getD xs11 (Int.toNat a13) (⟨(0 : Int), false, []⟩ : S211)).f2).bind fun t20 => if (!t20) = false then
            if (List.getD xs11 (Int.toNat a13) (⟨(0 : Int), false, []⟩ : S211)).f1 = true then
              if (decide (a13 < (IntKind.i64.wrap ((((List.length xs19) : Nat) : Int) - (1 : Int))))) = true then
                ret (.inl (false, s14, s15, a16, a17, a18, xs19))
              else
                if (decide (a13 > (0 : Int))) = true then
                  if (0 : Int) ≤ (IntKind.i64.wrap (a13 - (1 : Int))) then
                    if (IntKind.i64.wrap (a13 - (1 : Int))) < ((List.length xs19 : Nat) : Int) then
                      if (decide ((List.getD xs11 (Int.toNat a13) (⟨(0 : Int), false, []⟩ : S211)).f0 ≤ (List.getD xs19 (Int.toNat (IntKind.i64.wrap (a13 - (1 : Int)))) (⟨(0 : Int), false, []⟩ : S211)).f0)) = false then
                        if (0 : Int) ≤ (IntKind.i64.wrap (a13 - (1 : Int))) then
                          if (IntKind.i64.wrap (a13 - (1 : Int))) < ((List.length xs19 : Nat) : Int) then
                            (f197 k (List.getD xs19 (Int.toNat (IntKind.i64.wrap (a13 - (1 : Int)))) (⟨(0 : Int), false, []⟩ : S211)).f0 (List.getD xs19 (Int.toNat (IntKind.i64.wrap (a13 - (1 : Int)))) (⟨(0 : Int), false, []⟩ : S211)).f1 (List.getD xs19 (Int.toNat (IntKind.i64.wrap (a13 - (1 : Int)))) (⟨(0 : Int), false, []⟩ : S211)).f2 (List.getD xs11 (Int.toNat a13) (⟨(0 : Int), false, []⟩ : S211)).f0 (List.getD xs11 (Int.toNat a13) (⟨(0 : Int), false, []⟩ : S211)).f1 (List.getD xs11 (Int.toNat a13) (⟨(0 : Int), false, []⟩ : S211)).f2).bind fun t21 => if t21 = true then
                                ret (.inl (false, s14, s15, a16, a17, a18, xs19))
                              else
                                rec_ xs11 a12 (IntKind.i64.wrap (a13 + (1 : Int))) s14 s15 a16 a17 a18 xs19
                          else none
                        else none
                      else
                        ret (.inl (false, s14, s15, a16, a17, a18, xs19))
                    else none
                  else none
                else
                  rec_ xs11 a12 (IntKind.i64.wrap (a13 + (1 : Int))) s14 s15 a16 a17 a18 xs19
            else
              if (decide (a13 > (0 : Int))) = true then
                if (0 : Int) ≤ (IntKind.i64.wrap (a13 - (1 : Int))) then
                  if (IntKind.i64.wrap (a13 - (1 : Int))) < ((List.length xs19 : Nat) : Int) then
                    if (decide ((List.getD xs11 (Int.toNat a13) (⟨(0 : Int), false, []⟩ : S211)).f0 ≤ (List.getD xs19 (Int.toNat (IntKind.i64.wrap (a13 - (1 : Int)))) (⟨(0 : Int), false, []⟩ : S211)).f0)) = false then
                      if (0 : Int) ≤ (IntKind.i64.wrap (a13 - (1 : Int))) then
                        if (IntKind.i64.wrap (a13 - (1 : Int))) < ((List.length xs19 : Nat) : Int) then
                          (f197 k (List.getD xs19 (Int.toNat (IntKind.i64.wrap (a13 - (1 : Int)))) (⟨(0 : Int), false, []⟩ : S211)).f0 (List.getD xs19 (Int.toNat (IntKind.i64.wrap (a13 - (1 : Int)))) (⟨(0 : Int), false, []⟩ : S211)).f1 (List.getD xs19 (Int.toNat (IntKind.i64.wrap (a13 - (1 : Int)))) (⟨(0 : Int), false, []⟩ : S211)).f2 (List.getD xs11 (Int.toNat a13) (⟨(0 : Int), false, []⟩ : S211)).f0 (List.getD xs11 (Int.toNat a13) (⟨(0 : Int), false, []⟩ : S211)).f1 (List.getD xs11 (Int.toNat a13) (⟨(0 : Int), false, []⟩ : S211)).f2).bind fun t22 => if t22 = true then
                              ret (.inl (false, s14, s15, a16, a17, a18, xs19))
                            else
                              rec_ xs11 a12 (IntKind.i64.wrap (a13 + (1 : Int))) s14 s15 a16 a17 a18 xs19
                        else none
                      else none
                    else
                      ret (.inl (false, s14, s15, a16, a17, a18, xs19))
                  else none
                else none
              else
                rec_ xs11 a12 (IntKind.i64.wrap (a13 + (1 : Int))) s14 s15 a16 a17 a18 xs19
          else
            ret (.inl (false, s14, s15, a16, a17, a18, xs19))
      else none
    else none
  else
    ret (.inr (s14, s15, a16, a17, a18, xs19))
def f175.l6 (k : Nat) : Nat → (List S211) → Int → Int → ByteArray → ByteArray → Int → Int → Int → (List S211) → Option ((Bool × ByteArray × ByteArray × Int × Int × Int × (List S211)) ⊕ (ByteArray × ByteArray × Int × Int × Int × (List S211)))
  | 0, _, _, _, _, _, _, _, _, _ => none
  | j + 1, xs11, a12, a13, s14, s15, a16, a17, a18, xs19 => f175.l6.step k (fun xs11 a12 a13 s14 s15 a16 a17 a18 xs19 => f175.l6 k j xs11 a12 a13 s14 s15 a16 a17 a18 xs19) some xs11 a12 a13 s14 s15 a16 a17 a18 xs19
def f175.l6.w {R : Type} : ((Bool × ByteArray × ByteArray × Int × Int × Int × (List S211)) ⊕ (ByteArray × ByteArray × Int × Int × Int × (List S211))) → (Exit → St env → Option R) → Option R := fun x K => Sum.elim (fun t26 => K .ret ⟨fullT [1, 2] 0 90 [.v (.c (.bp 1 0)), .v (.c (.s (.bool t26.1)))], [(1, .box [.s (.string t26.2.1), .s (.string t26.2.2.1), .s (.int .i64 t26.2.2.2.1), .s (.int .i64 t26.2.2.2.2.1), .s (.int .i64 t26.2.2.2.2.2.1), .imm 211 t26.2.2.2.2.2.2])], 1425⟩) (fun t27 => K (.exit 0) ⟨fullT [1] 0 90 [.v (.c (.bp 1 0))], [(1, .box [.s (.string t27.1), .s (.string t27.2.1), .s (.int .i64 t27.2.2.1), .s (.int .i64 t27.2.2.2.1), .s (.int .i64 t27.2.2.2.2.1), .imm 211 t27.2.2.2.2.2])], 1425⟩) x
def f175.l6.st (xs11 : List S211) (a12 : Int) (a13 : Int) (s14 : ByteArray) (s15 : ByteArray) (a16 : Int) (a17 : Int) (a18 : Int) (xs19 : List S211) : St env := ⟨fullT [1, 39, 40, 41] 0 90 [.v (.c (.bp 1 0)), .v (.c (.imm 211 xs11)), .v (.c (.s (.int .i64 a12))), .v (.c (.s (.int .i64 a13)))], [(1, .box [.s (.string s14), .s (.string s15), .s (.int .i64 a16), .s (.int .i64 a17), .s (.int .i64 a18), .imm 211 xs19])], 625⟩
def f175.l6.hd (k : Nat) (ts_ : List (AV env)) (mm_ : Mem env) (n_ : Nat) : LCl env :=
  gTs LCl.no [1, 39, 40, 41] 90 ts_ fun l_ => gV LCl.no l_ fun a_ l_ => rBp LCl.no 1 0 a_ <| gV LCl.no l_ fun a_ l_ => rImm LCl.no 211 a_ fun xs11 => gV LCl.no l_ fun a_ l_ => rV LCl.no a_ fun v_ => vI LCl.no .i64 v_ fun a12 => gV LCl.no l_ fun a_ l_ => rV LCl.no a_ fun v_ => vI LCl.no .i64 v_ fun a13 => gE LCl.no l_ <| mBox LCl.no 1 mm_ fun c_ m_ => gC LCl.no c_ fun a_ c_ => rV LCl.no a_ fun v_ => vS LCl.no v_ fun s14 => gC LCl.no c_ fun a_ c_ => rV LCl.no a_ fun v_ => vS LCl.no v_ fun s15 => gC LCl.no c_ fun a_ c_ => rV LCl.no a_ fun v_ => vI LCl.no .i64 v_ fun a16 => gC LCl.no c_ fun a_ c_ => rV LCl.no a_ fun v_ => vI LCl.no .i64 v_ fun a17 => gC LCl.no c_ fun a_ c_ => rV LCl.no a_ fun v_ => vI LCl.no .i64 v_ fun a18 => gC LCl.no c_ fun a_ c_ => rImm LCl.no 211 a_ fun xs19 => gE LCl.no c_ <| gE LCl.no m_ <| gN LCl.no 625 n_ { α := (Bool × ByteArray × ByteArray × Int × Int × Int × (List S211)) ⊕ (ByteArray × ByteArray × Int × Int × Int × (List S211)), o := f175.l6 k k xs11 a12 a13 s14 s15 a16 a17 a18 xs19, w := f175.l6.w }
def f175.step {R : Type} (k : Nat) (ret : Bool → Option R) (s1 : ByteArray) (s2 : ByteArray) (a3 : Int) (a4 : Int) (a5 : Int) (xs6 : List S211) : Option R :=
  if (decide ((((ByteArray.size s1) : Nat) : Int) ≠ (4 : Int))) = false then
    if (decide ((((ByteArray.size s2) : Nat) : Int) ≠ (4 : Int))) = false then
      (f83 k a3 (0 : Int) (65535 : Int)).bind fun t7 => if (!t7) = false then
          (f83 k a4 (0 : Int) (255 : Int)).bind fun t8 => if (!t8) = true then
              ret false
            else
              (f83 k a5 (0 : Int) (1000030 : Int)).bind fun t9 => if (!t9) = false then
                  (f83 k (((List.length xs6) : Nat) : Int) (1 : Int) (12 : Int)).bind fun t10 => if (!t10) = true then
                      ret false
                    else
                      (f175.l6 k k xs6 (((List.length xs6) : Nat) : Int) (0 : Int) s1 s2 a3 a4 a5 xs6).bind (Sum.elim (fun t23 => ret t23.1) (fun t24 => (f198 k t24.2.2.2.2.2).bind fun t25 => ret (!t25)))
                else
                  ret false
        else
          ret false
    else
      ret false
  else
    ret false
def f175 (k : Nat) (s1 : ByteArray) (s2 : ByteArray) (a3 : Int) (a4 : Int) (a5 : Int) (xs6 : List S211) : Option Bool := f175.step k some s1 s2 a3 a4 a5 xs6
def f175.w {R : Type} : Bool → (Res env → Option R) → Option R := fun t28 K => K ⟨.v (.c (.s (.bool t28))), [[]]⟩
theorem f175.wn (x : Bool) : ∃ res, ∀ {R : Type} (K : Res env → Option R), f175.w x K = K res := by
  exact ⟨_, fun _ => rfl⟩
def f175.hd (k : Nat) (ps_ : List (P2 env)) : Cl env :=
  gC Cl.no ps_ fun p_ ps_ => qG Cl.no p_ fun cs_ => gC Cl.no cs_ fun c_ cs_ => qS Cl.no c_ fun v_ => vS Cl.no v_ fun s1 => gC Cl.no cs_ fun c_ cs_ => qS Cl.no c_ fun v_ => vS Cl.no v_ fun s2 => gC Cl.no cs_ fun c_ cs_ => qS Cl.no c_ fun v_ => vI Cl.no .i64 v_ fun a3 => gC Cl.no cs_ fun c_ cs_ => qS Cl.no c_ fun v_ => vI Cl.no .i64 v_ fun a4 => gC Cl.no cs_ fun c_ cs_ => qS Cl.no c_ fun v_ => vI Cl.no .i64 v_ fun a5 => gC Cl.no cs_ fun c_ cs_ => qSl Cl.no 211 c_ fun xs6 => gE Cl.no cs_ <| gE Cl.no ps_ <| { α := Bool, o := f175 k s1 s2 a3 a4 a5 xs6, w := f175.w, nat := fun x _ => f175.wn x }
def f175.e (k : Nat) : Entry env := ⟨fun ps => f175.hd k (coer [[.no, .no, .no, .no, .no, .rd 211]] ps), [], []⟩
def f175.X (k : Nat) : Ctx env := { C := lookE [(83, f83.e k), (196, f196.e k), (197, f197.e k), (198, f198.e k)], L := lookE [(6, fun S => f175.l6.hd k S.ts S.m S.n)], J := lookE [], keep := lookD [(6, [1, 39, 40, 41])], keepX := lookD [(6, [1, 2])], span := lookN [(6, 800)], eff := fun n => memN n [], prep := lookP [], np := 0 }
theorem f175.l6.nat {R : Type} (k : Nat) (rec_ : (List S211) → Int → Int → ByteArray → ByteArray → Int → Int → Int → (List S211) → Option ((Bool × ByteArray × ByteArray × Int × Int × Int × (List S211)) ⊕ (ByteArray × ByteArray × Int × Int × Int × (List S211)))) (g : ((Bool × ByteArray × ByteArray × Int × Int × Int × (List S211)) ⊕ (ByteArray × ByteArray × Int × Int × Int × (List S211))) → Option R) (xs11 : List S211) (a12 : Int) (a13 : Int) (s14 : ByteArray) (s15 : ByteArray) (a16 : Int) (a17 : Int) (a18 : Int) (xs19 : List S211) : (f175.l6.step k rec_ some xs11 a12 a13 s14 s15 a16 a17 a18 xs19).bind g = f175.l6.step k (fun xs11 a12 a13 s14 s15 a16 a17 a18 xs19 => (rec_ xs11 a12 a13 s14 s15 a16 a17 a18 xs19).bind g) g xs11 a12 a13 s14 s15 a16 a17 a18 xs19 := by
  simp only [f175.l6.step, bind_ite, bind_sum, Option.bind_assoc, Option.bind_some, Option.bind_none]
theorem f175.l6.good (k : Nat) (xs11 : List S211) (a12 : Int) (a13 : Int) (s14 : ByteArray) (s15 : ByteArray) (a16 : Int) (a17 : Int) (a18 : Int) (xs19 : List S211) : GoodL (f175.X k) (nthC 0 (loopsOf (bodyOf Try.f175))) (f175.l6.st xs11 a12 a13 s14 s15 a16 a17 a18 xs19) { α := ((Bool × ByteArray × ByteArray × Int × Int × Int × (List S211)) ⊕ (ByteArray × ByteArray × Int × Int × Int × (List S211))), o := f175.l6 k k xs11 a12 a13 s14 s15 a16 a17 a18 xs19, w := f175.l6.w } :=
  loop_good (ι := (List S211) × Int × Int × ByteArray × ByteArray × Int × Int × Int × (List S211)) (α := ((Bool × ByteArray × ByteArray × Int × Int × Int × (List S211)) ⊕ (ByteArray × ByteArray × Int × Int × Int × (List S211)))) (fun i => f175.l6.st i.1 i.2.1 i.2.2.1 i.2.2.2.1 i.2.2.2.2.1 i.2.2.2.2.2.1 i.2.2.2.2.2.2.1 i.2.2.2.2.2.2.2.1 i.2.2.2.2.2.2.2.2) (fun j i => f175.l6 k j i.1 i.2.1 i.2.2.1 i.2.2.2.1 i.2.2.2.2.1 i.2.2.2.2.2.1 i.2.2.2.2.2.2.1 i.2.2.2.2.2.2.2.1 i.2.2.2.2.2.2.2.2) f175.l6.w (fun rec_ ret i => f175.l6.step k (fun xs11 a12 a13 s14 s15 a16 a17 a18 xs19 => rec_ (xs11, a12, a13, s14, s15, a16, a17, a18, xs19)) ret i.1 i.2.1 i.2.2.1 i.2.2.2.1 i.2.2.2.2.1 i.2.2.2.2.2.1 i.2.2.2.2.2.2.1 i.2.2.2.2.2.2.2.1 i.2.2.2.2.2.2.2.2)
    (fun _ => rfl) (fun _ _ => rfl) (fun rec_ g i => f175.l6.nat k _ g i.1 i.2.1 i.2.2.1 i.2.2.2.1 i.2.2.2.2.1 i.2.2.2.2.2.1 i.2.2.2.2.2.2.1 i.2.2.2.2.2.2.2.1 i.2.2.2.2.2.2.2.2) (fun {R} i0 i rec_ K => by kernel_rfl) k (xs11, a12, a13, s14, s15, a16, a17, a18, xs19)
theorem f175.l6.all (k : Nat) (S : St env) : GoodL (f175.X k) (nthC 0 (loopsOf (bodyOf Try.f175))) S (f175.l6.hd k S.ts S.m S.n) := by
  obtain ⟨ts_, m_, n_⟩ := S
  show GoodL _ _ _ (f175.l6.hd k ts_ m_ n_)
  unfold f175.l6.hd
  refine gTs_ok (p := GoodL _ _ _) goodL_no fun _ h => ?_
  subst h
  refine gV_ok (p := GoodL _ _ _) goodL_no fun _ _ h => ?_
  subst h
  refine rBp_ok (p := GoodL _ _ _) goodL_no fun h => ?_
  subst h
  refine gV_ok (p := GoodL _ _ _) goodL_no fun _ _ h => ?_
  subst h
  refine rImm_ok (p := GoodL _ _ _) goodL_no fun _ h => ?_
  subst h
  refine gV_ok (p := GoodL _ _ _) goodL_no fun _ _ h => ?_
  subst h
  refine rV_ok (p := GoodL _ _ _) goodL_no fun _ h => ?_
  subst h
  refine vI_ok (p := GoodL _ _ _) goodL_no fun _ h => ?_
  subst h
  refine gV_ok (p := GoodL _ _ _) goodL_no fun _ _ h => ?_
  subst h
  refine rV_ok (p := GoodL _ _ _) goodL_no fun _ h => ?_
  subst h
  refine vI_ok (p := GoodL _ _ _) goodL_no fun _ h => ?_
  subst h
  refine gE_ok (p := GoodL _ _ _) goodL_no fun h => ?_
  subst h
  refine mBox_ok (p := GoodL _ _ _) goodL_no fun _ _ h => ?_
  subst h
  refine gC_ok (p := GoodL _ _ _) goodL_no fun _ _ h => ?_
  subst h
  refine rV_ok (p := GoodL _ _ _) goodL_no fun _ h => ?_
  subst h
  refine vS_ok (p := GoodL _ _ _) goodL_no fun _ h => ?_
  subst h
  refine gC_ok (p := GoodL _ _ _) goodL_no fun _ _ h => ?_
  subst h
  refine rV_ok (p := GoodL _ _ _) goodL_no fun _ h => ?_
  subst h
  refine vS_ok (p := GoodL _ _ _) goodL_no fun _ h => ?_
  subst h
  refine gC_ok (p := GoodL _ _ _) goodL_no fun _ _ h => ?_
  subst h
  refine rV_ok (p := GoodL _ _ _) goodL_no fun _ h => ?_
  subst h
  refine vI_ok (p := GoodL _ _ _) goodL_no fun _ h => ?_
  subst h
  refine gC_ok (p := GoodL _ _ _) goodL_no fun _ _ h => ?_
  subst h
  refine rV_ok (p := GoodL _ _ _) goodL_no fun _ h => ?_
  subst h
  refine vI_ok (p := GoodL _ _ _) goodL_no fun _ h => ?_
  subst h
  refine gC_ok (p := GoodL _ _ _) goodL_no fun _ _ h => ?_
  subst h
  refine rV_ok (p := GoodL _ _ _) goodL_no fun _ h => ?_
  subst h
  refine vI_ok (p := GoodL _ _ _) goodL_no fun _ h => ?_
  subst h
  refine gC_ok (p := GoodL _ _ _) goodL_no fun _ _ h => ?_
  subst h
  refine rImm_ok (p := GoodL _ _ _) goodL_no fun _ h => ?_
  subst h
  refine gE_ok (p := GoodL _ _ _) goodL_no fun h => ?_
  subst h
  refine gE_ok (p := GoodL _ _ _) goodL_no fun h => ?_
  subst h
  refine gN_ok (p := GoodL _ _ _) goodL_no fun h => ?_
  subst h
  exact f175.l6.good k _ _ _ _ _ _ _ _ _
theorem f175.nat {R : Type} (k : Nat) (g : Bool → Option R) (s1 : ByteArray) (s2 : ByteArray) (a3 : Int) (a4 : Int) (a5 : Int) (xs6 : List S211) : f175.step k g s1 s2 a3 a4 a5 xs6 = (f175 k s1 s2 a3 a4 a5 xs6).bind g := by
  simp only [f175, f175.step, bind_ite, bind_sum, Option.bind_assoc, Option.bind_some, Option.bind_none]
theorem f175.ev (k : Nat) (s1 : ByteArray) (s2 : ByteArray) (a3 : Int) (a4 : Int) (a5 : Int) (xs6 : List S211) : evF (f175.X k) (bodyOf Try.f175) Try.f175.ntmps Try.f175.results.toList [.g [.s (.string s1), .s (.string s2), .s (.int .i64 a3), .s (.int .i64 a4), .s (.int .i64 a5), .sl 211 xs6]] = f175.step k (fun x => f175.w x some) s1 s2 a3 a4 a5 xs6 := by kernel_rfl
theorem f175.hok (k : Nat) : HOK (f175.X k) (bodyOf Try.f175) where
  l := allP_mem (by exact ⟨ls_of (h0 := fun S => f175.l6.hd k S.ts S.m S.n) (by kernel_rfl) (f175.l6.all k), trivial⟩)
  j := allP_mem (by exact trivial)
theorem f175.sound0 (k : Nat) : SoundC env Try.prog 175 (f175.hd k) := by
  intro ps_
  show GoodC _ _ _ ps_ (f175.hd k ps_)
  unfold f175.hd
  refine gC_ok (p := GoodC env Try.prog 175 _) goodC_no fun _ _ h => ?_
  subst h
  refine qG_ok (p := GoodC env Try.prog 175 _) goodC_no fun _ h => ?_
  subst h
  refine gC_ok (p := GoodC env Try.prog 175 _) goodC_no fun _ _ h => ?_
  subst h
  refine qS_ok (p := GoodC env Try.prog 175 _) goodC_no fun _ h => ?_
  subst h
  refine vS_ok (p := GoodC env Try.prog 175 _) goodC_no fun _ h => ?_
  subst h
  refine gC_ok (p := GoodC env Try.prog 175 _) goodC_no fun _ _ h => ?_
  subst h
  refine qS_ok (p := GoodC env Try.prog 175 _) goodC_no fun _ h => ?_
  subst h
  refine vS_ok (p := GoodC env Try.prog 175 _) goodC_no fun _ h => ?_
  subst h
  refine gC_ok (p := GoodC env Try.prog 175 _) goodC_no fun _ _ h => ?_
  subst h
  refine qS_ok (p := GoodC env Try.prog 175 _) goodC_no fun _ h => ?_
  subst h
  refine vI_ok (p := GoodC env Try.prog 175 _) goodC_no fun _ h => ?_
  subst h
  refine gC_ok (p := GoodC env Try.prog 175 _) goodC_no fun _ _ h => ?_
  subst h
  refine qS_ok (p := GoodC env Try.prog 175 _) goodC_no fun _ h => ?_
  subst h
  refine vI_ok (p := GoodC env Try.prog 175 _) goodC_no fun _ h => ?_
  subst h
  refine gC_ok (p := GoodC env Try.prog 175 _) goodC_no fun _ _ h => ?_
  subst h
  refine qS_ok (p := GoodC env Try.prog 175 _) goodC_no fun _ h => ?_
  subst h
  refine vI_ok (p := GoodC env Try.prog 175 _) goodC_no fun _ h => ?_
  subst h
  refine gC_ok (p := GoodC env Try.prog 175 _) goodC_no fun _ _ h => ?_
  subst h
  refine qSl_ok (p := GoodC env Try.prog 175 _) goodC_no fun _ h => ?_
  subst h
  refine gE_ok (p := GoodC env Try.prog 175 _) goodC_no fun h => ?_
  subst h
  refine gE_ok (p := GoodC env Try.prog 175 _) goodC_no fun h => ?_
  subst h
  exact fun_good (fun_sound envOK (cs_sound _ (by exact ⟨⟨f83.sound k, f83.fnok⟩, ⟨f196.sound k, f196.fnok⟩, ⟨f197.sound k, f197.fnok⟩, ⟨f198.sound k, f198.fnok⟩, trivial⟩)) (f175.hok k) Try.func175 rfl) ((f175.ev k _ _ _ _ _ _).trans (f175.nat k _ _ _ _ _ _ _))
theorem f175.sound (k : Nat) : SoundC env Try.prog 175 (f175.e k).F := soundC_coer (f175.sound0 k) [[.no, .no, .no, .no, .no, .rd 211]]
theorem f175.says (k : Nat) (s1 : ByteArray) (s2 : ByteArray) (a3 : Int) (a4 : Int) (a5 : Int) (xs6 : List S211) (t29 : Bool) (h_ : f175 k s1 s2 a3 a4 a5 xs6 = some t29) : SoundAt env Try.prog 175 [.g [.s (.string s1), .s (.string s2), .s (.int .i64 a3), .s (.int .i64 a4), .s (.int .i64 a5), .sl 211 xs6]] ⟨.v (.c (.s (.bool t29))), [[]]⟩ :=
  fun_sound envOK (cs_sound _ (by exact ⟨⟨f83.sound k, f83.fnok⟩, ⟨f196.sound k, f196.fnok⟩, ⟨f197.sound k, f197.fnok⟩, ⟨f198.sound k, f198.fnok⟩, trivial⟩)) (f175.hok k) Try.func175 rfl _ _ (((f175.ev k s1 s2 a3 a4 a5 xs6).trans (f175.nat k _ s1 s2 a3 a4 a5 xs6)).trans (by rw [h_]; rfl))
theorem f175.fnok : FnOK Try.prog 175 := fn_ok Try.func175 (by kernel_rfl) rfl
def f176.step {R : Type} (k : Nat) (ret : Bool → Option R) (s1 : ByteArray) (s2 : ByteArray) (a3 : Int) (a4 : Int) (a5 : Int) (xs6 : List S211) (s7 : ByteArray) (s8 : ByteArray) (a9 : Int) (a10 : Int) (a11 : Int) (xs12 : List S211) : Option R :=
  if (decide (ByteArray.toList s1 = ByteArray.toList s7)) = true then
    if (decide (ByteArray.toList s2 = ByteArray.toList s8)) = true then
      if (decide (a3 = a9)) = true then
        ret (decide (a4 = a10))
      else
        ret false
    else
      ret false
  else
    ret false
def f176 (k : Nat) (s1 : ByteArray) (s2 : ByteArray) (a3 : Int) (a4 : Int) (a5 : Int) (xs6 : List S211) (s7 : ByteArray) (s8 : ByteArray) (a9 : Int) (a10 : Int) (a11 : Int) (xs12 : List S211) : Option Bool := f176.step k some s1 s2 a3 a4 a5 xs6 s7 s8 a9 a10 a11 xs12
def f176.w {R : Type} : Bool → (Res env → Option R) → Option R := fun t13 K => K ⟨.v (.c (.s (.bool t13))), [[], []]⟩
theorem f176.wn (x : Bool) : ∃ res, ∀ {R : Type} (K : Res env → Option R), f176.w x K = K res := by
  exact ⟨_, fun _ => rfl⟩
def f176.hd (k : Nat) (ps_ : List (P2 env)) : Cl env :=
  gC Cl.no ps_ fun p_ ps_ => qG Cl.no p_ fun cs_ => gC Cl.no cs_ fun c_ cs_ => qS Cl.no c_ fun v_ => vS Cl.no v_ fun s1 => gC Cl.no cs_ fun c_ cs_ => qS Cl.no c_ fun v_ => vS Cl.no v_ fun s2 => gC Cl.no cs_ fun c_ cs_ => qS Cl.no c_ fun v_ => vI Cl.no .i64 v_ fun a3 => gC Cl.no cs_ fun c_ cs_ => qS Cl.no c_ fun v_ => vI Cl.no .i64 v_ fun a4 => gC Cl.no cs_ fun c_ cs_ => qS Cl.no c_ fun v_ => vI Cl.no .i64 v_ fun a5 => gC Cl.no cs_ fun c_ cs_ => qSl Cl.no 211 c_ fun xs6 => gE Cl.no cs_ <| gC Cl.no ps_ fun p_ ps_ => qG Cl.no p_ fun cs_ => gC Cl.no cs_ fun c_ cs_ => qS Cl.no c_ fun v_ => vS Cl.no v_ fun s7 => gC Cl.no cs_ fun c_ cs_ => qS Cl.no c_ fun v_ => vS Cl.no v_ fun s8 => gC Cl.no cs_ fun c_ cs_ => qS Cl.no c_ fun v_ => vI Cl.no .i64 v_ fun a9 => gC Cl.no cs_ fun c_ cs_ => qS Cl.no c_ fun v_ => vI Cl.no .i64 v_ fun a10 => gC Cl.no cs_ fun c_ cs_ => qS Cl.no c_ fun v_ => vI Cl.no .i64 v_ fun a11 => gC Cl.no cs_ fun c_ cs_ => qSl Cl.no 211 c_ fun xs12 => gE Cl.no cs_ <| gE Cl.no ps_ <| { α := Bool, o := f176 k s1 s2 a3 a4 a5 xs6 s7 s8 a9 a10 a11 xs12, w := f176.w, nat := fun x _ => f176.wn x }
def f176.e (k : Nat) : Entry env := ⟨fun ps => f176.hd k (coer [[.no, .no, .no, .no, .no, .rd 211], [.no, .no, .no, .no, .no, .rd 211]] ps), [], []⟩
def f176.X (k : Nat) : Ctx env := { C := lookE [], L := lookE [], J := lookE [], keep := lookD [], keepX := lookD [], span := lookN [], eff := fun n => memN n [], prep := lookP [], np := 0 }
theorem f176.nat {R : Type} (k : Nat) (g : Bool → Option R) (s1 : ByteArray) (s2 : ByteArray) (a3 : Int) (a4 : Int) (a5 : Int) (xs6 : List S211) (s7 : ByteArray) (s8 : ByteArray) (a9 : Int) (a10 : Int) (a11 : Int) (xs12 : List S211) : f176.step k g s1 s2 a3 a4 a5 xs6 s7 s8 a9 a10 a11 xs12 = (f176 k s1 s2 a3 a4 a5 xs6 s7 s8 a9 a10 a11 xs12).bind g := by
  simp only [f176, f176.step, bind_ite, bind_sum, Option.bind_assoc, Option.bind_some, Option.bind_none]
theorem f176.ev (k : Nat) (s1 : ByteArray) (s2 : ByteArray) (a3 : Int) (a4 : Int) (a5 : Int) (xs6 : List S211) (s7 : ByteArray) (s8 : ByteArray) (a9 : Int) (a10 : Int) (a11 : Int) (xs12 : List S211) : evF (f176.X k) (bodyOf Try.f176) Try.f176.ntmps Try.f176.results.toList [.g [.s (.string s1), .s (.string s2), .s (.int .i64 a3), .s (.int .i64 a4), .s (.int .i64 a5), .sl 211 xs6], .g [.s (.string s7), .s (.string s8), .s (.int .i64 a9), .s (.int .i64 a10), .s (.int .i64 a11), .sl 211 xs12]] = f176.step k (fun x => f176.w x some) s1 s2 a3 a4 a5 xs6 s7 s8 a9 a10 a11 xs12 := by kernel_rfl
theorem f176.hok (k : Nat) : HOK (f176.X k) (bodyOf Try.f176) where
  l := allP_mem (by exact trivial)
  j := allP_mem (by exact trivial)
theorem f176.sound0 (k : Nat) : SoundC env Try.prog 176 (f176.hd k) := by
  intro ps_
  show GoodC _ _ _ ps_ (f176.hd k ps_)
  unfold f176.hd
  refine gC_ok (p := GoodC env Try.prog 176 _) goodC_no fun _ _ h => ?_
  subst h
  refine qG_ok (p := GoodC env Try.prog 176 _) goodC_no fun _ h => ?_
  subst h
  refine gC_ok (p := GoodC env Try.prog 176 _) goodC_no fun _ _ h => ?_
  subst h
  refine qS_ok (p := GoodC env Try.prog 176 _) goodC_no fun _ h => ?_
  subst h
  refine vS_ok (p := GoodC env Try.prog 176 _) goodC_no fun _ h => ?_
  subst h
  refine gC_ok (p := GoodC env Try.prog 176 _) goodC_no fun _ _ h => ?_
  subst h
  refine qS_ok (p := GoodC env Try.prog 176 _) goodC_no fun _ h => ?_
  subst h
  refine vS_ok (p := GoodC env Try.prog 176 _) goodC_no fun _ h => ?_
  subst h
  refine gC_ok (p := GoodC env Try.prog 176 _) goodC_no fun _ _ h => ?_
  subst h
  refine qS_ok (p := GoodC env Try.prog 176 _) goodC_no fun _ h => ?_
  subst h
  refine vI_ok (p := GoodC env Try.prog 176 _) goodC_no fun _ h => ?_
  subst h
  refine gC_ok (p := GoodC env Try.prog 176 _) goodC_no fun _ _ h => ?_
  subst h
  refine qS_ok (p := GoodC env Try.prog 176 _) goodC_no fun _ h => ?_
  subst h
  refine vI_ok (p := GoodC env Try.prog 176 _) goodC_no fun _ h => ?_
  subst h
  refine gC_ok (p := GoodC env Try.prog 176 _) goodC_no fun _ _ h => ?_
  subst h
  refine qS_ok (p := GoodC env Try.prog 176 _) goodC_no fun _ h => ?_
  subst h
  refine vI_ok (p := GoodC env Try.prog 176 _) goodC_no fun _ h => ?_
  subst h
  refine gC_ok (p := GoodC env Try.prog 176 _) goodC_no fun _ _ h => ?_
  subst h
  refine qSl_ok (p := GoodC env Try.prog 176 _) goodC_no fun _ h => ?_
  subst h
  refine gE_ok (p := GoodC env Try.prog 176 _) goodC_no fun h => ?_
  subst h
  refine gC_ok (p := GoodC env Try.prog 176 _) goodC_no fun _ _ h => ?_
  subst h
  refine qG_ok (p := GoodC env Try.prog 176 _) goodC_no fun _ h => ?_
  subst h
  refine gC_ok (p := GoodC env Try.prog 176 _) goodC_no fun _ _ h => ?_
  subst h
  refine qS_ok (p := GoodC env Try.prog 176 _) goodC_no fun _ h => ?_
  subst h
  refine vS_ok (p := GoodC env Try.prog 176 _) goodC_no fun _ h => ?_
  subst h
  refine gC_ok (p := GoodC env Try.prog 176 _) goodC_no fun _ _ h => ?_
  subst h
  refine qS_ok (p := GoodC env Try.prog 176 _) goodC_no fun _ h => ?_
  subst h
  refine vS_ok (p := GoodC env Try.prog 176 _) goodC_no fun _ h => ?_
  subst h
  refine gC_ok (p := GoodC env Try.prog 176 _) goodC_no fun _ _ h => ?_
  subst h
  refine qS_ok (p := GoodC env Try.prog 176 _) goodC_no fun _ h => ?_
  subst h
  refine vI_ok (p := GoodC env Try.prog 176 _) goodC_no fun _ h => ?_
  subst h
  refine gC_ok (p := GoodC env Try.prog 176 _) goodC_no fun _ _ h => ?_
  subst h
  refine qS_ok (p := GoodC env Try.prog 176 _) goodC_no fun _ h => ?_
  subst h
  refine vI_ok (p := GoodC env Try.prog 176 _) goodC_no fun _ h => ?_
  subst h
  refine gC_ok (p := GoodC env Try.prog 176 _) goodC_no fun _ _ h => ?_
  subst h
  refine qS_ok (p := GoodC env Try.prog 176 _) goodC_no fun _ h => ?_
  subst h
  refine vI_ok (p := GoodC env Try.prog 176 _) goodC_no fun _ h => ?_
  subst h
  refine gC_ok (p := GoodC env Try.prog 176 _) goodC_no fun _ _ h => ?_
  subst h
  refine qSl_ok (p := GoodC env Try.prog 176 _) goodC_no fun _ h => ?_
  subst h
  refine gE_ok (p := GoodC env Try.prog 176 _) goodC_no fun h => ?_
  subst h
  refine gE_ok (p := GoodC env Try.prog 176 _) goodC_no fun h => ?_
  subst h
  exact fun_good (fun_sound envOK (cs_sound _ (by exact trivial)) (f176.hok k) Try.func176 rfl) ((f176.ev k _ _ _ _ _ _ _ _ _ _ _ _).trans (f176.nat k _ _ _ _ _ _ _ _ _ _ _ _ _))
theorem f176.sound (k : Nat) : SoundC env Try.prog 176 (f176.e k).F := soundC_coer (f176.sound0 k) [[.no, .no, .no, .no, .no, .rd 211], [.no, .no, .no, .no, .no, .rd 211]]
theorem f176.says (k : Nat) (s1 : ByteArray) (s2 : ByteArray) (a3 : Int) (a4 : Int) (a5 : Int) (xs6 : List S211) (s7 : ByteArray) (s8 : ByteArray) (a9 : Int) (a10 : Int) (a11 : Int) (xs12 : List S211) (t14 : Bool) (h_ : f176 k s1 s2 a3 a4 a5 xs6 s7 s8 a9 a10 a11 xs12 = some t14) : SoundAt env Try.prog 176 [.g [.s (.string s1), .s (.string s2), .s (.int .i64 a3), .s (.int .i64 a4), .s (.int .i64 a5), .sl 211 xs6], .g [.s (.string s7), .s (.string s8), .s (.int .i64 a9), .s (.int .i64 a10), .s (.int .i64 a11), .sl 211 xs12]] ⟨.v (.c (.s (.bool t14))), [[], []]⟩ :=
  fun_sound envOK (cs_sound _ (by exact trivial)) (f176.hok k) Try.func176 rfl _ _ (((f176.ev k s1 s2 a3 a4 a5 xs6 s7 s8 a9 a10 a11 xs12).trans (f176.nat k _ s1 s2 a3 a4 a5 xs6 s7 s8 a9 a10 a11 xs12)).trans (by rw [h_]; rfl))
theorem f176.fnok : FnOK Try.prog 176 := fn_ok Try.func176 (by kernel_rfl) rfl
def f135.l9.step {R : Type} (k : Nat) (rec_ : (List S104) → (List S104) → Int → Int → (List S104) → Int → Int → ByteArray → ByteArray → Int → Int → Int → (List S211) → Option R) (ret : (((List S104) × Bool × (List S104) × Int × Int) ⊕ ((List S104) × (List S104) × Int × Int)) → Option R) (xs7 : List S104) (xs8 : List S104) (a9 : Int) (a10 : Int) (xs11 : List S104) (a12 : Int) (a13 : Int) (s14 : ByteArray) (s15 : ByteArray) (a16 : Int) (a17 : Int) (a18 : Int) (xs19 : List S211) : Option R :=
  if (decide (a13 < a12)) = true then
    if (0 : Int) ≤ a13 then
      if a13 < ((List.length xs11 : Nat) : Int) then
        (f176 k s14 s15 a16 a17 a18 xs19 (List.getD xs11 (Int.toNat a13) (⟨ByteArray.empty, ByteArray.empty, (0 : Int), (0 : Int), (0 : Int), []⟩ : S104)).f0 (List.getD xs11 (Int.toNat a13) (⟨ByteArray.empty, ByteArray.empty, (0 : Int), (0 : Int), (0 : Int), []⟩ : S104)).f1 (List.getD xs11 (Int.toNat a13) (⟨ByteArray.empty, ByteArray.empty, (0 : Int), (0 : Int), (0 : Int), []⟩ : S104)).f2 (List.getD xs11 (Int.toNat a13) (⟨ByteArray.empty, ByteArray.empty, (0 : Int), (0 : Int), (0 : Int), []⟩ : S104)).f3 (List.getD xs11 (Int.toNat a13) (⟨ByteArray.empty, ByteArray.empty, (0 : Int), (0 : Int), (0 : Int), []⟩ : S104)).f4 (List.getD xs11 (Int.toNat a13) (⟨ByteArray.empty, ByteArray.empty, (0 : Int), (0 : Int), (0 : Int), []⟩ : S104)).f5).bind fun t20 => if t20 = true then
            ret (.inl (xs7, false, xs8, a9, a10))
          else
            rec_ xs7 xs8 a9 a10 xs11 a12 (IntKind.i64.wrap (a13 + (1 : Int))) s14 s15 a16 a17 a18 xs19
      else none
    else none
  else
    ret (.inr (xs7, xs8, a9, a10))
def f135.l9 (k : Nat) : Nat → (List S104) → (List S104) → Int → Int → (List S104) → Int → Int → ByteArray → ByteArray → Int → Int → Int → (List S211) → Option (((List S104) × Bool × (List S104) × Int × Int) ⊕ ((List S104) × (List S104) × Int × Int))
  | 0, _, _, _, _, _, _, _, _, _, _, _, _, _ => none
  | j + 1, xs7, xs8, a9, a10, xs11, a12, a13, s14, s15, a16, a17, a18, xs19 => f135.l9.step k (fun xs7 xs8 a9 a10 xs11 a12 a13 s14 s15 a16 a17 a18 xs19 => f135.l9 k j xs7 xs8 a9 a10 xs11 a12 a13 s14 s15 a16 a17 a18 xs19) some xs7 xs8 a9 a10 xs11 a12 a13 s14 s15 a16 a17 a18 xs19
def f135.l9.w {R : Type} : (((List S104) × Bool × (List S104) × Int × Int) ⊕ ((List S104) × (List S104) × Int × Int)) → (Exit → St env → Option R) → Option R := fun x K => Sum.elim (fun t25 => K .ret ⟨fullT [0, 2, 10, 11, 12] 0 33 [.v (.c (.imm 104 t25.1)), .v (.c (.s (.bool t25.2.1))), .v (.c (.imm 104 t25.2.2.1)), .v (.c (.s (.int .i64 t25.2.2.2.1))), .v (.c (.s (.int .i64 t25.2.2.2.2)))], [], 529⟩) (fun t26 => K (.exit 2) ⟨fullT [0, 10, 11, 12] 0 33 [.v (.c (.imm 104 t26.1)), .v (.c (.imm 104 t26.2.1)), .v (.c (.s (.int .i64 t26.2.2.1))), .v (.c (.s (.int .i64 t26.2.2.2)))], [], 529⟩) x
def f135.l9.st (xs7 : List S104) (xs8 : List S104) (a9 : Int) (a10 : Int) (xs11 : List S104) (a12 : Int) (a13 : Int) (s14 : ByteArray) (s15 : ByteArray) (a16 : Int) (a17 : Int) (a18 : Int) (xs19 : List S211) : St env := ⟨fullT [0, 4, 10, 11, 12, 22, 23, 24] 0 33 [.v (.c (.imm 104 xs7)), .v (.c (.bp 177 0)), .v (.c (.imm 104 xs8)), .v (.c (.s (.int .i64 a9))), .v (.c (.s (.int .i64 a10))), .v (.c (.imm 104 xs11)), .v (.c (.s (.int .i64 a12))), .v (.c (.s (.int .i64 a13)))], [(177, .box [.s (.string s14), .s (.string s15), .s (.int .i64 a16), .s (.int .i64 a17), .s (.int .i64 a18), .imm 211 xs19])], 353⟩
def f135.l4.step {R : Type} (k : Nat) (rec_ : (List S104) → (List S104) → Int → Int → Option R) (ret : (Bool ⊕ (Unit)) → Option R) (xs2 : List S104) (xs3 : List S104) (a4 : Int) (a5 : Int) : Option R :=
  if (decide (a5 < a4)) = true then
    if (0 : Int) ≤ a5 then
      if a5 < ((List.length xs3 : Nat) : Int) then
        (f175 k (List.getD xs3 (Int.toNat a5) (⟨ByteArray.empty, ByteArray.empty, (0 : Int), (0 : Int), (0 : Int), []⟩ : S104)).f0 (List.getD xs3 (Int.toNat a5) (⟨ByteArray.empty, ByteArray.empty, (0 : Int), (0 : Int), (0 : Int), []⟩ : S104)).f1 (List.getD xs3 (Int.toNat a5) (⟨ByteArray.empty, ByteArray.empty, (0 : Int), (0 : Int), (0 : Int), []⟩ : S104)).f2 (List.getD xs3 (Int.toNat a5) (⟨ByteArray.empty, ByteArray.empty, (0 : Int), (0 : Int), (0 : Int), []⟩ : S104)).f3 (List.getD xs3 (Int.toNat a5) (⟨ByteArray.empty, ByteArray.empty, (0 : Int), (0 : Int), (0 : Int), []⟩ : S104)).f4 (List.getD xs3 (Int.toNat a5) (⟨ByteArray.empty, ByteArray.empty, (0 : Int), (0 : Int), (0 : Int), []⟩ : S104)).f5).bind fun t6 => if (!t6) = true then
            ret (.inl false)
          else
            if (0 : Int) ≤ a5 then
              if a5 ≤ ((List.length xs2 : Nat) : Int) then
                (f135.l9 k k xs2 xs3 a4 a5 (List.drop 0 (List.take (Int.toNat a5) xs2)) (((List.length (List.drop 0 (List.take (Int.toNat a5) xs2))) : Nat) : Int) (0 : Int) (List.getD xs3 (Int.toNat a5) (⟨ByteArray.empty, ByteArray.empty, (0 : Int), (0 : Int), (0 : Int), []⟩ : S104)).f0 (List.getD xs3 (Int.toNat a5) (⟨ByteArray.empty, ByteArray.empty, (0 : Int), (0 : Int), (0 : Int), []⟩ : S104)).f1 (List.getD xs3 (Int.toNat a5) (⟨ByteArray.empty, ByteArray.empty, (0 : Int), (0 : Int), (0 : Int), []⟩ : S104)).f2 (List.getD xs3 (Int.toNat a5) (⟨ByteArray.empty, ByteArray.empty, (0 : Int), (0 : Int), (0 : Int), []⟩ : S104)).f3 (List.getD xs3 (Int.toNat a5) (⟨ByteArray.empty, ByteArray.empty, (0 : Int), (0 : Int), (0 : Int), []⟩ : S104)).f4 (List.getD xs3 (Int.toNat a5) (⟨ByteArray.empty, ByteArray.empty, (0 : Int), (0 : Int), (0 : Int), []⟩ : S104)).f5).bind (Sum.elim (fun t21 => ret (.inl t21.2.1)) (fun t22 => rec_ t22.1 t22.2.1 t22.2.2.1 (IntKind.i64.wrap (t22.2.2.2 + (1 : Int)))))
              else none
            else none
      else none
    else none
  else
    ret (.inr ())
def f135.l4 (k : Nat) : Nat → (List S104) → (List S104) → Int → Int → Option (Bool ⊕ (Unit))
  | 0, _, _, _, _ => none
  | j + 1, xs2, xs3, a4, a5 => f135.l4.step k (fun xs2 xs3 a4 a5 => f135.l4 k j xs2 xs3 a4 a5) some xs2 xs3 a4 a5
def f135.l4.w {R : Type} : (Bool ⊕ (Unit)) → (Exit → St env → Option R) → Option R := fun x K => Sum.elim (fun t27 => K .ret ⟨fullT [2] 0 33 [.v (.c (.s (.bool t27)))], [], 577⟩) (fun t28 => K (.exit 0) ⟨fullT [] 0 33 [], [], 577⟩) x
def f135.l4.st (xs2 : List S104) (xs3 : List S104) (a4 : Int) (a5 : Int) : St env := ⟨fullT [0, 10, 11, 12] 0 33 [.v (.c (.imm 104 xs2)), .v (.c (.imm 104 xs3)), .v (.c (.s (.int .i64 a4))), .v (.c (.s (.int .i64 a5)))], [], 113⟩
def f135.l9.hd (k : Nat) (ts_ : List (AV env)) (mm_ : Mem env) (n_ : Nat) : LCl env :=
  gTs LCl.no [0, 4, 10, 11, 12, 22, 23, 24] 33 ts_ fun l_ => gV LCl.no l_ fun a_ l_ => rImm LCl.no 104 a_ fun xs7 => gV LCl.no l_ fun a_ l_ => rBp LCl.no 177 0 a_ <| gV LCl.no l_ fun a_ l_ => rImm LCl.no 104 a_ fun xs8 => gV LCl.no l_ fun a_ l_ => rV LCl.no a_ fun v_ => vI LCl.no .i64 v_ fun a9 => gV LCl.no l_ fun a_ l_ => rV LCl.no a_ fun v_ => vI LCl.no .i64 v_ fun a10 => gV LCl.no l_ fun a_ l_ => rImm LCl.no 104 a_ fun xs11 => gV LCl.no l_ fun a_ l_ => rV LCl.no a_ fun v_ => vI LCl.no .i64 v_ fun a12 => gV LCl.no l_ fun a_ l_ => rV LCl.no a_ fun v_ => vI LCl.no .i64 v_ fun a13 => gE LCl.no l_ <| mBox LCl.no 177 mm_ fun c_ m_ => gC LCl.no c_ fun a_ c_ => rV LCl.no a_ fun v_ => vS LCl.no v_ fun s14 => gC LCl.no c_ fun a_ c_ => rV LCl.no a_ fun v_ => vS LCl.no v_ fun s15 => gC LCl.no c_ fun a_ c_ => rV LCl.no a_ fun v_ => vI LCl.no .i64 v_ fun a16 => gC LCl.no c_ fun a_ c_ => rV LCl.no a_ fun v_ => vI LCl.no .i64 v_ fun a17 => gC LCl.no c_ fun a_ c_ => rV LCl.no a_ fun v_ => vI LCl.no .i64 v_ fun a18 => gC LCl.no c_ fun a_ c_ => rImm LCl.no 211 a_ fun xs19 => gE LCl.no c_ <| gE LCl.no m_ <| gN LCl.no 353 n_ { α := ((List S104) × Bool × (List S104) × Int × Int) ⊕ ((List S104) × (List S104) × Int × Int), o := f135.l9 k k xs7 xs8 a9 a10 xs11 a12 a13 s14 s15 a16 a17 a18 xs19, w := f135.l9.w }
def f135.l4.hd (k : Nat) (ts_ : List (AV env)) (mm_ : Mem env) (n_ : Nat) : LCl env :=
  gTs LCl.no [0, 10, 11, 12] 33 ts_ fun l_ => gV LCl.no l_ fun a_ l_ => rImm LCl.no 104 a_ fun xs2 => gV LCl.no l_ fun a_ l_ => rImm LCl.no 104 a_ fun xs3 => gV LCl.no l_ fun a_ l_ => rV LCl.no a_ fun v_ => vI LCl.no .i64 v_ fun a4 => gV LCl.no l_ fun a_ l_ => rV LCl.no a_ fun v_ => vI LCl.no .i64 v_ fun a5 => gE LCl.no l_ <| gE LCl.no mm_ <| gN LCl.no 113 n_ { α := Bool ⊕ (Unit), o := f135.l4 k k xs2 xs3 a4 a5, w := f135.l4.w }
def f135.step {R : Type} (k : Nat) (ret : Bool → Option R) (xs1 : List S104) : Option R :=
  if (decide ((((List.length xs1) : Nat) : Int) > (6 : Int))) = true then
    ret false
  else
    (f135.l4 k k xs1 xs1 (((List.length xs1) : Nat) : Int) (0 : Int)).bind (Sum.elim (fun t23 => ret t23) (fun t24 => ret true))
def f135 (k : Nat) (xs1 : List S104) : Option Bool := f135.step k some xs1
def f135.w {R : Type} : Bool → (Res env → Option R) → Option R := fun t29 K => K ⟨.v (.c (.s (.bool t29))), [[]]⟩
theorem f135.wn (x : Bool) : ∃ res, ∀ {R : Type} (K : Res env → Option R), f135.w x K = K res := by
  exact ⟨_, fun _ => rfl⟩
def f135.hd (k : Nat) (ps_ : List (P2 env)) : Cl env :=
  gC Cl.no ps_ fun p_ ps_ => qC Cl.no p_ fun c_ => qSl Cl.no 104 c_ fun xs1 => gE Cl.no ps_ <| { α := Bool, o := f135 k xs1, w := f135.w, nat := fun x _ => f135.wn x }
def f135.e (k : Nat) : Entry env := ⟨fun ps => f135.hd k (coer [[.rd 104]] ps), [], []⟩
def f135.X (k : Nat) : Ctx env := { C := lookE [(175, f175.e k), (176, f176.e k)], L := lookE [(9, fun S => f135.l9.hd k S.ts S.m S.n), (4, fun S => f135.l4.hd k S.ts S.m S.n)], J := lookE [], keep := lookD [(9, [0, 4, 10, 11, 12, 22, 23, 24]), (4, [0, 10, 11, 12])], keepX := lookD [(9, [0, 2, 10, 11, 12]), (4, [2])], span := lookN [(9, 176), (4, 464)], eff := fun n => memN n [], prep := lookP [], np := 0 }
theorem f135.l9.nat {R : Type} (k : Nat) (rec_ : (List S104) → (List S104) → Int → Int → (List S104) → Int → Int → ByteArray → ByteArray → Int → Int → Int → (List S211) → Option (((List S104) × Bool × (List S104) × Int × Int) ⊕ ((List S104) × (List S104) × Int × Int))) (g : (((List S104) × Bool × (List S104) × Int × Int) ⊕ ((List S104) × (List S104) × Int × Int)) → Option R) (xs7 : List S104) (xs8 : List S104) (a9 : Int) (a10 : Int) (xs11 : List S104) (a12 : Int) (a13 : Int) (s14 : ByteArray) (s15 : ByteArray) (a16 : Int) (a17 : Int) (a18 : Int) (xs19 : List S211) : (f135.l9.step k rec_ some xs7 xs8 a9 a10 xs11 a12 a13 s14 s15 a16 a17 a18 xs19).bind g = f135.l9.step k (fun xs7 xs8 a9 a10 xs11 a12 a13 s14 s15 a16 a17 a18 xs19 => (rec_ xs7 xs8 a9 a10 xs11 a12 a13 s14 s15 a16 a17 a18 xs19).bind g) g xs7 xs8 a9 a10 xs11 a12 a13 s14 s15 a16 a17 a18 xs19 := by
  simp only [f135.l9.step, bind_ite, bind_sum, Option.bind_assoc, Option.bind_some, Option.bind_none]
theorem f135.l9.good (k : Nat) (xs7 : List S104) (xs8 : List S104) (a9 : Int) (a10 : Int) (xs11 : List S104) (a12 : Int) (a13 : Int) (s14 : ByteArray) (s15 : ByteArray) (a16 : Int) (a17 : Int) (a18 : Int) (xs19 : List S211) : GoodL (f135.X k) (nthC 1 (loopsOf (bodyOf Try.f135))) (f135.l9.st xs7 xs8 a9 a10 xs11 a12 a13 s14 s15 a16 a17 a18 xs19) { α := (((List S104) × Bool × (List S104) × Int × Int) ⊕ ((List S104) × (List S104) × Int × Int)), o := f135.l9 k k xs7 xs8 a9 a10 xs11 a12 a13 s14 s15 a16 a17 a18 xs19, w := f135.l9.w } :=
  loop_good (ι := (List S104) × (List S104) × Int × Int × (List S104) × Int × Int × ByteArray × ByteArray × Int × Int × Int × (List S211)) (α := (((List S104) × Bool × (List S104) × Int × Int) ⊕ ((List S104) × (List S104) × Int × Int))) (fun i => f135.l9.st i.1 i.2.1 i.2.2.1 i.2.2.2.1 i.2.2.2.2.1 i.2.2.2.2.2.1 i.2.2.2.2.2.2.1 i.2.2.2.2.2.2.2.1 i.2.2.2.2.2.2.2.2.1 i.2.2.2.2.2.2.2.2.2.1 i.2.2.2.2.2.2.2.2.2.2.1 i.2.2.2.2.2.2.2.2.2.2.2.1 i.2.2.2.2.2.2.2.2.2.2.2.2) (fun j i => f135.l9 k j i.1 i.2.1 i.2.2.1 i.2.2.2.1 i.2.2.2.2.1 i.2.2.2.2.2.1 i.2.2.2.2.2.2.1 i.2.2.2.2.2.2.2.1 i.2.2.2.2.2.2.2.2.1 i.2.2.2.2.2.2.2.2.2.1 i.2.2.2.2.2.2.2.2.2.2.1 i.2.2.2.2.2.2.2.2.2.2.2.1 i.2.2.2.2.2.2.2.2.2.2.2.2) f135.l9.w (fun rec_ ret i => f135.l9.step k (fun xs7 xs8 a9 a10 xs11 a12 a13 s14 s15 a16 a17 a18 xs19 => rec_ (xs7, xs8, a9, a10, xs11, a12, a13, s14, s15, a16, a17, a18, xs19)) ret i.1 i.2.1 i.2.2.1 i.2.2.2.1 i.2.2.2.2.1 i.2.2.2.2.2.1 i.2.2.2.2.2.2.1 i.2.2.2.2.2.2.2.1 i.2.2.2.2.2.2.2.2.1 i.2.2.2.2.2.2.2.2.2.1 i.2.2.2.2.2.2.2.2.2.2.1 i.2.2.2.2.2.2.2.2.2.2.2.1 i.2.2.2.2.2.2.2.2.2.2.2.2)
    (fun _ => rfl) (fun _ _ => rfl) (fun rec_ g i => f135.l9.nat k _ g i.1 i.2.1 i.2.2.1 i.2.2.2.1 i.2.2.2.2.1 i.2.2.2.2.2.1 i.2.2.2.2.2.2.1 i.2.2.2.2.2.2.2.1 i.2.2.2.2.2.2.2.2.1 i.2.2.2.2.2.2.2.2.2.1 i.2.2.2.2.2.2.2.2.2.2.1 i.2.2.2.2.2.2.2.2.2.2.2.1 i.2.2.2.2.2.2.2.2.2.2.2.2) (fun {R} i0 i rec_ K => by kernel_rfl) k (xs7, xs8, a9, a10, xs11, a12, a13, s14, s15, a16, a17, a18, xs19)
theorem f135.l9.all (k : Nat) (S : St env) : GoodL (f135.X k) (nthC 1 (loopsOf (bodyOf Try.f135))) S (f135.l9.hd k S.ts S.m S.n) := by
  obtain ⟨ts_, m_, n_⟩ := S
  show GoodL _ _ _ (f135.l9.hd k ts_ m_ n_)
  unfold f135.l9.hd
  refine gTs_ok (p := GoodL _ _ _) goodL_no fun _ h => ?_
  subst h
  refine gV_ok (p := GoodL _ _ _) goodL_no fun _ _ h => ?_
  subst h
  refine rImm_ok (p := GoodL _ _ _) goodL_no fun _ h => ?_
  subst h
  refine gV_ok (p := GoodL _ _ _) goodL_no fun _ _ h => ?_
  subst h
  refine rBp_ok (p := GoodL _ _ _) goodL_no fun h => ?_
  subst h
  refine gV_ok (p := GoodL _ _ _) goodL_no fun _ _ h => ?_
  subst h
  refine rImm_ok (p := GoodL _ _ _) goodL_no fun _ h => ?_
  subst h
  refine gV_ok (p := GoodL _ _ _) goodL_no fun _ _ h => ?_
  subst h
  refine rV_ok (p := GoodL _ _ _) goodL_no fun _ h => ?_
  subst h
  refine vI_ok (p := GoodL _ _ _) goodL_no fun _ h => ?_
  subst h
  refine gV_ok (p := GoodL _ _ _) goodL_no fun _ _ h => ?_
  subst h
  refine rV_ok (p := GoodL _ _ _) goodL_no fun _ h => ?_
  subst h
  refine vI_ok (p := GoodL _ _ _) goodL_no fun _ h => ?_
  subst h
  refine gV_ok (p := GoodL _ _ _) goodL_no fun _ _ h => ?_
  subst h
  refine rImm_ok (p := GoodL _ _ _) goodL_no fun _ h => ?_
  subst h
  refine gV_ok (p := GoodL _ _ _) goodL_no fun _ _ h => ?_
  subst h
  refine rV_ok (p := GoodL _ _ _) goodL_no fun _ h => ?_
  subst h
  refine vI_ok (p := GoodL _ _ _) goodL_no fun _ h => ?_
  subst h
  refine gV_ok (p := GoodL _ _ _) goodL_no fun _ _ h => ?_
  subst h
  refine rV_ok (p := GoodL _ _ _) goodL_no fun _ h => ?_
  subst h
  refine vI_ok (p := GoodL _ _ _) goodL_no fun _ h => ?_
  subst h
  refine gE_ok (p := GoodL _ _ _) goodL_no fun h => ?_
  subst h
  refine mBox_ok (p := GoodL _ _ _) goodL_no fun _ _ h => ?_
  subst h
  refine gC_ok (p := GoodL _ _ _) goodL_no fun _ _ h => ?_
  subst h
  refine rV_ok (p := GoodL _ _ _) goodL_no fun _ h => ?_
  subst h
  refine vS_ok (p := GoodL _ _ _) goodL_no fun _ h => ?_
  subst h
  refine gC_ok (p := GoodL _ _ _) goodL_no fun _ _ h => ?_
  subst h
  refine rV_ok (p := GoodL _ _ _) goodL_no fun _ h => ?_
  subst h
  refine vS_ok (p := GoodL _ _ _) goodL_no fun _ h => ?_
  subst h
  refine gC_ok (p := GoodL _ _ _) goodL_no fun _ _ h => ?_
  subst h
  refine rV_ok (p := GoodL _ _ _) goodL_no fun _ h => ?_
  subst h
  refine vI_ok (p := GoodL _ _ _) goodL_no fun _ h => ?_
  subst h
  refine gC_ok (p := GoodL _ _ _) goodL_no fun _ _ h => ?_
  subst h
  refine rV_ok (p := GoodL _ _ _) goodL_no fun _ h => ?_
  subst h
  refine vI_ok (p := GoodL _ _ _) goodL_no fun _ h => ?_
  subst h
  refine gC_ok (p := GoodL _ _ _) goodL_no fun _ _ h => ?_
  subst h
  refine rV_ok (p := GoodL _ _ _) goodL_no fun _ h => ?_
  subst h
  refine vI_ok (p := GoodL _ _ _) goodL_no fun _ h => ?_
  subst h
  refine gC_ok (p := GoodL _ _ _) goodL_no fun _ _ h => ?_
  subst h
  refine rImm_ok (p := GoodL _ _ _) goodL_no fun _ h => ?_
  subst h
  refine gE_ok (p := GoodL _ _ _) goodL_no fun h => ?_
  subst h
  refine gE_ok (p := GoodL _ _ _) goodL_no fun h => ?_
  subst h
  refine gN_ok (p := GoodL _ _ _) goodL_no fun h => ?_
  subst h
  exact f135.l9.good k _ _ _ _ _ _ _ _ _ _ _ _ _
theorem f135.l4.nat {R : Type} (k : Nat) (rec_ : (List S104) → (List S104) → Int → Int → Option (Bool ⊕ (Unit))) (g : (Bool ⊕ (Unit)) → Option R) (xs2 : List S104) (xs3 : List S104) (a4 : Int) (a5 : Int) : (f135.l4.step k rec_ some xs2 xs3 a4 a5).bind g = f135.l4.step k (fun xs2 xs3 a4 a5 => (rec_ xs2 xs3 a4 a5).bind g) g xs2 xs3 a4 a5 := by
  simp only [f135.l4.step, bind_ite, bind_sum, Option.bind_assoc, Option.bind_some, Option.bind_none]
theorem f135.l4.good (k : Nat) (xs2 : List S104) (xs3 : List S104) (a4 : Int) (a5 : Int) : GoodL (f135.X k) (nthC 0 (loopsOf (bodyOf Try.f135))) (f135.l4.st xs2 xs3 a4 a5) { α := (Bool ⊕ (Unit)), o := f135.l4 k k xs2 xs3 a4 a5, w := f135.l4.w } :=
  loop_good (ι := (List S104) × (List S104) × Int × Int) (α := (Bool ⊕ (Unit))) (fun i => f135.l4.st i.1 i.2.1 i.2.2.1 i.2.2.2) (fun j i => f135.l4 k j i.1 i.2.1 i.2.2.1 i.2.2.2) f135.l4.w (fun rec_ ret i => f135.l4.step k (fun xs2 xs3 a4 a5 => rec_ (xs2, xs3, a4, a5)) ret i.1 i.2.1 i.2.2.1 i.2.2.2)
    (fun _ => rfl) (fun _ _ => rfl) (fun rec_ g i => f135.l4.nat k _ g i.1 i.2.1 i.2.2.1 i.2.2.2) (fun {R} i0 i rec_ K => by kernel_rfl) k (xs2, xs3, a4, a5)
theorem f135.l4.all (k : Nat) (S : St env) : GoodL (f135.X k) (nthC 0 (loopsOf (bodyOf Try.f135))) S (f135.l4.hd k S.ts S.m S.n) := by
  obtain ⟨ts_, m_, n_⟩ := S
  show GoodL _ _ _ (f135.l4.hd k ts_ m_ n_)
  unfold f135.l4.hd
  refine gTs_ok (p := GoodL _ _ _) goodL_no fun _ h => ?_
  subst h
  refine gV_ok (p := GoodL _ _ _) goodL_no fun _ _ h => ?_
  subst h
  refine rImm_ok (p := GoodL _ _ _) goodL_no fun _ h => ?_
  subst h
  refine gV_ok (p := GoodL _ _ _) goodL_no fun _ _ h => ?_
  subst h
  refine rImm_ok (p := GoodL _ _ _) goodL_no fun _ h => ?_
  subst h
  refine gV_ok (p := GoodL _ _ _) goodL_no fun _ _ h => ?_
  subst h
  refine rV_ok (p := GoodL _ _ _) goodL_no fun _ h => ?_
  subst h
  refine vI_ok (p := GoodL _ _ _) goodL_no fun _ h => ?_
  subst h
  refine gV_ok (p := GoodL _ _ _) goodL_no fun _ _ h => ?_
  subst h
  refine rV_ok (p := GoodL _ _ _) goodL_no fun _ h => ?_
  subst h
  refine vI_ok (p := GoodL _ _ _) goodL_no fun _ h => ?_
  subst h
  refine gE_ok (p := GoodL _ _ _) goodL_no fun h => ?_
  subst h
  refine gE_ok (p := GoodL _ _ _) goodL_no fun h => ?_
  subst h
  refine gN_ok (p := GoodL _ _ _) goodL_no fun h => ?_
  subst h
  exact f135.l4.good k _ _ _ _
theorem f135.nat {R : Type} (k : Nat) (g : Bool → Option R) (xs1 : List S104) : f135.step k g xs1 = (f135 k xs1).bind g := by
  simp only [f135, f135.step, bind_ite, bind_sum, Option.bind_assoc, Option.bind_some, Option.bind_none]
theorem f135.ev (k : Nat) (xs1 : List S104) : evF (f135.X k) (bodyOf Try.f135) Try.f135.ntmps Try.f135.results.toList [.v (.c (.sl 104 xs1))] = f135.step k (fun x => f135.w x some) xs1 := by kernel_rfl
theorem f135.hok (k : Nat) : HOK (f135.X k) (bodyOf Try.f135) where
  l := allP_mem (by exact ⟨ls_of (h0 := fun S => f135.l4.hd k S.ts S.m S.n) (by kernel_rfl) (f135.l4.all k), ls_of (h0 := fun S => f135.l9.hd k S.ts S.m S.n) (by kernel_rfl) (f135.l9.all k), trivial⟩)
  j := allP_mem (by exact trivial)
theorem f135.sound0 (k : Nat) : SoundC env Try.prog 135 (f135.hd k) := by
  intro ps_
  show GoodC _ _ _ ps_ (f135.hd k ps_)
  unfold f135.hd
  refine gC_ok (p := GoodC env Try.prog 135 _) goodC_no fun _ _ h => ?_
  subst h
  refine qC_ok (p := GoodC env Try.prog 135 _) goodC_no fun _ h => ?_
  subst h
  refine qSl_ok (p := GoodC env Try.prog 135 _) goodC_no fun _ h => ?_
  subst h
  refine gE_ok (p := GoodC env Try.prog 135 _) goodC_no fun h => ?_
  subst h
  exact fun_good (fun_sound envOK (cs_sound _ (by exact ⟨⟨f175.sound k, f175.fnok⟩, ⟨f176.sound k, f176.fnok⟩, trivial⟩)) (f135.hok k) Try.func135 rfl) ((f135.ev k _).trans (f135.nat k _ _))
theorem f135.sound (k : Nat) : SoundC env Try.prog 135 (f135.e k).F := soundC_coer (f135.sound0 k) [[.rd 104]]
theorem f135.says (k : Nat) (xs1 : List S104) (t30 : Bool) (h_ : f135 k xs1 = some t30) : SoundAt env Try.prog 135 [.v (.c (.sl 104 xs1))] ⟨.v (.c (.s (.bool t30))), [[]]⟩ :=
  fun_sound envOK (cs_sound _ (by exact ⟨⟨f175.sound k, f175.fnok⟩, ⟨f176.sound k, f176.fnok⟩, trivial⟩)) (f135.hok k) Try.func135 rfl _ _ (((f135.ev k xs1).trans (f135.nat k _ xs1)).trans (by rw [h_]; rfl))
theorem f135.fnok : FnOK Try.prog 135 := fn_ok Try.func135 (by kernel_rfl) rfl
def f136.l3.step {R : Type} (k : Nat) (rec_ : (List S211) → Int → Int → ByteArray → ByteArray → Int → Int → Int → (List S211) → ByteArray → ByteArray → Int → Int → Int → (List S211) → Option R) (ret : (ByteArray × ByteArray × Int × Int × Int × (List S211) × ByteArray × ByteArray × Int × Int × Int × (List S211)) → Option R) (xs7 : List S211) (a8 : Int) (a9 : Int) (s10 : ByteArray) (s11 : ByteArray) (a12 : Int) (a13 : Int) (a14 : Int) (xs15 : List S211) (s16 : ByteArray) (s17 : ByteArray) (a18 : Int) (a19 : Int) (a20 : Int) (xs21 : List S211) : Option R :=
  if (decide (a9 < a8)) = true then
    if (0 : Int) ≤ a9 then
      if a9 < ((List.length xs7 : Nat) : Int) then
        if (List.length ([] : List Int) + List.length (List.getD xs7 (Int.toNat a9) (⟨(0 : Int), false, []⟩ : S211)).f2) * 1 ≤ maxN then
          if (0 : Int) ≤ a9 then
            if a9 < ((List.length xs21 : Nat) : Int) then
              rec_ xs7 a8 (IntKind.i64.wrap (a9 + (1 : Int))) s10 s11 a12 a13 a14 xs15 s16 s17 a18 a19 a20 (List.set xs21 (Int.toNat a9) (⟨(List.getD xs7 (Int.toNat a9) (⟨(0 : Int), false, []⟩ : S211)).f0, (List.getD xs7 (Int.toNat a9) (⟨(0 : Int), false, []⟩ : S211)).f1, (([] : List Int) ++ (List.getD xs7 (Int.toNat a9) (⟨(0 : Int), false, []⟩ : S211)).f2)⟩ : S211))
            else none
          else none
        else none
      else none
    else none
  else
    ret (s10, s11, a12, a13, a14, xs15, s16, s17, a18, a19, a20, xs21)
def f136.l3 (k : Nat) : Nat → (List S211) → Int → Int → ByteArray → ByteArray → Int → Int → Int → (List S211) → ByteArray → ByteArray → Int → Int → Int → (List S211) → Option (ByteArray × ByteArray × Int × Int × Int × (List S211) × ByteArray × ByteArray × Int × Int × Int × (List S211))
  | 0, _, _, _, _, _, _, _, _, _, _, _, _, _, _, _ => none
  | j + 1, xs7, a8, a9, s10, s11, a12, a13, a14, xs15, s16, s17, a18, a19, a20, xs21 => f136.l3.step k (fun xs7 a8 a9 s10 s11 a12 a13 a14 xs15 s16 s17 a18 a19 a20 xs21 => f136.l3 k j xs7 a8 a9 s10 s11 a12 a13 a14 xs15 s16 s17 a18 a19 a20 xs21) some xs7 a8 a9 s10 s11 a12 a13 a14 xs15 s16 s17 a18 a19 a20 xs21
def f136.l3.w {R : Type} : (ByteArray × ByteArray × Int × Int × Int × (List S211) × ByteArray × ByteArray × Int × Int × Int × (List S211)) → (Exit → St env → Option R) → Option R := fun t23 K => K (.exit 0) ⟨fullT [1, 2, 3] 0 31 [.v (.c (.bp 1 0)), .v (.c (.bp 17 0)), .v (.c (.row 81))], [(1, .box [.s (.string t23.1), .s (.string t23.2.1), .s (.int .i64 t23.2.2.1), .s (.int .i64 t23.2.2.2.1), .s (.int .i64 t23.2.2.2.2.1), .imm 211 t23.2.2.2.2.2.1]), (17, .box [.s (.string t23.2.2.2.2.2.2.1), .s (.string t23.2.2.2.2.2.2.2.1), .s (.int .i64 t23.2.2.2.2.2.2.2.2.1), .s (.int .i64 t23.2.2.2.2.2.2.2.2.2.1), .s (.int .i64 t23.2.2.2.2.2.2.2.2.2.2.1), .s (.slice none 0 0)]), (81, .row true 211 t23.2.2.2.2.2.2.2.2.2.2.2)], 497⟩
def f136.l3.st (xs7 : List S211) (a8 : Int) (a9 : Int) (s10 : ByteArray) (s11 : ByteArray) (a12 : Int) (a13 : Int) (a14 : Int) (xs15 : List S211) (s16 : ByteArray) (s17 : ByteArray) (a18 : Int) (a19 : Int) (a20 : Int) (xs21 : List S211) : St env := ⟨fullT [1, 2, 3, 11, 12, 13] 0 31 [.v (.c (.bp 1 0)), .v (.c (.bp 17 0)), .v (.c (.row 81)), .v (.c (.imm 211 xs7)), .v (.c (.s (.int .i64 a8))), .v (.c (.s (.int .i64 a9)))], [(1, .box [.s (.string s10), .s (.string s11), .s (.int .i64 a12), .s (.int .i64 a13), .s (.int .i64 a14), .imm 211 xs15]), (17, .box [.s (.string s16), .s (.string s17), .s (.int .i64 a18), .s (.int .i64 a19), .s (.int .i64 a20), .s (.slice none 0 0)]), (81, .row true 211 xs21)], 177⟩
def f136.l3.hd (k : Nat) (ts_ : List (AV env)) (mm_ : Mem env) (n_ : Nat) : LCl env :=
  gTs LCl.no [1, 2, 3, 11, 12, 13] 31 ts_ fun l_ => gV LCl.no l_ fun a_ l_ => rBp LCl.no 1 0 a_ <| gV LCl.no l_ fun a_ l_ => rBp LCl.no 17 0 a_ <| gV LCl.no l_ fun a_ l_ => rRow LCl.no 81 a_ <| gV LCl.no l_ fun a_ l_ => rImm LCl.no 211 a_ fun xs7 => gV LCl.no l_ fun a_ l_ => rV LCl.no a_ fun v_ => vI LCl.no .i64 v_ fun a8 => gV LCl.no l_ fun a_ l_ => rV LCl.no a_ fun v_ => vI LCl.no .i64 v_ fun a9 => gE LCl.no l_ <| mBox LCl.no 1 mm_ fun c_ m_ => gC LCl.no c_ fun a_ c_ => rV LCl.no a_ fun v_ => vS LCl.no v_ fun s10 => gC LCl.no c_ fun a_ c_ => rV LCl.no a_ fun v_ => vS LCl.no v_ fun s11 => gC LCl.no c_ fun a_ c_ => rV LCl.no a_ fun v_ => vI LCl.no .i64 v_ fun a12 => gC LCl.no c_ fun a_ c_ => rV LCl.no a_ fun v_ => vI LCl.no .i64 v_ fun a13 => gC LCl.no c_ fun a_ c_ => rV LCl.no a_ fun v_ => vI LCl.no .i64 v_ fun a14 => gC LCl.no c_ fun a_ c_ => rImm LCl.no 211 a_ fun xs15 => gE LCl.no c_ <| mBox LCl.no 17 m_ fun c_ m_ => gC LCl.no c_ fun a_ c_ => rV LCl.no a_ fun v_ => vS LCl.no v_ fun s16 => gC LCl.no c_ fun a_ c_ => rV LCl.no a_ fun v_ => vS LCl.no v_ fun s17 => gC LCl.no c_ fun a_ c_ => rV LCl.no a_ fun v_ => vI LCl.no .i64 v_ fun a18 => gC LCl.no c_ fun a_ c_ => rV LCl.no a_ fun v_ => vI LCl.no .i64 v_ fun a19 => gC LCl.no c_ fun a_ c_ => rV LCl.no a_ fun v_ => vI LCl.no .i64 v_ fun a20 => gC LCl.no c_ fun a_ c_ => rV LCl.no a_ fun v_ => vNil LCl.no v_ <| gE LCl.no c_ <| mRow LCl.no 81 true 211 m_ fun xs21 m_ => gE LCl.no m_ <| gN LCl.no 177 n_ { α := ByteArray × ByteArray × Int × Int × Int × (List S211) × ByteArray × ByteArray × Int × Int × Int × (List S211), o := f136.l3 k k xs7 a8 a9 s10 s11 a12 a13 a14 xs15 s16 s17 a18 a19 a20 xs21, w := f136.l3.w }
def f136.step {R : Type} (k : Nat) (ret : (ByteArray × ByteArray × Int × Int × Int × (List S211)) → Option R) (s1 : ByteArray) (s2 : ByteArray) (a3 : Int) (a4 : Int) (a5 : Int) (xs6 : List S211) : Option R :=
  if (0 : Int) ≤ (((List.length xs6) : Nat) : Int) then
    if (Int.toNat (((List.length xs6) : Nat) : Int)) * 40 ≤ maxN then
      (f136.l3 k k xs6 (((List.length xs6) : Nat) : Int) (0 : Int) s1 s2 a3 a4 a5 xs6 ByteArray.empty ByteArray.empty (0 : Int) (0 : Int) (0 : Int) (List.replicate (Int.toNat (((List.length xs6) : Nat) : Int)) (⟨(0 : Int), false, []⟩ : S211))).bind fun t22 => ret (t22.1, t22.2.1, t22.2.2.1, t22.2.2.2.1, t22.2.2.2.2.1, t22.2.2.2.2.2.2.2.2.2.2.2)
    else none
  else none
def f136 (k : Nat) (s1 : ByteArray) (s2 : ByteArray) (a3 : Int) (a4 : Int) (a5 : Int) (xs6 : List S211) : Option (ByteArray × ByteArray × Int × Int × Int × (List S211)) := f136.step k some s1 s2 a3 a4 a5 xs6
def f136.w {R : Type} : (ByteArray × ByteArray × Int × Int × Int × (List S211)) → (Res env → Option R) → Option R := fun t24 K => K ⟨.v (.g [.s (.string t24.1), .s (.string t24.2.1), .s (.int .i64 t24.2.2.1), .s (.int .i64 t24.2.2.2.1), .s (.int .i64 t24.2.2.2.2.1), .own true 211 t24.2.2.2.2.2]), [[]]⟩
theorem f136.wn (x : (ByteArray × ByteArray × Int × Int × Int × (List S211))) : ∃ res, ∀ {R : Type} (K : Res env → Option R), f136.w x K = K res := by
  exact ⟨_, fun _ => rfl⟩
def f136.hd (k : Nat) (ps_ : List (P2 env)) : Cl env :=
  gC Cl.no ps_ fun p_ ps_ => qG Cl.no p_ fun cs_ => gC Cl.no cs_ fun c_ cs_ => qS Cl.no c_ fun v_ => vS Cl.no v_ fun s1 => gC Cl.no cs_ fun c_ cs_ => qS Cl.no c_ fun v_ => vS Cl.no v_ fun s2 => gC Cl.no cs_ fun c_ cs_ => qS Cl.no c_ fun v_ => vI Cl.no .i64 v_ fun a3 => gC Cl.no cs_ fun c_ cs_ => qS Cl.no c_ fun v_ => vI Cl.no .i64 v_ fun a4 => gC Cl.no cs_ fun c_ cs_ => qS Cl.no c_ fun v_ => vI Cl.no .i64 v_ fun a5 => gC Cl.no cs_ fun c_ cs_ => qSl Cl.no 211 c_ fun xs6 => gE Cl.no cs_ <| gE Cl.no ps_ <| { α := ByteArray × ByteArray × Int × Int × Int × (List S211), o := f136 k s1 s2 a3 a4 a5 xs6, w := f136.w, nat := fun x _ => f136.wn x }
def f136.e (k : Nat) : Entry env := ⟨fun ps => f136.hd k (coer [[.no, .no, .no, .no, .no, .rd 211]] ps), [], []⟩
def f136.X (k : Nat) : Ctx env := { C := lookE [], L := lookE [(3, fun S => f136.l3.hd k S.ts S.m S.n)], J := lookE [], keep := lookD [(3, [1, 2, 3, 11, 12, 13])], keepX := lookD [(3, [1, 2, 3])], span := lookN [(3, 320)], eff := fun n => memN n [], prep := lookP [], np := 0 }
theorem f136.l3.nat {R : Type} (k : Nat) (rec_ : (List S211) → Int → Int → ByteArray → ByteArray → Int → Int → Int → (List S211) → ByteArray → ByteArray → Int → Int → Int → (List S211) → Option (ByteArray × ByteArray × Int × Int × Int × (List S211) × ByteArray × ByteArray × Int × Int × Int × (List S211))) (g : (ByteArray × ByteArray × Int × Int × Int × (List S211) × ByteArray × ByteArray × Int × Int × Int × (List S211)) → Option R) (xs7 : List S211) (a8 : Int) (a9 : Int) (s10 : ByteArray) (s11 : ByteArray) (a12 : Int) (a13 : Int) (a14 : Int) (xs15 : List S211) (s16 : ByteArray) (s17 : ByteArray) (a18 : Int) (a19 : Int) (a20 : Int) (xs21 : List S211) : (f136.l3.step k rec_ some xs7 a8 a9 s10 s11 a12 a13 a14 xs15 s16 s17 a18 a19 a20 xs21).bind g = f136.l3.step k (fun xs7 a8 a9 s10 s11 a12 a13 a14 xs15 s16 s17 a18 a19 a20 xs21 => (rec_ xs7 a8 a9 s10 s11 a12 a13 a14 xs15 s16 s17 a18 a19 a20 xs21).bind g) g xs7 a8 a9 s10 s11 a12 a13 a14 xs15 s16 s17 a18 a19 a20 xs21 := by
  simp only [f136.l3.step, bind_ite, bind_sum, Option.bind_assoc, Option.bind_some, Option.bind_none]
theorem f136.l3.good (k : Nat) (xs7 : List S211) (a8 : Int) (a9 : Int) (s10 : ByteArray) (s11 : ByteArray) (a12 : Int) (a13 : Int) (a14 : Int) (xs15 : List S211) (s16 : ByteArray) (s17 : ByteArray) (a18 : Int) (a19 : Int) (a20 : Int) (xs21 : List S211) : GoodL (f136.X k) (nthC 0 (loopsOf (bodyOf Try.f136))) (f136.l3.st xs7 a8 a9 s10 s11 a12 a13 a14 xs15 s16 s17 a18 a19 a20 xs21) { α := (ByteArray × ByteArray × Int × Int × Int × (List S211) × ByteArray × ByteArray × Int × Int × Int × (List S211)), o := f136.l3 k k xs7 a8 a9 s10 s11 a12 a13 a14 xs15 s16 s17 a18 a19 a20 xs21, w := f136.l3.w } :=
  loop_good (ι := (List S211) × Int × Int × ByteArray × ByteArray × Int × Int × Int × (List S211) × ByteArray × ByteArray × Int × Int × Int × (List S211)) (α := (ByteArray × ByteArray × Int × Int × Int × (List S211) × ByteArray × ByteArray × Int × Int × Int × (List S211))) (fun i => f136.l3.st i.1 i.2.1 i.2.2.1 i.2.2.2.1 i.2.2.2.2.1 i.2.2.2.2.2.1 i.2.2.2.2.2.2.1 i.2.2.2.2.2.2.2.1 i.2.2.2.2.2.2.2.2.1 i.2.2.2.2.2.2.2.2.2.1 i.2.2.2.2.2.2.2.2.2.2.1 i.2.2.2.2.2.2.2.2.2.2.2.1 i.2.2.2.2.2.2.2.2.2.2.2.2.1 i.2.2.2.2.2.2.2.2.2.2.2.2.2.1 i.2.2.2.2.2.2.2.2.2.2.2.2.2.2) (fun j i => f136.l3 k j i.1 i.2.1 i.2.2.1 i.2.2.2.1 i.2.2.2.2.1 i.2.2.2.2.2.1 i.2.2.2.2.2.2.1 i.2.2.2.2.2.2.2.1 i.2.2.2.2.2.2.2.2.1 i.2.2.2.2.2.2.2.2.2.1 i.2.2.2.2.2.2.2.2.2.2.1 i.2.2.2.2.2.2.2.2.2.2.2.1 i.2.2.2.2.2.2.2.2.2.2.2.2.1 i.2.2.2.2.2.2.2.2.2.2.2.2.2.1 i.2.2.2.2.2.2.2.2.2.2.2.2.2.2) f136.l3.w (fun rec_ ret i => f136.l3.step k (fun xs7 a8 a9 s10 s11 a12 a13 a14 xs15 s16 s17 a18 a19 a20 xs21 => rec_ (xs7, a8, a9, s10, s11, a12, a13, a14, xs15, s16, s17, a18, a19, a20, xs21)) ret i.1 i.2.1 i.2.2.1 i.2.2.2.1 i.2.2.2.2.1 i.2.2.2.2.2.1 i.2.2.2.2.2.2.1 i.2.2.2.2.2.2.2.1 i.2.2.2.2.2.2.2.2.1 i.2.2.2.2.2.2.2.2.2.1 i.2.2.2.2.2.2.2.2.2.2.1 i.2.2.2.2.2.2.2.2.2.2.2.1 i.2.2.2.2.2.2.2.2.2.2.2.2.1 i.2.2.2.2.2.2.2.2.2.2.2.2.2.1 i.2.2.2.2.2.2.2.2.2.2.2.2.2.2)
    (fun _ => rfl) (fun _ _ => rfl) (fun rec_ g i => f136.l3.nat k _ g i.1 i.2.1 i.2.2.1 i.2.2.2.1 i.2.2.2.2.1 i.2.2.2.2.2.1 i.2.2.2.2.2.2.1 i.2.2.2.2.2.2.2.1 i.2.2.2.2.2.2.2.2.1 i.2.2.2.2.2.2.2.2.2.1 i.2.2.2.2.2.2.2.2.2.2.1 i.2.2.2.2.2.2.2.2.2.2.2.1 i.2.2.2.2.2.2.2.2.2.2.2.2.1 i.2.2.2.2.2.2.2.2.2.2.2.2.2.1 i.2.2.2.2.2.2.2.2.2.2.2.2.2.2) (fun {R} i0 i rec_ K => by kernel_rfl) k (xs7, a8, a9, s10, s11, a12, a13, a14, xs15, s16, s17, a18, a19, a20, xs21)
theorem f136.l3.all (k : Nat) (S : St env) : GoodL (f136.X k) (nthC 0 (loopsOf (bodyOf Try.f136))) S (f136.l3.hd k S.ts S.m S.n) := by
  obtain ⟨ts_, m_, n_⟩ := S
  show GoodL _ _ _ (f136.l3.hd k ts_ m_ n_)
  unfold f136.l3.hd
  refine gTs_ok (p := GoodL _ _ _) goodL_no fun _ h => ?_
  subst h
  refine gV_ok (p := GoodL _ _ _) goodL_no fun _ _ h => ?_
  subst h
  refine rBp_ok (p := GoodL _ _ _) goodL_no fun h => ?_
  subst h
  refine gV_ok (p := GoodL _ _ _) goodL_no fun _ _ h => ?_
  subst h
  refine rBp_ok (p := GoodL _ _ _) goodL_no fun h => ?_
  subst h
  refine gV_ok (p := GoodL _ _ _) goodL_no fun _ _ h => ?_
  subst h
  refine rRow_ok (p := GoodL _ _ _) goodL_no fun h => ?_
  subst h
  refine gV_ok (p := GoodL _ _ _) goodL_no fun _ _ h => ?_
  subst h
  refine rImm_ok (p := GoodL _ _ _) goodL_no fun _ h => ?_
  subst h
  refine gV_ok (p := GoodL _ _ _) goodL_no fun _ _ h => ?_
  subst h
  refine rV_ok (p := GoodL _ _ _) goodL_no fun _ h => ?_
  subst h
  refine vI_ok (p := GoodL _ _ _) goodL_no fun _ h => ?_
  subst h
  refine gV_ok (p := GoodL _ _ _) goodL_no fun _ _ h => ?_
  subst h
  refine rV_ok (p := GoodL _ _ _) goodL_no fun _ h => ?_
  subst h
  refine vI_ok (p := GoodL _ _ _) goodL_no fun _ h => ?_
  subst h
  refine gE_ok (p := GoodL _ _ _) goodL_no fun h => ?_
  subst h
  refine mBox_ok (p := GoodL _ _ _) goodL_no fun _ _ h => ?_
  subst h
  refine gC_ok (p := GoodL _ _ _) goodL_no fun _ _ h => ?_
  subst h
  refine rV_ok (p := GoodL _ _ _) goodL_no fun _ h => ?_
  subst h
  refine vS_ok (p := GoodL _ _ _) goodL_no fun _ h => ?_
  subst h
  refine gC_ok (p := GoodL _ _ _) goodL_no fun _ _ h => ?_
  subst h
  refine rV_ok (p := GoodL _ _ _) goodL_no fun _ h => ?_
  subst h
  refine vS_ok (p := GoodL _ _ _) goodL_no fun _ h => ?_
  subst h
  refine gC_ok (p := GoodL _ _ _) goodL_no fun _ _ h => ?_
  subst h
  refine rV_ok (p := GoodL _ _ _) goodL_no fun _ h => ?_
  subst h
  refine vI_ok (p := GoodL _ _ _) goodL_no fun _ h => ?_
  subst h
  refine gC_ok (p := GoodL _ _ _) goodL_no fun _ _ h => ?_
  subst h
  refine rV_ok (p := GoodL _ _ _) goodL_no fun _ h => ?_
  subst h
  refine vI_ok (p := GoodL _ _ _) goodL_no fun _ h => ?_
  subst h
  refine gC_ok (p := GoodL _ _ _) goodL_no fun _ _ h => ?_
  subst h
  refine rV_ok (p := GoodL _ _ _) goodL_no fun _ h => ?_
  subst h
  refine vI_ok (p := GoodL _ _ _) goodL_no fun _ h => ?_
  subst h
  refine gC_ok (p := GoodL _ _ _) goodL_no fun _ _ h => ?_
  subst h
  refine rImm_ok (p := GoodL _ _ _) goodL_no fun _ h => ?_
  subst h
  refine gE_ok (p := GoodL _ _ _) goodL_no fun h => ?_
  subst h
  refine mBox_ok (p := GoodL _ _ _) goodL_no fun _ _ h => ?_
  subst h
  refine gC_ok (p := GoodL _ _ _) goodL_no fun _ _ h => ?_
  subst h
  refine rV_ok (p := GoodL _ _ _) goodL_no fun _ h => ?_
  subst h
  refine vS_ok (p := GoodL _ _ _) goodL_no fun _ h => ?_
  subst h
  refine gC_ok (p := GoodL _ _ _) goodL_no fun _ _ h => ?_
  subst h
  refine rV_ok (p := GoodL _ _ _) goodL_no fun _ h => ?_
  subst h
  refine vS_ok (p := GoodL _ _ _) goodL_no fun _ h => ?_
  subst h
  refine gC_ok (p := GoodL _ _ _) goodL_no fun _ _ h => ?_
  subst h
  refine rV_ok (p := GoodL _ _ _) goodL_no fun _ h => ?_
  subst h
  refine vI_ok (p := GoodL _ _ _) goodL_no fun _ h => ?_
  subst h
  refine gC_ok (p := GoodL _ _ _) goodL_no fun _ _ h => ?_
  subst h
  refine rV_ok (p := GoodL _ _ _) goodL_no fun _ h => ?_
  subst h
  refine vI_ok (p := GoodL _ _ _) goodL_no fun _ h => ?_
  subst h
  refine gC_ok (p := GoodL _ _ _) goodL_no fun _ _ h => ?_
  subst h
  refine rV_ok (p := GoodL _ _ _) goodL_no fun _ h => ?_
  subst h
  refine vI_ok (p := GoodL _ _ _) goodL_no fun _ h => ?_
  subst h
  refine gC_ok (p := GoodL _ _ _) goodL_no fun _ _ h => ?_
  subst h
  refine rV_ok (p := GoodL _ _ _) goodL_no fun _ h => ?_
  subst h
  refine vNil_ok (p := GoodL _ _ _) goodL_no fun h => ?_
  subst h
  refine gE_ok (p := GoodL _ _ _) goodL_no fun h => ?_
  subst h
  refine mRow_ok (p := GoodL _ _ _) goodL_no fun _ _ h => ?_
  subst h
  refine gE_ok (p := GoodL _ _ _) goodL_no fun h => ?_
  subst h
  refine gN_ok (p := GoodL _ _ _) goodL_no fun h => ?_
  subst h
  exact f136.l3.good k _ _ _ _ _ _ _ _ _ _ _ _ _ _ _
theorem f136.nat {R : Type} (k : Nat) (g : (ByteArray × ByteArray × Int × Int × Int × (List S211)) → Option R) (s1 : ByteArray) (s2 : ByteArray) (a3 : Int) (a4 : Int) (a5 : Int) (xs6 : List S211) : f136.step k g s1 s2 a3 a4 a5 xs6 = (f136 k s1 s2 a3 a4 a5 xs6).bind g := by
  simp only [f136, f136.step, bind_ite, bind_sum, Option.bind_assoc, Option.bind_some, Option.bind_none]
theorem f136.ev (k : Nat) (s1 : ByteArray) (s2 : ByteArray) (a3 : Int) (a4 : Int) (a5 : Int) (xs6 : List S211) : evF (f136.X k) (bodyOf Try.f136) Try.f136.ntmps Try.f136.results.toList [.g [.s (.string s1), .s (.string s2), .s (.int .i64 a3), .s (.int .i64 a4), .s (.int .i64 a5), .sl 211 xs6]] = f136.step k (fun x => f136.w x some) s1 s2 a3 a4 a5 xs6 := by kernel_rfl
theorem f136.hok (k : Nat) : HOK (f136.X k) (bodyOf Try.f136) where
  l := allP_mem (by exact ⟨ls_of (h0 := fun S => f136.l3.hd k S.ts S.m S.n) (by kernel_rfl) (f136.l3.all k), trivial⟩)
  j := allP_mem (by exact trivial)
theorem f136.sound0 (k : Nat) : SoundC env Try.prog 136 (f136.hd k) := by
  intro ps_
  show GoodC _ _ _ ps_ (f136.hd k ps_)
  unfold f136.hd
  refine gC_ok (p := GoodC env Try.prog 136 _) goodC_no fun _ _ h => ?_
  subst h
  refine qG_ok (p := GoodC env Try.prog 136 _) goodC_no fun _ h => ?_
  subst h
  refine gC_ok (p := GoodC env Try.prog 136 _) goodC_no fun _ _ h => ?_
  subst h
  refine qS_ok (p := GoodC env Try.prog 136 _) goodC_no fun _ h => ?_
  subst h
  refine vS_ok (p := GoodC env Try.prog 136 _) goodC_no fun _ h => ?_
  subst h
  refine gC_ok (p := GoodC env Try.prog 136 _) goodC_no fun _ _ h => ?_
  subst h
  refine qS_ok (p := GoodC env Try.prog 136 _) goodC_no fun _ h => ?_
  subst h
  refine vS_ok (p := GoodC env Try.prog 136 _) goodC_no fun _ h => ?_
  subst h
  refine gC_ok (p := GoodC env Try.prog 136 _) goodC_no fun _ _ h => ?_
  subst h
  refine qS_ok (p := GoodC env Try.prog 136 _) goodC_no fun _ h => ?_
  subst h
  refine vI_ok (p := GoodC env Try.prog 136 _) goodC_no fun _ h => ?_
  subst h
  refine gC_ok (p := GoodC env Try.prog 136 _) goodC_no fun _ _ h => ?_
  subst h
  refine qS_ok (p := GoodC env Try.prog 136 _) goodC_no fun _ h => ?_
  subst h
  refine vI_ok (p := GoodC env Try.prog 136 _) goodC_no fun _ h => ?_
  subst h
  refine gC_ok (p := GoodC env Try.prog 136 _) goodC_no fun _ _ h => ?_
  subst h
  refine qS_ok (p := GoodC env Try.prog 136 _) goodC_no fun _ h => ?_
  subst h
  refine vI_ok (p := GoodC env Try.prog 136 _) goodC_no fun _ h => ?_
  subst h
  refine gC_ok (p := GoodC env Try.prog 136 _) goodC_no fun _ _ h => ?_
  subst h
  refine qSl_ok (p := GoodC env Try.prog 136 _) goodC_no fun _ h => ?_
  subst h
  refine gE_ok (p := GoodC env Try.prog 136 _) goodC_no fun h => ?_
  subst h
  refine gE_ok (p := GoodC env Try.prog 136 _) goodC_no fun h => ?_
  subst h
  exact fun_good (fun_sound envOK (cs_sound _ (by exact trivial)) (f136.hok k) Try.func136 rfl) ((f136.ev k _ _ _ _ _ _).trans (f136.nat k _ _ _ _ _ _ _))
theorem f136.sound (k : Nat) : SoundC env Try.prog 136 (f136.e k).F := soundC_coer (f136.sound0 k) [[.no, .no, .no, .no, .no, .rd 211]]
theorem f136.says (k : Nat) (s1 : ByteArray) (s2 : ByteArray) (a3 : Int) (a4 : Int) (a5 : Int) (xs6 : List S211) (t25 : ByteArray × ByteArray × Int × Int × Int × (List S211)) (h_ : f136 k s1 s2 a3 a4 a5 xs6 = some t25) : SoundAt env Try.prog 136 [.g [.s (.string s1), .s (.string s2), .s (.int .i64 a3), .s (.int .i64 a4), .s (.int .i64 a5), .sl 211 xs6]] ⟨.v (.g [.s (.string t25.1), .s (.string t25.2.1), .s (.int .i64 t25.2.2.1), .s (.int .i64 t25.2.2.2.1), .s (.int .i64 t25.2.2.2.2.1), .own true 211 t25.2.2.2.2.2]), [[]]⟩ :=
  fun_sound envOK (cs_sound _ (by exact trivial)) (f136.hok k) Try.func136 rfl _ _ (((f136.ev k s1 s2 a3 a4 a5 xs6).trans (f136.nat k _ s1 s2 a3 a4 a5 xs6)).trans (by rw [h_]; rfl))
theorem f136.fnok : FnOK Try.prog 136 := fn_ok Try.func136 (by kernel_rfl) rfl
def f69.l9.step {R : Type} (k : Nat) (rec_ : (List S104) → Int → (List S104) → Int → Int → (List S104) → Option R) (ret : ((List S104) × (List S104)) → Option R) (xs5 : List S104) (a6 : Int) (xs7 : List S104) (a8 : Int) (a9 : Int) (xs10 : List S104) : Option R :=
  if (decide (a9 < a8)) = true then
    if (0 : Int) ≤ a9 then
      if a9 < ((List.length xs7 : Nat) : Int) then
        if (decide ((List.getD xs7 (Int.toNat a9) (⟨ByteArray.empty, ByteArray.empty, (0 : Int), (0 : Int), (0 : Int), []⟩ : S104)).f4 > a6)) = true then
          (f136 k (List.getD xs7 (Int.toNat a9) (⟨ByteArray.empty, ByteArray.empty, (0 : Int), (0 : Int), (0 : Int), []⟩ : S104)).f0 (List.getD xs7 (Int.toNat a9) (⟨ByteArray.empty, ByteArray.empty, (0 : Int), (0 : Int), (0 : Int), []⟩ : S104)).f1 (List.getD xs7 (Int.toNat a9) (⟨ByteArray.empty, ByteArray.empty, (0 : Int), (0 : Int), (0 : Int), []⟩ : S104)).f2 (List.getD xs7 (Int.toNat a9) (⟨ByteArray.empty, ByteArray.empty, (0 : Int), (0 : Int), (0 : Int), []⟩ : S104)).f3 (List.getD xs7 (Int.toNat a9) (⟨ByteArray.empty, ByteArray.empty, (0 : Int), (0 : Int), (0 : Int), []⟩ : S104)).f4 (List.getD xs7 (Int.toNat a9) (⟨ByteArray.empty, ByteArray.empty, (0 : Int), (0 : Int), (0 : Int), []⟩ : S104)).f5).bind fun t11 => if (List.length xs10 + List.length ([(⟨t11.1, t11.2.1, t11.2.2.1, t11.2.2.2.1, t11.2.2.2.2.1, t11.2.2.2.2.2⟩ : S104)] : List S104)) * 80 ≤ maxN then
              rec_ xs5 a6 xs7 a8 (IntKind.i64.wrap (a9 + (1 : Int))) (xs10 ++ ([(⟨t11.1, t11.2.1, t11.2.2.1, t11.2.2.2.1, t11.2.2.2.2.1, t11.2.2.2.2.2⟩ : S104)] : List S104))
            else none
        else
          rec_ xs5 a6 xs7 a8 (IntKind.i64.wrap (a9 + (1 : Int))) xs10
      else none
    else none
  else
    ret (xs5, xs10)
def f69.l9 (k : Nat) : Nat → (List S104) → Int → (List S104) → Int → Int → (List S104) → Option ((List S104) × (List S104))
  | 0, _, _, _, _, _, _ => none
  | j + 1, xs5, a6, xs7, a8, a9, xs10 => f69.l9.step k (fun xs5 a6 xs7 a8 a9 xs10 => f69.l9 k j xs5 a6 xs7 a8 a9 xs10) some xs5 a6 xs7 a8 a9 xs10
def f69.l9.w {R : Type} : ((List S104) × (List S104)) → (Exit → St env → Option R) → Option R := fun t13 K => K (.exit 0) ⟨fullT [0, 7] 0 42 [.v (.c (.imm 104 t13.1)), .v (.c (.row 194))], [(194, .row true 104 t13.2)], 546⟩
def f69.l9.st (xs5 : List S104) (a6 : Int) (xs7 : List S104) (a8 : Int) (a9 : Int) (xs10 : List S104) : St env := ⟨fullT [0, 1, 7, 20, 21, 22] 0 42 [.v (.c (.imm 104 xs5)), .v (.c (.s (.int .i64 a6))), .v (.c (.row 194)), .v (.c (.imm 104 xs7)), .v (.c (.s (.int .i64 a8))), .v (.c (.s (.int .i64 a9)))], [(194, .row true 104 xs10)], 274⟩
def f69.l9.hd (k : Nat) (ts_ : List (AV env)) (mm_ : Mem env) (n_ : Nat) : LCl env :=
  gTs LCl.no [0, 1, 7, 20, 21, 22] 42 ts_ fun l_ => gV LCl.no l_ fun a_ l_ => rImm LCl.no 104 a_ fun xs5 => gV LCl.no l_ fun a_ l_ => rV LCl.no a_ fun v_ => vI LCl.no .i64 v_ fun a6 => gV LCl.no l_ fun a_ l_ => rRow LCl.no 194 a_ <| gV LCl.no l_ fun a_ l_ => rImm LCl.no 104 a_ fun xs7 => gV LCl.no l_ fun a_ l_ => rV LCl.no a_ fun v_ => vI LCl.no .i64 v_ fun a8 => gV LCl.no l_ fun a_ l_ => rV LCl.no a_ fun v_ => vI LCl.no .i64 v_ fun a9 => gE LCl.no l_ <| mRow LCl.no 194 true 104 mm_ fun xs10 m_ => gE LCl.no m_ <| gN LCl.no 274 n_ { α := (List S104) × (List S104), o := f69.l9 k k xs5 a6 xs7 a8 a9 xs10, w := f69.l9.w }
def f69.step {R : Type} (k : Nat) (ret : ((Int × Int) ⊕ ((List S104) × Int × Int)) → Option R) (xs1 : List S104) (a2 : Int) : Option R :=
  if (decide ((((List.length xs1) : Nat) : Int) > (4096 : Int))) = true then
    ret (.inl ((0 : Int), (2 : Int)))
  else
    (f135 k xs1).bind fun t3 => if (!t3) = true then
        ret (.inl ((0 : Int), (1 : Int)))
      else
        (f83 k a2 (0 : Int) (1000000 : Int)).bind fun t4 => if (!t4) = true then
            ret (.inl ((0 : Int), (4 : Int)))
          else
            (f69.l9 k k xs1 a2 xs1 (((List.length xs1) : Nat) : Int) (0 : Int) ([] : List S104)).bind fun t12 => ret (.inr (t12.2, (IntKind.i64.wrap ((((List.length t12.1) : Nat) : Int) - (((List.length t12.2) : Nat) : Int))), (0 : Int)))
def f69 (k : Nat) (xs1 : List S104) (a2 : Int) : Option ((Int × Int) ⊕ ((List S104) × Int × Int)) := f69.step k some xs1 a2
def f69.w {R : Type} : ((Int × Int) ⊕ ((List S104) × Int × Int)) → (Res env → Option R) → Option R := fun x K => Sum.elim (fun t14 => K ⟨.tup [.c (.s (.slice none 0 0)), .c (.s (.int .i64 t14.1)), .c (.s (.int .i64 t14.2))], [[], []]⟩) (fun t15 => K ⟨.tup [.c (.own true 104 t15.1), .c (.s (.int .i64 t15.2.1)), .c (.s (.int .i64 t15.2.2))], [[], []]⟩) x
theorem f69.wn (x : ((Int × Int) ⊕ ((List S104) × Int × Int))) : ∃ res, ∀ {R : Type} (K : Res env → Option R), f69.w x K = K res := by
  rcases x with x | x <;> exact ⟨_, fun _ => rfl⟩
def f69.hd (k : Nat) (ps_ : List (P2 env)) : Cl env :=
  gC Cl.no ps_ fun p_ ps_ => qC Cl.no p_ fun c_ => qSl Cl.no 104 c_ fun xs1 => gC Cl.no ps_ fun p_ ps_ => qC Cl.no p_ fun c_ => qS Cl.no c_ fun v_ => vI Cl.no .i64 v_ fun a2 => gE Cl.no ps_ <| { α := (Int × Int) ⊕ ((List S104) × Int × Int), o := f69 k xs1 a2, w := f69.w, nat := fun x _ => f69.wn x }
def f69.e (k : Nat) : Entry env := ⟨fun ps => f69.hd k (coer [[.rd 104], [.no]] ps), [], []⟩
def f69.X (k : Nat) : Ctx env := { C := lookE [(83, f83.e k), (135, f135.e k), (136, f136.e k)], L := lookE [(9, fun S => f69.l9.hd k S.ts S.m S.n)], J := lookE [], keep := lookD [(9, [0, 1, 7, 20, 21, 22])], keepX := lookD [(9, [0, 7])], span := lookN [(9, 272)], eff := fun n => memN n [], prep := lookP [], np := 0 }
theorem f69.l9.nat {R : Type} (k : Nat) (rec_ : (List S104) → Int → (List S104) → Int → Int → (List S104) → Option ((List S104) × (List S104))) (g : ((List S104) × (List S104)) → Option R) (xs5 : List S104) (a6 : Int) (xs7 : List S104) (a8 : Int) (a9 : Int) (xs10 : List S104) : (f69.l9.step k rec_ some xs5 a6 xs7 a8 a9 xs10).bind g = f69.l9.step k (fun xs5 a6 xs7 a8 a9 xs10 => (rec_ xs5 a6 xs7 a8 a9 xs10).bind g) g xs5 a6 xs7 a8 a9 xs10 := by
  simp only [f69.l9.step, bind_ite, bind_sum, Option.bind_assoc, Option.bind_some, Option.bind_none]
theorem f69.l9.good (k : Nat) (xs5 : List S104) (a6 : Int) (xs7 : List S104) (a8 : Int) (a9 : Int) (xs10 : List S104) : GoodL (f69.X k) (nthC 0 (loopsOf (bodyOf Try.f69))) (f69.l9.st xs5 a6 xs7 a8 a9 xs10) { α := ((List S104) × (List S104)), o := f69.l9 k k xs5 a6 xs7 a8 a9 xs10, w := f69.l9.w } :=
  loop_good (ι := (List S104) × Int × (List S104) × Int × Int × (List S104)) (α := ((List S104) × (List S104))) (fun i => f69.l9.st i.1 i.2.1 i.2.2.1 i.2.2.2.1 i.2.2.2.2.1 i.2.2.2.2.2) (fun j i => f69.l9 k j i.1 i.2.1 i.2.2.1 i.2.2.2.1 i.2.2.2.2.1 i.2.2.2.2.2) f69.l9.w (fun rec_ ret i => f69.l9.step k (fun xs5 a6 xs7 a8 a9 xs10 => rec_ (xs5, a6, xs7, a8, a9, xs10)) ret i.1 i.2.1 i.2.2.1 i.2.2.2.1 i.2.2.2.2.1 i.2.2.2.2.2)
    (fun _ => rfl) (fun _ _ => rfl) (fun rec_ g i => f69.l9.nat k _ g i.1 i.2.1 i.2.2.1 i.2.2.2.1 i.2.2.2.2.1 i.2.2.2.2.2) (fun {R} i0 i rec_ K => by kernel_rfl) k (xs5, a6, xs7, a8, a9, xs10)
theorem f69.l9.all (k : Nat) (S : St env) : GoodL (f69.X k) (nthC 0 (loopsOf (bodyOf Try.f69))) S (f69.l9.hd k S.ts S.m S.n) := by
  obtain ⟨ts_, m_, n_⟩ := S
  show GoodL _ _ _ (f69.l9.hd k ts_ m_ n_)
  unfold f69.l9.hd
  refine gTs_ok (p := GoodL _ _ _) goodL_no fun _ h => ?_
  subst h
  refine gV_ok (p := GoodL _ _ _) goodL_no fun _ _ h => ?_
  subst h
  refine rImm_ok (p := GoodL _ _ _) goodL_no fun _ h => ?_
  subst h
  refine gV_ok (p := GoodL _ _ _) goodL_no fun _ _ h => ?_
  subst h
  refine rV_ok (p := GoodL _ _ _) goodL_no fun _ h => ?_
  subst h
  refine vI_ok (p := GoodL _ _ _) goodL_no fun _ h => ?_
  subst h
  refine gV_ok (p := GoodL _ _ _) goodL_no fun _ _ h => ?_
  subst h
  refine rRow_ok (p := GoodL _ _ _) goodL_no fun h => ?_
  subst h
  refine gV_ok (p := GoodL _ _ _) goodL_no fun _ _ h => ?_
  subst h
  refine rImm_ok (p := GoodL _ _ _) goodL_no fun _ h => ?_
  subst h
  refine gV_ok (p := GoodL _ _ _) goodL_no fun _ _ h => ?_
  subst h
  refine rV_ok (p := GoodL _ _ _) goodL_no fun _ h => ?_
  subst h
  refine vI_ok (p := GoodL _ _ _) goodL_no fun _ h => ?_
  subst h
  refine gV_ok (p := GoodL _ _ _) goodL_no fun _ _ h => ?_
  subst h
  refine rV_ok (p := GoodL _ _ _) goodL_no fun _ h => ?_
  subst h
  refine vI_ok (p := GoodL _ _ _) goodL_no fun _ h => ?_
  subst h
  refine gE_ok (p := GoodL _ _ _) goodL_no fun h => ?_
  subst h
  refine mRow_ok (p := GoodL _ _ _) goodL_no fun _ _ h => ?_
  subst h
  refine gE_ok (p := GoodL _ _ _) goodL_no fun h => ?_
  subst h
  refine gN_ok (p := GoodL _ _ _) goodL_no fun h => ?_
  subst h
  exact f69.l9.good k _ _ _ _ _ _
theorem f69.nat {R : Type} (k : Nat) (g : ((Int × Int) ⊕ ((List S104) × Int × Int)) → Option R) (xs1 : List S104) (a2 : Int) : f69.step k g xs1 a2 = (f69 k xs1 a2).bind g := by
  simp only [f69, f69.step, bind_ite, bind_sum, Option.bind_assoc, Option.bind_some, Option.bind_none]
theorem f69.ev (k : Nat) (xs1 : List S104) (a2 : Int) : evF (f69.X k) (bodyOf Try.f69) Try.f69.ntmps Try.f69.results.toList [.v (.c (.sl 104 xs1)), .v (.c (.s (.int .i64 a2)))] = f69.step k (fun x => f69.w x some) xs1 a2 := by kernel_rfl
theorem f69.hok (k : Nat) : HOK (f69.X k) (bodyOf Try.f69) where
  l := allP_mem (by exact ⟨ls_of (h0 := fun S => f69.l9.hd k S.ts S.m S.n) (by kernel_rfl) (f69.l9.all k), trivial⟩)
  j := allP_mem (by exact trivial)
theorem f69.sound0 (k : Nat) : SoundC env Try.prog 69 (f69.hd k) := by
  intro ps_
  show GoodC _ _ _ ps_ (f69.hd k ps_)
  unfold f69.hd
  refine gC_ok (p := GoodC env Try.prog 69 _) goodC_no fun _ _ h => ?_
  subst h
  refine qC_ok (p := GoodC env Try.prog 69 _) goodC_no fun _ h => ?_
  subst h
  refine qSl_ok (p := GoodC env Try.prog 69 _) goodC_no fun _ h => ?_
  subst h
  refine gC_ok (p := GoodC env Try.prog 69 _) goodC_no fun _ _ h => ?_
  subst h
  refine qC_ok (p := GoodC env Try.prog 69 _) goodC_no fun _ h => ?_
  subst h
  refine qS_ok (p := GoodC env Try.prog 69 _) goodC_no fun _ h => ?_
  subst h
  refine vI_ok (p := GoodC env Try.prog 69 _) goodC_no fun _ h => ?_
  subst h
  refine gE_ok (p := GoodC env Try.prog 69 _) goodC_no fun h => ?_
  subst h
  exact fun_good (fun_sound envOK (cs_sound _ (by exact ⟨⟨f83.sound k, f83.fnok⟩, ⟨f135.sound k, f135.fnok⟩, ⟨f136.sound k, f136.fnok⟩, trivial⟩)) (f69.hok k) Try.func69 rfl) ((f69.ev k _ _).trans (f69.nat k _ _ _))
theorem f69.sound (k : Nat) : SoundC env Try.prog 69 (f69.e k).F := soundC_coer (f69.sound0 k) [[.rd 104], [.no]]
theorem f69.fnok : FnOK Try.prog 69 := fn_ok Try.func69 (by kernel_rfl) rfl
def f137.l11.step {R : Type} (k : Nat) (rec_ : (List S104) → Int → Int → Int → ByteArray → ByteArray → Int → Int → Int → (List S211) → Option R) (ret : (((List S104) × Bool × Int × ByteArray × ByteArray × Int × Int × Int × (List S211)) ⊕ ((List S104) × Int × ByteArray × ByteArray × Int × Int × Int × (List S211))) → Option R) (xs8 : List S104) (a9 : Int) (a10 : Int) (a11 : Int) (s12 : ByteArray) (s13 : ByteArray) (a14 : Int) (a15 : Int) (a16 : Int) (xs17 : List S211) : Option R :=
  if (decide (a11 < (((List.length xs17) : Nat) : Int))) = true then
    if (0 : Int) ≤ a11 then
      if a11 < ((List.length xs17 : Nat) : Int) then
        if (decide ((List.getD xs17 (Int.toNat a11) (⟨(0 : Int), false, []⟩ : S211)).f0 < a10)) = false then
          if (decide ((Int.tmod (List.getD xs17 (Int.toNat a11) (⟨(0 : Int), false, []⟩ : S211)).f0 (8 : Int)) ≠ (0 : Int))) = false then
            if (decide ((((List.length (List.getD xs17 (Int.toNat a11) (⟨(0 : Int), false, []⟩ : S211)).f2) : Nat) : Int) > (1500 : Int))) = false then
              if (decide ((List.getD xs17 (Int.toNat a11) (⟨(0 : Int), false, []⟩ : S211)).f0 > (IntKind.i64.wrap ((65515 : Int) - (((List.length (List.getD xs17 (Int.toNat a11) (⟨(0 : Int), false, []⟩ : S211)).f2) : Nat) : Int))))) = false then
                if (List.getD xs17 (Int.toNat a11) (⟨(0 : Int), false, []⟩ : S211)).f1 = true then
                  if (decide (a11 < (IntKind.i64.wrap ((((List.length xs17) : Nat) : Int) - (1 : Int))))) = false then
                    if (!(List.getD xs17 (Int.toNat a11) (⟨(0 : Int), false, []⟩ : S211)).f1) = true then
                      if (decide ((Int.tmod (((List.length (List.getD xs17 (Int.toNat a11) (⟨(0 : Int), false, []⟩ : S211)).f2) : Nat) : Int) (8 : Int)) ≠ (0 : Int))) = false then
                        if (decide ((((List.length (List.getD xs17 (Int.toNat a11) (⟨(0 : Int), false, []⟩ : S211)).f2) : Nat) : Int) = (0 : Int))) = true then
                          ret (.inl (xs8, false, a9, s12, s13, a14, a15, a16, xs17))
                        else
                          rec_ xs8 a9 (IntKind.i64.wrap ((List.getD xs17 (Int.toNat a11) (⟨(0 : Int), false, []⟩ : S211)).f0 + (((List.length (List.getD xs17 (Int.toNat a11) (⟨(0 : Int), false, []⟩ : S211)).f2) : Nat) : Int))) (IntKind.i64.wrap (a11 + (1 : Int))) s12 s13 a14 a15 a16 xs17
                      else
                        ret (.inl (xs8, false, a9, s12, s13, a14, a15, a16, xs17))
                    else
                      rec_ xs8 a9 (IntKind.i64.wrap ((List.getD xs17 (Int.toNat a11) (⟨(0 : Int), false, []⟩ : S211)).f0 + (((List.length (List.getD xs17 (Int.toNat a11) (⟨(0 : Int), false, []⟩ : S211)).f2) : Nat) : Int))) (IntKind.i64.wrap (a11 + (1 : Int))) s12 s13 a14 a15 a16 xs17
                  else
                    ret (.inl (xs8, false, a9, s12, s13, a14, a15, a16, xs17))
                else
                  if (!(List.getD xs17 (Int.toNat a11) (⟨(0 : Int), false, []⟩ : S211)).f1) = true then
                    if (decide ((Int.tmod (((List.length (List.getD xs17 (Int.toNat a11) (⟨(0 : Int), false, []⟩ : S211)).f2) : Nat) : Int) (8 : Int)) ≠ (0 : Int))) = false then
                      if (decide ((((List.length (List.getD xs17 (Int.toNat a11) (⟨(0 : Int), false, []⟩ : S211)).f2) : Nat) : Int) = (0 : Int))) = true then
                        ret (.inl (xs8, false, a9, s12, s13, a14, a15, a16, xs17))
                      else
                        rec_ xs8 a9 (IntKind.i64.wrap ((List.getD xs17 (Int.toNat a11) (⟨(0 : Int), false, []⟩ : S211)).f0 + (((List.length (List.getD xs17 (Int.toNat a11) (⟨(0 : Int), false, []⟩ : S211)).f2) : Nat) : Int))) (IntKind.i64.wrap (a11 + (1 : Int))) s12 s13 a14 a15 a16 xs17
                    else
                      ret (.inl (xs8, false, a9, s12, s13, a14, a15, a16, xs17))
                  else
                    rec_ xs8 a9 (IntKind.i64.wrap ((List.getD xs17 (Int.toNat a11) (⟨(0 : Int), false, []⟩ : S211)).f0 + (((List.length (List.getD xs17 (Int.toNat a11) (⟨(0 : Int), false, []⟩ : S211)).f2) : Nat) : Int))) (IntKind.i64.wrap (a11 + (1 : Int))) s12 s13 a14 a15 a16 xs17
              else
                ret (.inl (xs8, false, a9, s12, s13, a14, a15, a16, xs17))
            else
              ret (.inl (xs8, false, a9, s12, s13, a14, a15, a16, xs17))
          else
            ret (.inl (xs8, false, a9, s12, s13, a14, a15, a16, xs17))
        else
          ret (.inl (xs8, false, a9, s12, s13, a14, a15, a16, xs17))
      else none
    else none
  else
    ret (.inr (xs8, a9, s12, s13, a14, a15, a16, xs17))
def f137.l11 (k : Nat) : Nat → (List S104) → Int → Int → Int → ByteArray → ByteArray → Int → Int → Int → (List S211) → Option (((List S104) × Bool × Int × ByteArray × ByteArray × Int × Int × Int × (List S211)) ⊕ ((List S104) × Int × ByteArray × ByteArray × Int × Int × Int × (List S211)))
  | 0, _, _, _, _, _, _, _, _, _, _ => none
  | j + 1, xs8, a9, a10, a11, s12, s13, a14, a15, a16, xs17 => f137.l11.step k (fun xs8 a9 a10 a11 s12 s13 a14 a15 a16 xs17 => f137.l11 k j xs8 a9 a10 a11 s12 s13 a14 a15 a16 xs17) some xs8 a9 a10 a11 s12 s13 a14 a15 a16 xs17
def f137.l11.w {R : Type} : (((List S104) × Bool × Int × ByteArray × ByteArray × Int × Int × Int × (List S211)) ⊕ ((List S104) × Int × ByteArray × ByteArray × Int × Int × Int × (List S211))) → (Exit → St env → Option R) → Option R := fun x K => Sum.elim (fun t23 => K .ret ⟨fullT [0, 2, 3, 4] 0 144 [.v (.c (.imm 104 t23.1)), .v (.c (.s (.bool t23.2.1))), .v (.c (.s (.int .i64 t23.2.2.1))), .v (.c (.bp 209 0))], [(209, .box [.s (.string t23.2.2.2.1), .s (.string t23.2.2.2.2.1), .s (.int .i64 t23.2.2.2.2.2.1), .s (.int .i64 t23.2.2.2.2.2.2.1), .s (.int .i64 t23.2.2.2.2.2.2.2.1), .imm 211 t23.2.2.2.2.2.2.2.2])], 2289⟩) (fun t24 => K (.exit 2) ⟨fullT [0, 3, 4] 0 144 [.v (.c (.imm 104 t24.1)), .v (.c (.s (.int .i64 t24.2.1))), .v (.c (.bp 209 0))], [(209, .box [.s (.string t24.2.2.1), .s (.string t24.2.2.2.1), .s (.int .i64 t24.2.2.2.2.1), .s (.int .i64 t24.2.2.2.2.2.1), .s (.int .i64 t24.2.2.2.2.2.2.1), .imm 211 t24.2.2.2.2.2.2.2])], 2289⟩) x
def f137.l11.st (xs8 : List S104) (a9 : Int) (a10 : Int) (a11 : Int) (s12 : ByteArray) (s13 : ByteArray) (a14 : Int) (a15 : Int) (a16 : Int) (xs17 : List S211) : St env := ⟨fullT [0, 3, 4, 5, 6] 0 144 [.v (.c (.imm 104 xs8)), .v (.c (.s (.int .i64 a9))), .v (.c (.bp 209 0)), .v (.c (.s (.int .i64 a10))), .v (.c (.s (.int .i64 a11)))], [(209, .box [.s (.string s12), .s (.string s13), .s (.int .i64 a14), .s (.int .i64 a15), .s (.int .i64 a16), .imm 211 xs17])], 1041⟩
def f137.l4.step {R : Type} (k : Nat) (rec_ : (List S104) → Int → Option R) (ret : (Bool ⊕ (Unit)) → Option R) (xs2 : List S104) (a3 : Int) : Option R :=
  if (decide (a3 < (((List.length xs2) : Nat) : Int))) = true then
    if (0 : Int) ≤ a3 then
      if a3 < ((List.length xs2 : Nat) : Int) then
        if (decide ((((ByteArray.size (List.getD xs2 (Int.toNat a3) (⟨ByteArray.empty, ByteArray.empty, (0 : Int), (0 : Int), (0 : Int), []⟩ : S104)).f0) : Nat) : Int) ≠ (4 : Int))) = false then
          if (decide ((((ByteArray.size (List.getD xs2 (Int.toNat a3) (⟨ByteArray.empty, ByteArray.empty, (0 : Int), (0 : Int), (0 : Int), []⟩ : S104)).f1) : Nat) : Int) ≠ (4 : Int))) = false then
            (f86 k (List.getD xs2 (Int.toNat a3) (⟨ByteArray.empty, ByteArray.empty, (0 : Int), (0 : Int), (0 : Int), []⟩ : S104)).f2 (0 : Int) (65535 : Int)).bind fun t4 => if (!t4) = false then
                (f86 k (List.getD xs2 (Int.toNat a3) (⟨ByteArray.empty, ByteArray.empty, (0 : Int), (0 : Int), (0 : Int), []⟩ : S104)).f3 (0 : Int) (255 : Int)).bind fun t5 => if (!t5) = false then
                    (f86 k (List.getD xs2 (Int.toNat a3) (⟨ByteArray.empty, ByteArray.empty, (0 : Int), (0 : Int), (0 : Int), []⟩ : S104)).f4 (0 : Int) (1000030 : Int)).bind fun t6 => if (!t6) = false then
                        if (decide ((((List.length (List.getD xs2 (Int.toNat a3) (⟨ByteArray.empty, ByteArray.empty, (0 : Int), (0 : Int), (0 : Int), []⟩ : S104)).f5) : Nat) : Int) = (0 : Int))) = false then
                          if (decide ((((List.length (List.getD xs2 (Int.toNat a3) (⟨ByteArray.empty, ByteArray.empty, (0 : Int), (0 : Int), (0 : Int), []⟩ : S104)).f5) : Nat) : Int) > (12 : Int))) = false then
                            if (0 : Int) ≤ a3 then
                              if a3 ≤ ((List.length xs2 : Nat) : Int) then
                                (f177 k (List.drop 0 (List.take (Int.toNat a3) xs2)) (List.getD xs2 (Int.toNat a3) (⟨ByteArray.empty, ByteArray.empty, (0 : Int), (0 : Int), (0 : Int), []⟩ : S104)).f0 (List.getD xs2 (Int.toNat a3) (⟨ByteArray.empty, ByteArray.empty, (0 : Int), (0 : Int), (0 : Int), []⟩ : S104)).f1 (List.getD xs2 (Int.toNat a3) (⟨ByteArray.empty, ByteArray.empty, (0 : Int), (0 : Int), (0 : Int), []⟩ : S104)).f2 (List.getD xs2 (Int.toNat a3) (⟨ByteArray.empty, ByteArray.empty, (0 : Int), (0 : Int), (0 : Int), []⟩ : S104)).f3 (List.getD xs2 (Int.toNat a3) (⟨ByteArray.empty, ByteArray.empty, (0 : Int), (0 : Int), (0 : Int), []⟩ : S104)).f4 (List.getD xs2 (Int.toNat a3) (⟨ByteArray.empty, ByteArray.empty, (0 : Int), (0 : Int), (0 : Int), []⟩ : S104)).f5).bind fun t7 => if (decide (t7 ≥ (0 : Int))) = true then
                                    ret (.inl false)
                                  else
                                    (f137.l11 k k xs2 a3 (0 : Int) (0 : Int) (List.getD xs2 (Int.toNat a3) (⟨ByteArray.empty, ByteArray.empty, (0 : Int), (0 : Int), (0 : Int), []⟩ : S104)).f0 (List.getD xs2 (Int.toNat a3) (⟨ByteArray.empty, ByteArray.empty, (0 : Int), (0 : Int), (0 : Int), []⟩ : S104)).f1 (List.getD xs2 (Int.toNat a3) (⟨ByteArray.empty, ByteArray.empty, (0 : Int), (0 : Int), (0 : Int), []⟩ : S104)).f2 (List.getD xs2 (Int.toNat a3) (⟨ByteArray.empty, ByteArray.empty, (0 : Int), (0 : Int), (0 : Int), []⟩ : S104)).f3 (List.getD xs2 (Int.toNat a3) (⟨ByteArray.empty, ByteArray.empty, (0 : Int), (0 : Int), (0 : Int), []⟩ : S104)).f4 (List.getD xs2 (Int.toNat a3) (⟨ByteArray.empty, ByteArray.empty, (0 : Int), (0 : Int), (0 : Int), []⟩ : S104)).f5).bind (Sum.elim (fun t18 => ret (.inl t18.2.1)) (fun t19 => (f178 k t19.2.2.1 t19.2.2.2.1 t19.2.2.2.2.1 t19.2.2.2.2.2.1 t19.2.2.2.2.2.2.1 t19.2.2.2.2.2.2.2).bind fun t20 => if t20 = true then
                                          ret (.inl false)
                                        else
                                          rec_ t19.1 (IntKind.i64.wrap (t19.2.1 + (1 : Int)))))
                              else none
                            else none
                          else
                            ret (.inl false)
                        else
                          ret (.inl false)
                      else
                        ret (.inl false)
                  else
                    ret (.inl false)
              else
                ret (.inl false)
          else
            ret (.inl false)
        else
          ret (.inl false)
      else none
    else none
  else
    ret (.inr ())
def f137.l4 (k : Nat) : Nat → (List S104) → Int → Option (Bool ⊕ (Unit))
  | 0, _, _ => none
  | j + 1, xs2, a3 => f137.l4.step k (fun xs2 a3 => f137.l4 k j xs2 a3) some xs2 a3
def f137.l4.w {R : Type} : (Bool ⊕ (Unit)) → (Exit → St env → Option R) → Option R := fun x K => Sum.elim (fun t25 => K .ret ⟨fullT [2] 0 144 [.v (.c (.s (.bool t25)))], [], 2401⟩) (fun t26 => K (.exit 0) ⟨fullT [] 0 144 [], [], 2401⟩) x
def f137.l4.st (xs2 : List S104) (a3 : Int) : St env := ⟨fullT [0, 3] 0 144 [.v (.c (.imm 104 xs2)), .v (.c (.s (.int .i64 a3)))], [], 81⟩
def f137.l11.hd (k : Nat) (ts_ : List (AV env)) (mm_ : Mem env) (n_ : Nat) : LCl env :=
  gTs LCl.no [0, 3, 4, 5, 6] 144 ts_ fun l_ => gV LCl.no l_ fun a_ l_ => rImm LCl.no 104 a_ fun xs8 => gV LCl.no l_ fun a_ l_ => rV LCl.no a_ fun v_ => vI LCl.no .i64 v_ fun a9 => gV LCl.no l_ fun a_ l_ => rBp LCl.no 209 0 a_ <| gV LCl.no l_ fun a_ l_ => rV LCl.no a_ fun v_ => vI LCl.no .i64 v_ fun a10 => gV LCl.no l_ fun a_ l_ => rV LCl.no a_ fun v_ => vI LCl.no .i64 v_ fun a11 => gE LCl.no l_ <| mBox LCl.no 209 mm_ fun c_ m_ => gC LCl.no c_ fun a_ c_ => rV LCl.no a_ fun v_ => vS LCl.no v_ fun s12 => gC LCl.no c_ fun a_ c_ => rV LCl.no a_ fun v_ => vS LCl.no v_ fun s13 => gC LCl.no c_ fun a_ c_ => rV LCl.no a_ fun v_ => vI LCl.no .i64 v_ fun a14 => gC LCl.no c_ fun a_ c_ => rV LCl.no a_ fun v_ => vI LCl.no .i64 v_ fun a15 => gC LCl.no c_ fun a_ c_ => rV LCl.no a_ fun v_ => vI LCl.no .i64 v_ fun a16 => gC LCl.no c_ fun a_ c_ => rImm LCl.no 211 a_ fun xs17 => gE LCl.no c_ <| gE LCl.no m_ <| gN LCl.no 1041 n_ { α := ((List S104) × Bool × Int × ByteArray × ByteArray × Int × Int × Int × (List S211)) ⊕ ((List S104) × Int × ByteArray × ByteArray × Int × Int × Int × (List S211)), o := f137.l11 k k xs8 a9 a10 a11 s12 s13 a14 a15 a16 xs17, w := f137.l11.w }
def f137.l4.hd (k : Nat) (ts_ : List (AV env)) (mm_ : Mem env) (n_ : Nat) : LCl env :=
  gTs LCl.no [0, 3] 144 ts_ fun l_ => gV LCl.no l_ fun a_ l_ => rImm LCl.no 104 a_ fun xs2 => gV LCl.no l_ fun a_ l_ => rV LCl.no a_ fun v_ => vI LCl.no .i64 v_ fun a3 => gE LCl.no l_ <| gE LCl.no mm_ <| gN LCl.no 81 n_ { α := Bool ⊕ (Unit), o := f137.l4 k k xs2 a3, w := f137.l4.w }
def f137.step {R : Type} (k : Nat) (ret : Bool → Option R) (xs1 : List S104) : Option R :=
  if (decide ((((List.length xs1) : Nat) : Int) > (6 : Int))) = true then
    ret false
  else
    (f137.l4 k k xs1 (0 : Int)).bind (Sum.elim (fun t21 => ret t21) (fun t22 => ret true))
def f137 (k : Nat) (xs1 : List S104) : Option Bool := f137.step k some xs1
def f137.w {R : Type} : Bool → (Res env → Option R) → Option R := fun t27 K => K ⟨.v (.c (.s (.bool t27))), [[]]⟩
theorem f137.wn (x : Bool) : ∃ res, ∀ {R : Type} (K : Res env → Option R), f137.w x K = K res := by
  exact ⟨_, fun _ => rfl⟩
def f137.hd (k : Nat) (ps_ : List (P2 env)) : Cl env :=
  gC Cl.no ps_ fun p_ ps_ => qC Cl.no p_ fun c_ => qSl Cl.no 104 c_ fun xs1 => gE Cl.no ps_ <| { α := Bool, o := f137 k xs1, w := f137.w, nat := fun x _ => f137.wn x }
def f137.e (k : Nat) : Entry env := ⟨fun ps => f137.hd k (coer [[.rd 104]] ps), [], []⟩
def f137.X (k : Nat) : Ctx env := { C := lookE [(86, f86.e k), (177, f177.e k), (178, f178.e k)], L := lookE [(11, fun S => f137.l11.hd k S.ts S.m S.n), (4, fun S => f137.l4.hd k S.ts S.m S.n)], J := lookE [], keep := lookD [(11, [0, 3, 4, 5, 6]), (4, [0, 3])], keepX := lookD [(11, [0, 2, 3, 4]), (4, [2])], span := lookN [(11, 1248), (4, 2320)], eff := fun n => memN n [], prep := lookP [], np := 0 }
theorem f137.l11.nat {R : Type} (k : Nat) (rec_ : (List S104) → Int → Int → Int → ByteArray → ByteArray → Int → Int → Int → (List S211) → Option (((List S104) × Bool × Int × ByteArray × ByteArray × Int × Int × Int × (List S211)) ⊕ ((List S104) × Int × ByteArray × ByteArray × Int × Int × Int × (List S211)))) (g : (((List S104) × Bool × Int × ByteArray × ByteArray × Int × Int × Int × (List S211)) ⊕ ((List S104) × Int × ByteArray × ByteArray × Int × Int × Int × (List S211))) → Option R) (xs8 : List S104) (a9 : Int) (a10 : Int) (a11 : Int) (s12 : ByteArray) (s13 : ByteArray) (a14 : Int) (a15 : Int) (a16 : Int) (xs17 : List S211) : (f137.l11.step k rec_ some xs8 a9 a10 a11 s12 s13 a14 a15 a16 xs17).bind g = f137.l11.step k (fun xs8 a9 a10 a11 s12 s13 a14 a15 a16 xs17 => (rec_ xs8 a9 a10 a11 s12 s13 a14 a15 a16 xs17).bind g) g xs8 a9 a10 a11 s12 s13 a14 a15 a16 xs17 := by
  simp only [f137.l11.step, bind_ite, bind_sum, Option.bind_assoc, Option.bind_some, Option.bind_none]
theorem f137.l11.good (k : Nat) (xs8 : List S104) (a9 : Int) (a10 : Int) (a11 : Int) (s12 : ByteArray) (s13 : ByteArray) (a14 : Int) (a15 : Int) (a16 : Int) (xs17 : List S211) : GoodL (f137.X k) (nthC 1 (loopsOf (bodyOf Try.f137))) (f137.l11.st xs8 a9 a10 a11 s12 s13 a14 a15 a16 xs17) { α := (((List S104) × Bool × Int × ByteArray × ByteArray × Int × Int × Int × (List S211)) ⊕ ((List S104) × Int × ByteArray × ByteArray × Int × Int × Int × (List S211))), o := f137.l11 k k xs8 a9 a10 a11 s12 s13 a14 a15 a16 xs17, w := f137.l11.w } :=
  loop_good (ι := (List S104) × Int × Int × Int × ByteArray × ByteArray × Int × Int × Int × (List S211)) (α := (((List S104) × Bool × Int × ByteArray × ByteArray × Int × Int × Int × (List S211)) ⊕ ((List S104) × Int × ByteArray × ByteArray × Int × Int × Int × (List S211)))) (fun i => f137.l11.st i.1 i.2.1 i.2.2.1 i.2.2.2.1 i.2.2.2.2.1 i.2.2.2.2.2.1 i.2.2.2.2.2.2.1 i.2.2.2.2.2.2.2.1 i.2.2.2.2.2.2.2.2.1 i.2.2.2.2.2.2.2.2.2) (fun j i => f137.l11 k j i.1 i.2.1 i.2.2.1 i.2.2.2.1 i.2.2.2.2.1 i.2.2.2.2.2.1 i.2.2.2.2.2.2.1 i.2.2.2.2.2.2.2.1 i.2.2.2.2.2.2.2.2.1 i.2.2.2.2.2.2.2.2.2) f137.l11.w (fun rec_ ret i => f137.l11.step k (fun xs8 a9 a10 a11 s12 s13 a14 a15 a16 xs17 => rec_ (xs8, a9, a10, a11, s12, s13, a14, a15, a16, xs17)) ret i.1 i.2.1 i.2.2.1 i.2.2.2.1 i.2.2.2.2.1 i.2.2.2.2.2.1 i.2.2.2.2.2.2.1 i.2.2.2.2.2.2.2.1 i.2.2.2.2.2.2.2.2.1 i.2.2.2.2.2.2.2.2.2)
    (fun _ => rfl) (fun _ _ => rfl) (fun rec_ g i => f137.l11.nat k _ g i.1 i.2.1 i.2.2.1 i.2.2.2.1 i.2.2.2.2.1 i.2.2.2.2.2.1 i.2.2.2.2.2.2.1 i.2.2.2.2.2.2.2.1 i.2.2.2.2.2.2.2.2.1 i.2.2.2.2.2.2.2.2.2) (fun {R} i0 i rec_ K => by kernel_rfl) k (xs8, a9, a10, a11, s12, s13, a14, a15, a16, xs17)
theorem f137.l11.all (k : Nat) (S : St env) : GoodL (f137.X k) (nthC 1 (loopsOf (bodyOf Try.f137))) S (f137.l11.hd k S.ts S.m S.n) := by
  obtain ⟨ts_, m_, n_⟩ := S
  show GoodL _ _ _ (f137.l11.hd k ts_ m_ n_)
  unfold f137.l11.hd
  refine gTs_ok (p := GoodL _ _ _) goodL_no fun _ h => ?_
  subst h
  refine gV_ok (p := GoodL _ _ _) goodL_no fun _ _ h => ?_
  subst h
  refine rImm_ok (p := GoodL _ _ _) goodL_no fun _ h => ?_
  subst h
  refine gV_ok (p := GoodL _ _ _) goodL_no fun _ _ h => ?_
  subst h
  refine rV_ok (p := GoodL _ _ _) goodL_no fun _ h => ?_
  subst h
  refine vI_ok (p := GoodL _ _ _) goodL_no fun _ h => ?_
  subst h
  refine gV_ok (p := GoodL _ _ _) goodL_no fun _ _ h => ?_
  subst h
  refine rBp_ok (p := GoodL _ _ _) goodL_no fun h => ?_
  subst h
  refine gV_ok (p := GoodL _ _ _) goodL_no fun _ _ h => ?_
  subst h
  refine rV_ok (p := GoodL _ _ _) goodL_no fun _ h => ?_
  subst h
  refine vI_ok (p := GoodL _ _ _) goodL_no fun _ h => ?_
  subst h
  refine gV_ok (p := GoodL _ _ _) goodL_no fun _ _ h => ?_
  subst h
  refine rV_ok (p := GoodL _ _ _) goodL_no fun _ h => ?_
  subst h
  refine vI_ok (p := GoodL _ _ _) goodL_no fun _ h => ?_
  subst h
  refine gE_ok (p := GoodL _ _ _) goodL_no fun h => ?_
  subst h
  refine mBox_ok (p := GoodL _ _ _) goodL_no fun _ _ h => ?_
  subst h
  refine gC_ok (p := GoodL _ _ _) goodL_no fun _ _ h => ?_
  subst h
  refine rV_ok (p := GoodL _ _ _) goodL_no fun _ h => ?_
  subst h
  refine vS_ok (p := GoodL _ _ _) goodL_no fun _ h => ?_
  subst h
  refine gC_ok (p := GoodL _ _ _) goodL_no fun _ _ h => ?_
  subst h
  refine rV_ok (p := GoodL _ _ _) goodL_no fun _ h => ?_
  subst h
  refine vS_ok (p := GoodL _ _ _) goodL_no fun _ h => ?_
  subst h
  refine gC_ok (p := GoodL _ _ _) goodL_no fun _ _ h => ?_
  subst h
  refine rV_ok (p := GoodL _ _ _) goodL_no fun _ h => ?_
  subst h
  refine vI_ok (p := GoodL _ _ _) goodL_no fun _ h => ?_
  subst h
  refine gC_ok (p := GoodL _ _ _) goodL_no fun _ _ h => ?_
  subst h
  refine rV_ok (p := GoodL _ _ _) goodL_no fun _ h => ?_
  subst h
  refine vI_ok (p := GoodL _ _ _) goodL_no fun _ h => ?_
  subst h
  refine gC_ok (p := GoodL _ _ _) goodL_no fun _ _ h => ?_
  subst h
  refine rV_ok (p := GoodL _ _ _) goodL_no fun _ h => ?_
  subst h
  refine vI_ok (p := GoodL _ _ _) goodL_no fun _ h => ?_
  subst h
  refine gC_ok (p := GoodL _ _ _) goodL_no fun _ _ h => ?_
  subst h
  refine rImm_ok (p := GoodL _ _ _) goodL_no fun _ h => ?_
  subst h
  refine gE_ok (p := GoodL _ _ _) goodL_no fun h => ?_
  subst h
  refine gE_ok (p := GoodL _ _ _) goodL_no fun h => ?_
  subst h
  refine gN_ok (p := GoodL _ _ _) goodL_no fun h => ?_
  subst h
  exact f137.l11.good k _ _ _ _ _ _ _ _ _ _
theorem f137.l4.nat {R : Type} (k : Nat) (rec_ : (List S104) → Int → Option (Bool ⊕ (Unit))) (g : (Bool ⊕ (Unit)) → Option R) (xs2 : List S104) (a3 : Int) : (f137.l4.step k rec_ some xs2 a3).bind g = f137.l4.step k (fun xs2 a3 => (rec_ xs2 a3).bind g) g xs2 a3 := by
  simp only [f137.l4.step, bind_ite, bind_sum, Option.bind_assoc, Option.bind_some, Option.bind_none]
theorem f137.l4.good (k : Nat) (xs2 : List S104) (a3 : Int) : GoodL (f137.X k) (nthC 0 (loopsOf (bodyOf Try.f137))) (f137.l4.st xs2 a3) { α := (Bool ⊕ (Unit)), o := f137.l4 k k xs2 a3, w := f137.l4.w } :=
  loop_good (ι := (List S104) × Int) (α := (Bool ⊕ (Unit))) (fun i => f137.l4.st i.1 i.2) (fun j i => f137.l4 k j i.1 i.2) f137.l4.w (fun rec_ ret i => f137.l4.step k (fun xs2 a3 => rec_ (xs2, a3)) ret i.1 i.2)
    (fun _ => rfl) (fun _ _ => rfl) (fun rec_ g i => f137.l4.nat k _ g i.1 i.2) (fun {R} i0 i rec_ K => by kernel_rfl) k (xs2, a3)
theorem f137.l4.all (k : Nat) (S : St env) : GoodL (f137.X k) (nthC 0 (loopsOf (bodyOf Try.f137))) S (f137.l4.hd k S.ts S.m S.n) := by
  obtain ⟨ts_, m_, n_⟩ := S
  show GoodL _ _ _ (f137.l4.hd k ts_ m_ n_)
  unfold f137.l4.hd
  refine gTs_ok (p := GoodL _ _ _) goodL_no fun _ h => ?_
  subst h
  refine gV_ok (p := GoodL _ _ _) goodL_no fun _ _ h => ?_
  subst h
  refine rImm_ok (p := GoodL _ _ _) goodL_no fun _ h => ?_
  subst h
  refine gV_ok (p := GoodL _ _ _) goodL_no fun _ _ h => ?_
  subst h
  refine rV_ok (p := GoodL _ _ _) goodL_no fun _ h => ?_
  subst h
  refine vI_ok (p := GoodL _ _ _) goodL_no fun _ h => ?_
  subst h
  refine gE_ok (p := GoodL _ _ _) goodL_no fun h => ?_
  subst h
  refine gE_ok (p := GoodL _ _ _) goodL_no fun h => ?_
  subst h
  refine gN_ok (p := GoodL _ _ _) goodL_no fun h => ?_
  subst h
  exact f137.l4.good k _ _
theorem f137.nat {R : Type} (k : Nat) (g : Bool → Option R) (xs1 : List S104) : f137.step k g xs1 = (f137 k xs1).bind g := by
  simp only [f137, f137.step, bind_ite, bind_sum, Option.bind_assoc, Option.bind_some, Option.bind_none]
theorem f137.ev (k : Nat) (xs1 : List S104) : evF (f137.X k) (bodyOf Try.f137) Try.f137.ntmps Try.f137.results.toList [.v (.c (.sl 104 xs1))] = f137.step k (fun x => f137.w x some) xs1 := by kernel_rfl
theorem f137.hok (k : Nat) : HOK (f137.X k) (bodyOf Try.f137) where
  l := allP_mem (by exact ⟨ls_of (h0 := fun S => f137.l4.hd k S.ts S.m S.n) (by kernel_rfl) (f137.l4.all k), ls_of (h0 := fun S => f137.l11.hd k S.ts S.m S.n) (by kernel_rfl) (f137.l11.all k), trivial⟩)
  j := allP_mem (by exact trivial)
theorem f137.sound0 (k : Nat) : SoundC env Try.prog 137 (f137.hd k) := by
  intro ps_
  show GoodC _ _ _ ps_ (f137.hd k ps_)
  unfold f137.hd
  refine gC_ok (p := GoodC env Try.prog 137 _) goodC_no fun _ _ h => ?_
  subst h
  refine qC_ok (p := GoodC env Try.prog 137 _) goodC_no fun _ h => ?_
  subst h
  refine qSl_ok (p := GoodC env Try.prog 137 _) goodC_no fun _ h => ?_
  subst h
  refine gE_ok (p := GoodC env Try.prog 137 _) goodC_no fun h => ?_
  subst h
  exact fun_good (fun_sound envOK (cs_sound _ (by exact ⟨⟨f86.sound k, f86.fnok⟩, ⟨f177.sound k, f177.fnok⟩, ⟨f178.sound k, f178.fnok⟩, trivial⟩)) (f137.hok k) Try.func137 rfl) ((f137.ev k _).trans (f137.nat k _ _))
theorem f137.sound (k : Nat) : SoundC env Try.prog 137 (f137.e k).F := soundC_coer (f137.sound0 k) [[.rd 104]]
theorem f137.says (k : Nat) (xs1 : List S104) (t28 : Bool) (h_ : f137 k xs1 = some t28) : SoundAt env Try.prog 137 [.v (.c (.sl 104 xs1))] ⟨.v (.c (.s (.bool t28))), [[]]⟩ :=
  fun_sound envOK (cs_sound _ (by exact ⟨⟨f86.sound k, f86.fnok⟩, ⟨f177.sound k, f177.fnok⟩, ⟨f178.sound k, f178.fnok⟩, trivial⟩)) (f137.hok k) Try.func137 rfl _ _ (((f137.ev k xs1).trans (f137.nat k _ xs1)).trans (by rw [h_]; rfl))
theorem f137.fnok : FnOK Try.prog 137 := fn_ok Try.func137 (by kernel_rfl) rfl
def f70.l9.step {R : Type} (k : Nat) (rec_ : (List S104) → Int → Int → (List S104) → Option R) (ret : ((List S104) × (List S104)) → Option R) (xs5 : List S104) (a6 : Int) (a7 : Int) (xs8 : List S104) : Option R :=
  if (decide (a7 < (((List.length xs5) : Nat) : Int))) = true then
    if (0 : Int) ≤ a7 then
      if a7 < ((List.length xs5 : Nat) : Int) then
        if (decide ((List.getD xs5 (Int.toNat a7) (⟨ByteArray.empty, ByteArray.empty, (0 : Int), (0 : Int), (0 : Int), []⟩ : S104)).f4 > a6)) = true then
          if (0 : Int) ≤ a7 then
            if a7 < ((List.length xs5 : Nat) : Int) then
              if (List.length xs8 + List.length ([(⟨(List.getD xs5 (Int.toNat a7) (⟨ByteArray.empty, ByteArray.empty, (0 : Int), (0 : Int), (0 : Int), []⟩ : S104)).f0, (List.getD xs5 (Int.toNat a7) (⟨ByteArray.empty, ByteArray.empty, (0 : Int), (0 : Int), (0 : Int), []⟩ : S104)).f1, (List.getD xs5 (Int.toNat a7) (⟨ByteArray.empty, ByteArray.empty, (0 : Int), (0 : Int), (0 : Int), []⟩ : S104)).f2, (List.getD xs5 (Int.toNat a7) (⟨ByteArray.empty, ByteArray.empty, (0 : Int), (0 : Int), (0 : Int), []⟩ : S104)).f3, (List.getD xs5 (Int.toNat a7) (⟨ByteArray.empty, ByteArray.empty, (0 : Int), (0 : Int), (0 : Int), []⟩ : S104)).f4, (List.getD xs5 (Int.toNat a7) (⟨ByteArray.empty, ByteArray.empty, (0 : Int), (0 : Int), (0 : Int), []⟩ : S104)).f5⟩ : S104)] : List S104)) * 80 ≤ maxN then
                rec_ xs5 a6 (IntKind.i64.wrap (a7 + (1 : Int))) (xs8 ++ ([(⟨(List.getD xs5 (Int.toNat a7) (⟨ByteArray.empty, ByteArray.empty, (0 : Int), (0 : Int), (0 : Int), []⟩ : S104)).f0, (List.getD xs5 (Int.toNat a7) (⟨ByteArray.empty, ByteArray.empty, (0 : Int), (0 : Int), (0 : Int), []⟩ : S104)).f1, (List.getD xs5 (Int.toNat a7) (⟨ByteArray.empty, ByteArray.empty, (0 : Int), (0 : Int), (0 : Int), []⟩ : S104)).f2, (List.getD xs5 (Int.toNat a7) (⟨ByteArray.empty, ByteArray.empty, (0 : Int), (0 : Int), (0 : Int), []⟩ : S104)).f3, (List.getD xs5 (Int.toNat a7) (⟨ByteArray.empty, ByteArray.empty, (0 : Int), (0 : Int), (0 : Int), []⟩ : S104)).f4, (List.getD xs5 (Int.toNat a7) (⟨ByteArray.empty, ByteArray.empty, (0 : Int), (0 : Int), (0 : Int), []⟩ : S104)).f5⟩ : S104)] : List S104))
              else none
            else none
          else none
        else
          rec_ xs5 a6 (IntKind.i64.wrap (a7 + (1 : Int))) xs8
      else none
    else none
  else
    ret (xs5, xs8)
def f70.l9 (k : Nat) : Nat → (List S104) → Int → Int → (List S104) → Option ((List S104) × (List S104))
  | 0, _, _, _, _ => none
  | j + 1, xs5, a6, a7, xs8 => f70.l9.step k (fun xs5 a6 a7 xs8 => f70.l9 k j xs5 a6 a7 xs8) some xs5 a6 a7 xs8
def f70.l9.w {R : Type} : ((List S104) × (List S104)) → (Exit → St env → Option R) → Option R := fun t11 K => K (.exit 0) ⟨fullT [0, 7] 0 49 [.v (.c (.imm 104 t11.1)), .v (.c (.row 194))], [(194, .row false 104 t11.2)], 594⟩
def f70.l9.st (xs5 : List S104) (a6 : Int) (a7 : Int) (xs8 : List S104) : St env := ⟨fullT [0, 1, 7, 8] 0 49 [.v (.c (.imm 104 xs5)), .v (.c (.s (.int .i64 a6))), .v (.c (.row 194)), .v (.c (.s (.int .i64 a7)))], [(194, .row false 104 xs8)], 242⟩
def f70.l9.hd (k : Nat) (ts_ : List (AV env)) (mm_ : Mem env) (n_ : Nat) : LCl env :=
  gTs LCl.no [0, 1, 7, 8] 49 ts_ fun l_ => gV LCl.no l_ fun a_ l_ => rImm LCl.no 104 a_ fun xs5 => gV LCl.no l_ fun a_ l_ => rV LCl.no a_ fun v_ => vI LCl.no .i64 v_ fun a6 => gV LCl.no l_ fun a_ l_ => rRow LCl.no 194 a_ <| gV LCl.no l_ fun a_ l_ => rV LCl.no a_ fun v_ => vI LCl.no .i64 v_ fun a7 => gE LCl.no l_ <| mRow LCl.no 194 false 104 mm_ fun xs8 m_ => gE LCl.no m_ <| gN LCl.no 242 n_ { α := (List S104) × (List S104), o := f70.l9 k k xs5 a6 a7 xs8, w := f70.l9.w }
def f70.step {R : Type} (k : Nat) (ret : ((List S104) × Int × Int) → Option R) (xs1 : List S104) (a2 : Int) : Option R :=
  if (decide ((((List.length xs1) : Nat) : Int) > (4096 : Int))) = true then
    ret (([] : List S104), (0 : Int), (2 : Int))
  else
    (f137 k xs1).bind fun t3 => if (!t3) = true then
        ret (([] : List S104), (0 : Int), (1 : Int))
      else
        (f86 k a2 (0 : Int) (1000000 : Int)).bind fun t4 => if (!t4) = true then
            ret (([] : List S104), (0 : Int), (4 : Int))
          else
            (f70.l9 k k xs1 a2 (0 : Int) ([] : List S104)).bind fun t9 => (f133 k t9.2).bind fun t10 => ret (t10, (IntKind.i64.wrap ((((List.length t9.1) : Nat) : Int) - (((List.length t9.2) : Nat) : Int))), (0 : Int))
def f70 (k : Nat) (xs1 : List S104) (a2 : Int) : Option ((List S104) × Int × Int) := f70.step k some xs1 a2
def f70.w {R : Type} : ((List S104) × Int × Int) → (Res env → Option R) → Option R := fun t12 K => K ⟨.tup [.c (.own true 104 t12.1), .c (.s (.int .i64 t12.2.1)), .c (.s (.int .i64 t12.2.2))], [[], []]⟩
theorem f70.wn (x : ((List S104) × Int × Int)) : ∃ res, ∀ {R : Type} (K : Res env → Option R), f70.w x K = K res := by
  exact ⟨_, fun _ => rfl⟩
def f70.hd (k : Nat) (ps_ : List (P2 env)) : Cl env :=
  gC Cl.no ps_ fun p_ ps_ => qC Cl.no p_ fun c_ => qSl Cl.no 104 c_ fun xs1 => gC Cl.no ps_ fun p_ ps_ => qC Cl.no p_ fun c_ => qS Cl.no c_ fun v_ => vI Cl.no .i64 v_ fun a2 => gE Cl.no ps_ <| { α := (List S104) × Int × Int, o := f70 k xs1 a2, w := f70.w, nat := fun x _ => f70.wn x }
def f70.e (k : Nat) : Entry env := ⟨fun ps => f70.hd k (coer [[.rd 104], [.no]] ps), [], []⟩
def f70.X (k : Nat) : Ctx env := { C := lookE [(86, f86.e k), (133, f133.e k), (137, f137.e k)], L := lookE [(9, fun S => f70.l9.hd k S.ts S.m S.n)], J := lookE [], keep := lookD [(9, [0, 1, 7, 8])], keepX := lookD [(9, [0, 7])], span := lookN [(9, 352)], eff := fun n => memN n [], prep := lookP [(9, [.weak 194])], np := 0 }
theorem f70.l9.nat {R : Type} (k : Nat) (rec_ : (List S104) → Int → Int → (List S104) → Option ((List S104) × (List S104))) (g : ((List S104) × (List S104)) → Option R) (xs5 : List S104) (a6 : Int) (a7 : Int) (xs8 : List S104) : (f70.l9.step k rec_ some xs5 a6 a7 xs8).bind g = f70.l9.step k (fun xs5 a6 a7 xs8 => (rec_ xs5 a6 a7 xs8).bind g) g xs5 a6 a7 xs8 := by
  simp only [f70.l9.step, bind_ite, bind_sum, Option.bind_assoc, Option.bind_some, Option.bind_none]
theorem f70.l9.good (k : Nat) (xs5 : List S104) (a6 : Int) (a7 : Int) (xs8 : List S104) : GoodL (f70.X k) (nthC 0 (loopsOf (bodyOf Try.f70))) (f70.l9.st xs5 a6 a7 xs8) { α := ((List S104) × (List S104)), o := f70.l9 k k xs5 a6 a7 xs8, w := f70.l9.w } :=
  loop_good (ι := (List S104) × Int × Int × (List S104)) (α := ((List S104) × (List S104))) (fun i => f70.l9.st i.1 i.2.1 i.2.2.1 i.2.2.2) (fun j i => f70.l9 k j i.1 i.2.1 i.2.2.1 i.2.2.2) f70.l9.w (fun rec_ ret i => f70.l9.step k (fun xs5 a6 a7 xs8 => rec_ (xs5, a6, a7, xs8)) ret i.1 i.2.1 i.2.2.1 i.2.2.2)
    (fun _ => rfl) (fun _ _ => rfl) (fun rec_ g i => f70.l9.nat k _ g i.1 i.2.1 i.2.2.1 i.2.2.2) (fun {R} i0 i rec_ K => by kernel_rfl) k (xs5, a6, a7, xs8)
theorem f70.l9.all (k : Nat) (S : St env) : GoodL (f70.X k) (nthC 0 (loopsOf (bodyOf Try.f70))) S (f70.l9.hd k S.ts S.m S.n) := by
  obtain ⟨ts_, m_, n_⟩ := S
  show GoodL _ _ _ (f70.l9.hd k ts_ m_ n_)
  unfold f70.l9.hd
  refine gTs_ok (p := GoodL _ _ _) goodL_no fun _ h => ?_
  subst h
  refine gV_ok (p := GoodL _ _ _) goodL_no fun _ _ h => ?_
  subst h
  refine rImm_ok (p := GoodL _ _ _) goodL_no fun _ h => ?_
  subst h
  refine gV_ok (p := GoodL _ _ _) goodL_no fun _ _ h => ?_
  subst h
  refine rV_ok (p := GoodL _ _ _) goodL_no fun _ h => ?_
  subst h
  refine vI_ok (p := GoodL _ _ _) goodL_no fun _ h => ?_
  subst h
  refine gV_ok (p := GoodL _ _ _) goodL_no fun _ _ h => ?_
  subst h
  refine rRow_ok (p := GoodL _ _ _) goodL_no fun h => ?_
  subst h
  refine gV_ok (p := GoodL _ _ _) goodL_no fun _ _ h => ?_
  subst h
  refine rV_ok (p := GoodL _ _ _) goodL_no fun _ h => ?_
  subst h
  refine vI_ok (p := GoodL _ _ _) goodL_no fun _ h => ?_
  subst h
  refine gE_ok (p := GoodL _ _ _) goodL_no fun h => ?_
  subst h
  refine mRow_ok (p := GoodL _ _ _) goodL_no fun _ _ h => ?_
  subst h
  refine gE_ok (p := GoodL _ _ _) goodL_no fun h => ?_
  subst h
  refine gN_ok (p := GoodL _ _ _) goodL_no fun h => ?_
  subst h
  exact f70.l9.good k _ _ _ _
theorem f70.nat {R : Type} (k : Nat) (g : ((List S104) × Int × Int) → Option R) (xs1 : List S104) (a2 : Int) : f70.step k g xs1 a2 = (f70 k xs1 a2).bind g := by
  simp only [f70, f70.step, bind_ite, bind_sum, Option.bind_assoc, Option.bind_some, Option.bind_none]
theorem f70.ev (k : Nat) (xs1 : List S104) (a2 : Int) : evF (f70.X k) (bodyOf Try.f70) Try.f70.ntmps Try.f70.results.toList [.v (.c (.sl 104 xs1)), .v (.c (.s (.int .i64 a2)))] = f70.step k (fun x => f70.w x some) xs1 a2 := by kernel_rfl
theorem f70.hok (k : Nat) : HOK (f70.X k) (bodyOf Try.f70) where
  l := allP_mem (by exact ⟨ls_of (h0 := fun S => f70.l9.hd k S.ts S.m S.n) (by kernel_rfl) (f70.l9.all k), trivial⟩)
  j := allP_mem (by exact trivial)
theorem f70.sound0 (k : Nat) : SoundC env Try.prog 70 (f70.hd k) := by
  intro ps_
  show GoodC _ _ _ ps_ (f70.hd k ps_)
  unfold f70.hd
  refine gC_ok (p := GoodC env Try.prog 70 _) goodC_no fun _ _ h => ?_
  subst h
  refine qC_ok (p := GoodC env Try.prog 70 _) goodC_no fun _ h => ?_
  subst h
  refine qSl_ok (p := GoodC env Try.prog 70 _) goodC_no fun _ h => ?_
  subst h
  refine gC_ok (p := GoodC env Try.prog 70 _) goodC_no fun _ _ h => ?_
  subst h
  refine qC_ok (p := GoodC env Try.prog 70 _) goodC_no fun _ h => ?_
  subst h
  refine qS_ok (p := GoodC env Try.prog 70 _) goodC_no fun _ h => ?_
  subst h
  refine vI_ok (p := GoodC env Try.prog 70 _) goodC_no fun _ h => ?_
  subst h
  refine gE_ok (p := GoodC env Try.prog 70 _) goodC_no fun h => ?_
  subst h
  exact fun_good (fun_sound envOK (cs_sound _ (by exact ⟨⟨f86.sound k, f86.fnok⟩, ⟨f133.sound k, f133.fnok⟩, ⟨f137.sound k, f137.fnok⟩, trivial⟩)) (f70.hok k) Try.func70 rfl) ((f70.ev k _ _).trans (f70.nat k _ _ _))
theorem f70.sound (k : Nat) : SoundC env Try.prog 70 (f70.e k).F := soundC_coer (f70.sound0 k) [[.rd 104], [.no]]
theorem f70.says (k : Nat) (xs1 : List S104) (a2 : Int) (t13 : (List S104) × Int × Int) (h_ : f70 k xs1 a2 = some t13) : SoundAt env Try.prog 70 [.v (.c (.sl 104 xs1)), .v (.c (.s (.int .i64 a2)))] ⟨.tup [.c (.own true 104 t13.1), .c (.s (.int .i64 t13.2.1)), .c (.s (.int .i64 t13.2.2))], [[], []]⟩ :=
  fun_sound envOK (cs_sound _ (by exact ⟨⟨f86.sound k, f86.fnok⟩, ⟨f133.sound k, f133.fnok⟩, ⟨f137.sound k, f137.fnok⟩, trivial⟩)) (f70.hok k) Try.func70 rfl _ _ (((f70.ev k xs1 a2).trans (f70.nat k _ xs1 a2)).trans (by rw [h_]; rfl))
theorem f70.fnok : FnOK Try.prog 70 := fn_ok Try.func70 (by kernel_rfl) rfl
def f12.l10.step {R : Type} (k : Nat) (rec_ : Int → Int → (List S104) → Option R) (ret : Unit → Option R) (a7 : Int) (a8 : Int) (xs9 : List S104) : Option R :=
  if (decide (a8 < (0 : Int))) = true then
    none
  else
    ret ()
def f12.l10 (k : Nat) : Nat → Int → Int → (List S104) → Option Unit
  | 0, _, _, _ => none
  | j + 1, a7, a8, xs9 => f12.l10.step k (fun a7 a8 xs9 => f12.l10 k j a7 a8 xs9) some a7 a8 xs9
def f12.l10.w {R : Type} : Unit → (Exit → St env → Option R) → Option R := fun t19 K => K (.exit 0) ⟨fullT [] 0 89 [], [], 1394⟩
def f12.l10.st (a7 : Int) (a8 : Int) (xs9 : List S104) : St env := ⟨fullT [6, 7, 10, 13] 0 89 [.v (.c (.s (.int .i64 a7))), .v (.c (.s (.slice none 0 0))), .v (.c (.row 434)), .v (.c (.s (.int .i64 a8)))], [(434, .row true 104 xs9)], 946⟩
def f12.l10_1.step {R : Type} (k : Nat) (rec_ : Int → Int → (List S104) → (List S104) → Option R) (ret : (Bool ⊕ (Unit)) → Option R) (a13 : Int) (a14 : Int) (xs15 : List S104) (xs16 : List S104) : Option R :=
  if (decide (a14 < (((List.length xs15) : Nat) : Int))) = true then
    if (0 : Int) ≤ a14 then
      if a14 < ((List.length xs15 : Nat) : Int) then
        if (decide ((List.getD xs15 (Int.toNat a14) (⟨ByteArray.empty, ByteArray.empty, (0 : Int), (0 : Int), (0 : Int), []⟩ : S104)).f4 ≤ a13)) = false then
          if (0 : Int) ≤ a14 then
            if a14 < ((List.length xs15 : Nat) : Int) then
              if (0 : Int) ≤ a14 then
                if a14 < ((List.length xs16 : Nat) : Int) then
                  if (decide ((List.getD xs15 (Int.toNat a14) (⟨ByteArray.empty, ByteArray.empty, (0 : Int), (0 : Int), (0 : Int), []⟩ : S104)).f2 ≠ (List.getD xs16 (Int.toNat a14) (⟨ByteArray.empty, ByteArray.empty, (0 : Int), (0 : Int), (0 : Int), []⟩ : S104)).f2)) = true then
                    ret (.inl false)
                  else
                    rec_ a13 (IntKind.i64.wrap (a14 + (1 : Int))) xs15 xs16
                else none
              else none
            else none
          else none
        else
          ret (.inl false)
      else none
    else none
  else
    ret (.inr ())
def f12.l10_1 (k : Nat) : Nat → Int → Int → (List S104) → (List S104) → Option (Bool ⊕ (Unit))
  | 0, _, _, _, _ => none
  | j + 1, a13, a14, xs15, xs16 => f12.l10_1.step k (fun a13 a14 xs15 xs16 => f12.l10_1 k j a13 a14 xs15 xs16) some a13 a14 xs15 xs16
def f12.l10_1.w {R : Type} : (Bool ⊕ (Unit)) → (Exit → St env → Option R) → Option R := fun x K => Sum.elim (fun t20 => K .ret ⟨fullT [4] 0 89 [.v (.c (.s (.bool t20)))], [], 1394⟩) (fun t21 => K (.exit 0) ⟨fullT [] 0 89 [], [], 1394⟩) x
def f12.l10_1.st (a13 : Int) (a14 : Int) (xs15 : List S104) (xs16 : List S104) : St env := ⟨fullT [6, 7, 10, 13] 0 89 [.v (.c (.s (.int .i64 a13))), .v (.c (.row 274)), .v (.c (.row 434)), .v (.c (.s (.int .i64 a14)))], [(274, .row true 104 xs15), (434, .row true 104 xs16)], 946⟩
def f12.l10_1.hd (k : Nat) (ts_ : List (AV env)) (mm_ : Mem env) (n_ : Nat) : LCl env :=
  gTs LCl.no [6, 7, 10, 13] 89 ts_ fun l_ => gV LCl.no l_ fun a_ l_ => rV LCl.no a_ fun v_ => vI LCl.no .i64 v_ fun a13 => gV LCl.no l_ fun a_ l_ => rRow LCl.no 274 a_ <| gV LCl.no l_ fun a_ l_ => rRow LCl.no 434 a_ <| gV LCl.no l_ fun a_ l_ => rV LCl.no a_ fun v_ => vI LCl.no .i64 v_ fun a14 => gE LCl.no l_ <| mRow LCl.no 274 true 104 mm_ fun xs15 m_ => mRow LCl.no 434 true 104 m_ fun xs16 m_ => gE LCl.no m_ <| gN LCl.no 946 n_ { α := Bool ⊕ (Unit), o := f12.l10_1 k k a13 a14 xs15 xs16, w := f12.l10_1.w }
def f12.l10.hd (k : Nat) (ts_ : List (AV env)) (mm_ : Mem env) (n_ : Nat) : LCl env :=
  gTs (f12.l10_1.hd k ts_ mm_ n_) [6, 7, 10, 13] 89 ts_ fun l_ => gV (f12.l10_1.hd k ts_ mm_ n_) l_ fun a_ l_ => rV (f12.l10_1.hd k ts_ mm_ n_) a_ fun v_ => vI (f12.l10_1.hd k ts_ mm_ n_) .i64 v_ fun a7 => gV (f12.l10_1.hd k ts_ mm_ n_) l_ fun a_ l_ => rV (f12.l10_1.hd k ts_ mm_ n_) a_ fun v_ => vNil (f12.l10_1.hd k ts_ mm_ n_) v_ <| gV (f12.l10_1.hd k ts_ mm_ n_) l_ fun a_ l_ => rRow (f12.l10_1.hd k ts_ mm_ n_) 434 a_ <| gV (f12.l10_1.hd k ts_ mm_ n_) l_ fun a_ l_ => rV (f12.l10_1.hd k ts_ mm_ n_) a_ fun v_ => vI (f12.l10_1.hd k ts_ mm_ n_) .i64 v_ fun a8 => gE (f12.l10_1.hd k ts_ mm_ n_) l_ <| mRow (f12.l10_1.hd k ts_ mm_ n_) 434 true 104 mm_ fun xs9 m_ => gE (f12.l10_1.hd k ts_ mm_ n_) m_ <| gN (f12.l10_1.hd k ts_ mm_ n_) 946 n_ { α := Unit, o := f12.l10 k k a7 a8 xs9, w := f12.l10.w }
def f12.step {R : Type} (k : Nat) (ret : Bool → Option R) (xs1 : List Int) (xs2 : List Int) : Option R :=
  if (decide ((((List.length xs1) : Nat) : Int) > (1048576 : Int))) = false then
    if (decide ((((List.length xs2) : Nat) : Int) > (1048576 : Int))) = true then
      ret true
    else
      (f68 k xs1).bind fun t3 => (f16 k xs2 (0 : Int) (100 : Int)).bind fun t4 => (f69 k t3 t4).bind (Sum.elim (fun t5 => (f70 k t3 t4).bind fun t6 => if (decide (t5.2 ≠ (0 : Int))) = false then
                if (decide (t5.1 ≠ t6.2.1)) = false then
                  if (decide ((0 : Int) ≠ (((List.length t6.1) : Nat) : Int))) = false then
                    if (decide ((IntKind.i64.wrap (t5.1 + (0 : Int))) ≠ (((List.length t3) : Nat) : Int))) = true then
                      ret false
                    else
                      (f12.l10 k k t4 (0 : Int) t6.1).bind fun t10 => ret true
                  else
                    ret false
                else
                  ret false
              else
                ret false) (fun t11 => (f70 k t3 t4).bind fun t12 => if (decide (t11.2.2 ≠ (0 : Int))) = false then
                if (decide (t11.2.1 ≠ t12.2.1)) = false then
                  if (decide ((((List.length t11.1) : Nat) : Int) ≠ (((List.length t12.1) : Nat) : Int))) = false then
                    if (decide ((IntKind.i64.wrap (t11.2.1 + (((List.length t11.1) : Nat) : Int))) ≠ (((List.length t3) : Nat) : Int))) = true then
                      ret false
                    else
                      (f12.l10_1 k k t4 (0 : Int) t11.1 t12.1).bind (Sum.elim (fun t17 => ret t17) (fun t18 => ret true))
                  else
                    ret false
                else
                  ret false
              else
                ret false))
  else
    ret true
def f12 (k : Nat) (xs1 : List Int) (xs2 : List Int) : Option Bool := f12.step k some xs1 xs2
def f12.w {R : Type} : Bool → (Res env → Option R) → Option R := fun t22 K => K ⟨.v (.c (.s (.bool t22))), [[], []]⟩
theorem f12.wn (x : Bool) : ∃ res, ∀ {R : Type} (K : Res env → Option R), f12.w x K = K res := by
  exact ⟨_, fun _ => rfl⟩
def f12.hd (k : Nat) (ps_ : List (P2 env)) : Cl env :=
  gC Cl.no ps_ fun p_ ps_ => qC Cl.no p_ fun c_ => qSl Cl.no 5 c_ fun xs1 => gC Cl.no ps_ fun p_ ps_ => qC Cl.no p_ fun c_ => qSl Cl.no 5 c_ fun xs2 => gE Cl.no ps_ <| { α := Bool, o := f12 k xs1 xs2, w := f12.w, nat := fun x _ => f12.wn x }
def f12.e (k : Nat) : Entry env := ⟨fun ps => f12.hd k (coer [[.rd 5], [.rd 5]] ps), [], []⟩
def f12.X (k : Nat) : Ctx env := { C := lookE [(16, f16.e k), (68, f68.e k), (69, f69.e k), (70, f70.e k)], L := lookE [(10, fun S => f12.l10.hd k S.ts S.m S.n)], J := lookE [], keep := lookD [(10, [6, 7, 10, 13])], keepX := lookD [(10, [4])], span := lookN [(10, 448)], eff := fun n => memN n [], prep := lookP [], np := 0 }
theorem f12.l10_1.nat {R : Type} (k : Nat) (rec_ : Int → Int → (List S104) → (List S104) → Option (Bool ⊕ (Unit))) (g : (Bool ⊕ (Unit)) → Option R) (a13 : Int) (a14 : Int) (xs15 : List S104) (xs16 : List S104) : (f12.l10_1.step k rec_ some a13 a14 xs15 xs16).bind g = f12.l10_1.step k (fun a13 a14 xs15 xs16 => (rec_ a13 a14 xs15 xs16).bind g) g a13 a14 xs15 xs16 := by
  simp only [f12.l10_1.step, bind_ite, bind_sum, Option.bind_assoc, Option.bind_some, Option.bind_none]
theorem f12.l10_1.good (k : Nat) (a13 : Int) (a14 : Int) (xs15 : List S104) (xs16 : List S104) : GoodL (f12.X k) (nthC 0 (loopsOf (bodyOf Try.f12))) (f12.l10_1.st a13 a14 xs15 xs16) { α := (Bool ⊕ (Unit)), o := f12.l10_1 k k a13 a14 xs15 xs16, w := f12.l10_1.w } :=
  loop_good (ι := Int × Int × (List S104) × (List S104)) (α := (Bool ⊕ (Unit))) (fun i => f12.l10_1.st i.1 i.2.1 i.2.2.1 i.2.2.2) (fun j i => f12.l10_1 k j i.1 i.2.1 i.2.2.1 i.2.2.2) f12.l10_1.w (fun rec_ ret i => f12.l10_1.step k (fun a13 a14 xs15 xs16 => rec_ (a13, a14, xs15, xs16)) ret i.1 i.2.1 i.2.2.1 i.2.2.2)
    (fun _ => rfl) (fun _ _ => rfl) (fun rec_ g i => f12.l10_1.nat k _ g i.1 i.2.1 i.2.2.1 i.2.2.2) (fun {R} i0 i rec_ K => by kernel_rfl) k (a13, a14, xs15, xs16)
theorem f12.l10_1.all (k : Nat) (S : St env) : GoodL (f12.X k) (nthC 0 (loopsOf (bodyOf Try.f12))) S (f12.l10_1.hd k S.ts S.m S.n) := by
  obtain ⟨ts_, m_, n_⟩ := S
  show GoodL _ _ _ (f12.l10_1.hd k ts_ m_ n_)
  unfold f12.l10_1.hd
  refine gTs_ok (p := GoodL _ _ _) goodL_no fun _ h => ?_
  subst h
  refine gV_ok (p := GoodL _ _ _) goodL_no fun _ _ h => ?_
  subst h
  refine rV_ok (p := GoodL _ _ _) goodL_no fun _ h => ?_
  subst h
  refine vI_ok (p := GoodL _ _ _) goodL_no fun _ h => ?_
  subst h
  refine gV_ok (p := GoodL _ _ _) goodL_no fun _ _ h => ?_
  subst h
  refine rRow_ok (p := GoodL _ _ _) goodL_no fun h => ?_
  subst h
  refine gV_ok (p := GoodL _ _ _) goodL_no fun _ _ h => ?_
  subst h
  refine rRow_ok (p := GoodL _ _ _) goodL_no fun h => ?_
  subst h
  refine gV_ok (p := GoodL _ _ _) goodL_no fun _ _ h => ?_
  subst h
  refine rV_ok (p := GoodL _ _ _) goodL_no fun _ h => ?_
  subst h
  refine vI_ok (p := GoodL _ _ _) goodL_no fun _ h => ?_
  subst h
  refine gE_ok (p := GoodL _ _ _) goodL_no fun h => ?_
  subst h
  refine mRow_ok (p := GoodL _ _ _) goodL_no fun _ _ h => ?_
  subst h
  refine mRow_ok (p := GoodL _ _ _) goodL_no fun _ _ h => ?_
  subst h
  refine gE_ok (p := GoodL _ _ _) goodL_no fun h => ?_
  subst h
  refine gN_ok (p := GoodL _ _ _) goodL_no fun h => ?_
  subst h
  exact f12.l10_1.good k _ _ _ _
theorem f12.l10.nat {R : Type} (k : Nat) (rec_ : Int → Int → (List S104) → Option Unit) (g : Unit → Option R) (a7 : Int) (a8 : Int) (xs9 : List S104) : (f12.l10.step k rec_ some a7 a8 xs9).bind g = f12.l10.step k (fun a7 a8 xs9 => (rec_ a7 a8 xs9).bind g) g a7 a8 xs9 := by
  simp only [f12.l10.step, bind_ite, bind_sum, Option.bind_assoc, Option.bind_some, Option.bind_none]
theorem f12.l10.good (k : Nat) (a7 : Int) (a8 : Int) (xs9 : List S104) : GoodL (f12.X k) (nthC 0 (loopsOf (bodyOf Try.f12))) (f12.l10.st a7 a8 xs9) { α := Unit, o := f12.l10 k k a7 a8 xs9, w := f12.l10.w } :=
  loop_good (ι := Int × Int × (List S104)) (α := Unit) (fun i => f12.l10.st i.1 i.2.1 i.2.2) (fun j i => f12.l10 k j i.1 i.2.1 i.2.2) f12.l10.w (fun rec_ ret i => f12.l10.step k (fun a7 a8 xs9 => rec_ (a7, a8, xs9)) ret i.1 i.2.1 i.2.2)
    (fun _ => rfl) (fun _ _ => rfl) (fun rec_ g i => f12.l10.nat k _ g i.1 i.2.1 i.2.2) (fun {R} i0 i rec_ K => by kernel_rfl) k (a7, a8, xs9)
theorem f12.l10.all (k : Nat) (S : St env) : GoodL (f12.X k) (nthC 0 (loopsOf (bodyOf Try.f12))) S (f12.l10.hd k S.ts S.m S.n) := by
  obtain ⟨ts_, m_, n_⟩ := S
  have hN_ := f12.l10_1.all k ⟨ts_, m_, n_⟩
  show GoodL _ _ _ (f12.l10.hd k ts_ m_ n_)
  unfold f12.l10.hd
  refine gTs_ok (p := GoodL _ _ _) hN_ fun _ h => ?_
  subst h
  refine gV_ok (p := GoodL _ _ _) hN_ fun _ _ h => ?_
  subst h
  refine rV_ok (p := GoodL _ _ _) hN_ fun _ h => ?_
  subst h
  refine vI_ok (p := GoodL _ _ _) hN_ fun _ h => ?_
  subst h
  refine gV_ok (p := GoodL _ _ _) hN_ fun _ _ h => ?_
  subst h
  refine rV_ok (p := GoodL _ _ _) hN_ fun _ h => ?_
  subst h
  refine vNil_ok (p := GoodL _ _ _) hN_ fun h => ?_
  subst h
  refine gV_ok (p := GoodL _ _ _) hN_ fun _ _ h => ?_
  subst h
  refine rRow_ok (p := GoodL _ _ _) hN_ fun h => ?_
  subst h
  refine gV_ok (p := GoodL _ _ _) hN_ fun _ _ h => ?_
  subst h
  refine rV_ok (p := GoodL _ _ _) hN_ fun _ h => ?_
  subst h
  refine vI_ok (p := GoodL _ _ _) hN_ fun _ h => ?_
  subst h
  refine gE_ok (p := GoodL _ _ _) hN_ fun h => ?_
  subst h
  refine mRow_ok (p := GoodL _ _ _) hN_ fun _ _ h => ?_
  subst h
  refine gE_ok (p := GoodL _ _ _) hN_ fun h => ?_
  subst h
  refine gN_ok (p := GoodL _ _ _) hN_ fun h => ?_
  subst h
  exact f12.l10.good k _ _ _
theorem f12.nat {R : Type} (k : Nat) (g : Bool → Option R) (xs1 : List Int) (xs2 : List Int) : f12.step k g xs1 xs2 = (f12 k xs1 xs2).bind g := by
  simp only [f12, f12.step, bind_ite, bind_sum, Option.bind_assoc, Option.bind_some, Option.bind_none]
theorem f12.ev (k : Nat) (xs1 : List Int) (xs2 : List Int) : evF (f12.X k) (bodyOf Try.f12) Try.f12.ntmps Try.f12.results.toList [.v (.c (.sl 5 xs1)), .v (.c (.sl 5 xs2))] = f12.step k (fun x => f12.w x some) xs1 xs2 := by kernel_rfl
theorem f12.hok (k : Nat) : HOK (f12.X k) (bodyOf Try.f12) where
  l := allP_mem (by exact ⟨ls_of (h0 := fun S => f12.l10.hd k S.ts S.m S.n) (by kernel_rfl) (f12.l10.all k), trivial⟩)
  j := allP_mem (by exact trivial)
theorem f12.sound0 (k : Nat) : SoundC env Try.prog 12 (f12.hd k) := by
  intro ps_
  show GoodC _ _ _ ps_ (f12.hd k ps_)
  unfold f12.hd
  refine gC_ok (p := GoodC env Try.prog 12 _) goodC_no fun _ _ h => ?_
  subst h
  refine qC_ok (p := GoodC env Try.prog 12 _) goodC_no fun _ h => ?_
  subst h
  refine qSl_ok (p := GoodC env Try.prog 12 _) goodC_no fun _ h => ?_
  subst h
  refine gC_ok (p := GoodC env Try.prog 12 _) goodC_no fun _ _ h => ?_
  subst h
  refine qC_ok (p := GoodC env Try.prog 12 _) goodC_no fun _ h => ?_
  subst h
  refine qSl_ok (p := GoodC env Try.prog 12 _) goodC_no fun _ h => ?_
  subst h
  refine gE_ok (p := GoodC env Try.prog 12 _) goodC_no fun h => ?_
  subst h
  exact fun_good (fun_sound envOK (cs_sound _ (by exact ⟨⟨f16.sound k, f16.fnok⟩, ⟨f68.sound k, f68.fnok⟩, ⟨f69.sound k, f69.fnok⟩, ⟨f70.sound k, f70.fnok⟩, trivial⟩)) (f12.hok k) Try.func12 rfl) ((f12.ev k _ _).trans (f12.nat k _ _ _))
theorem f12.sound (k : Nat) : SoundC env Try.prog 12 (f12.e k).F := soundC_coer (f12.sound0 k) [[.rd 5], [.rd 5]]
theorem f12.says (k : Nat) (xs1 : List Int) (xs2 : List Int) (t23 : Bool) (h_ : f12 k xs1 xs2 = some t23) : SoundAt env Try.prog 12 [.v (.c (.sl 5 xs1)), .v (.c (.sl 5 xs2))] ⟨.v (.c (.s (.bool t23))), [[], []]⟩ :=
  fun_sound envOK (cs_sound _ (by exact ⟨⟨f16.sound k, f16.fnok⟩, ⟨f68.sound k, f68.fnok⟩, ⟨f69.sound k, f69.fnok⟩, ⟨f70.sound k, f70.fnok⟩, trivial⟩)) (f12.hok k) Try.func12 rfl _ _ (((f12.ev k xs1 xs2).trans (f12.nat k _ xs1 xs2)).trans (by rw [h_]; rfl))
theorem f12.fnok : FnOK Try.prog 12 := fn_ok Try.func12 (by kernel_rfl) rfl
end Go.Proofs.Ytildepkogbcdpaa.B

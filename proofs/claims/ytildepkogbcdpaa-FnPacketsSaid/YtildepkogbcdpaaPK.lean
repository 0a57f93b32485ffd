/- Written by a program of this session. -/
import Derived.Test.YtildepkogbcdpaaPKa
namespace Go.Proofs.Ytildepkogbcdpaa.B
open Go Go.B
set_option linter.unusedVariables false
set_option linter.unusedSimpArgs false
def f9.step {R : Type} (k : Nat) (ret : Bool → Option R) (xs1 : List Int) : Option R :=
  if (decide ((((List.length xs1) : Nat) : Int) > (1048576 : Int))) = true then
    ret true
  else
    (f55 k xs1).bind fun t2 => (f56 k t2.1 t2.2.1 t2.2.2.1 t2.2.2.2.1 t2.2.2.2.2.1 t2.2.2.2.2.2.1 t2.2.2.2.2.2.2.1 t2.2.2.2.2.2.2.2.1 t2.2.2.2.2.2.2.2.2.1 t2.2.2.2.2.2.2.2.2.2).bind (Sum.elim (fun t3 => (f57 k t2.1 t2.2.1 t2.2.2.1 t2.2.2.2.1 t2.2.2.2.2.1 t2.2.2.2.2.2.1 t2.2.2.2.2.2.2.1 t2.2.2.2.2.2.2.2.1 t2.2.2.2.2.2.2.2.2.1 t2.2.2.2.2.2.2.2.2.2).bind fun t4 => (f31 k ([] : List Int)).bind (Sum.elim (fun t5 => (f58 k xs1).bind fun t6 => (f31 k t6).bind (Sum.elim (fun t7 => (f29 k t6).bind (Sum.elim (fun t8 => if (decide (t3 ≠ (0 : Int))) = false then
                    if (decide (ByteArray.toList ByteArray.empty ≠ ByteArray.toList (strOf t4.1))) = false then
                      if (decide (t5.2.2.2.2.2.2.2.2.2 ≠ (0 : Int))) = false then
                        (f19 k t5.1 t5.2.1 t5.2.2.1 t5.2.2.2.1 t5.2.2.2.2.1 t5.2.2.2.2.2.1 t5.2.2.2.2.2.2.1 t5.2.2.2.2.2.2.2.1 t5.2.2.2.2.2.2.2.2.1 ([] : List Int) t2.1 t2.2.1 t2.2.2.1 t2.2.2.2.1 t2.2.2.2.2.1 t2.2.2.2.2.2.1 t2.2.2.2.2.2.2.1 t2.2.2.2.2.2.2.2.1 t2.2.2.2.2.2.2.2.2.1 t2.2.2.2.2.2.2.2.2.2).bind fun t9 => if (!t9) = false then
                            (f20 k t2.1 t2.2.1 t2.2.2.1 t2.2.2.2.1 t2.2.2.2.2.1 t2.2.2.2.2.2.1 t2.2.2.2.2.2.2.1 t2.2.2.2.2.2.2.2.1 t2.2.2.2.2.2.2.2.2.1 t2.2.2.2.2.2.2.2.2.2).bind fun t10 => if (!t10) = false then
                                if (decide (t7.2.2.2.2.2.2.2.2.2 ≠ t8.2.2.2.2.2.2.2.2.2)) = false then
                                  (f19 k t7.1 t7.2.1 t7.2.2.1 t7.2.2.2.1 t7.2.2.2.2.1 t7.2.2.2.2.2.1 t7.2.2.2.2.2.2.1 t7.2.2.2.2.2.2.2.1 t7.2.2.2.2.2.2.2.2.1 ([] : List Int) t8.1 t8.2.1 t8.2.2.1 t8.2.2.2.1 t8.2.2.2.2.1 t8.2.2.2.2.2.1 t8.2.2.2.2.2.2.1 t8.2.2.2.2.2.2.2.1 t8.2.2.2.2.2.2.2.2.1 ([] : List Int)).bind fun t11 => if (!t11) = true then
                                      ret false
                                    else
                                      if (decide (t7.2.2.2.2.2.2.2.2.2 ≠ (0 : Int))) = true then
                                        ret true
                                      else
                                        (f56 k t7.1 t7.2.1 t7.2.2.1 t7.2.2.2.1 t7.2.2.2.2.1 t7.2.2.2.2.2.1 t7.2.2.2.2.2.2.1 t7.2.2.2.2.2.2.2.1 t7.2.2.2.2.2.2.2.2.1 ([] : List Int)).bind (Sum.elim (fun t12 => if (decide (t12 ≠ (0 : Int))) = false then
                                            if (decide ((0 : Int) ≠ (((List.length t6) : Nat) : Int))) = true then
                                              ret false
                                            else
                                              if (decide (t7.1 = (6 : Int))) = true then
                                                none
                                              else
                                                none
                                          else
                                            ret false) (fun t13 => if (decide (t13.2 ≠ (0 : Int))) = false then
                                            if (decide ((((List.length t13.1) : Nat) : Int) ≠ (((List.length t6) : Nat) : Int))) = true then
                                              ret false
                                            else
                                              if (decide (t7.1 = (6 : Int))) = true then
                                                if (6 : Int) ≤ ((List.length t13.1 : Nat) : Int) then
                                                  if ((List.length t13.1 : Nat) : Int) ≤ ((List.length t13.1 : Nat) : Int) then
                                                    if (6 : Int) ≤ ((List.length t6 : Nat) : Int) then
                                                      if ((List.length t6 : Nat) : Int) ≤ ((List.length t6 : Nat) : Int) then
                                                        ret (decide (ByteArray.toList (strOf (List.take ((Int.toNat ((List.length t13.1 : Nat) : Int)) - 6) (List.drop 6 t13.1))) = ByteArray.toList (strOf (List.take ((Int.toNat ((List.length t6 : Nat) : Int)) - 6) (List.drop 6 t6)))))
                                                      else none
                                                    else none
                                                  else none
                                                else none
                                              else
                                                if (1 : Int) ≤ ((List.length t13.1 : Nat) : Int) then
                                                  if (10 : Int) ≤ ((List.length t13.1 : Nat) : Int) then
                                                    if ByteArray.size (strOf (List.take (1 - 0) (List.drop 0 t13.1))) + ByteArray.size (strOf (List.take (10 - 2) (List.drop 2 t13.1))) ≤ maxN then
                                                      if (12 : Int) ≤ ((List.length t13.1 : Nat) : Int) then
                                                        if ((List.length t13.1 : Nat) : Int) ≤ ((List.length t13.1 : Nat) : Int) then
                                                          if ByteArray.size ((strOf (List.take (1 - 0) (List.drop 0 t13.1))) ++ (strOf (List.take (10 - 2) (List.drop 2 t13.1)))) + ByteArray.size (strOf (List.take ((Int.toNat ((List.length t13.1 : Nat) : Int)) - 12) (List.drop 12 t13.1))) ≤ maxN then
                                                            if (1 : Int) ≤ ((List.length t6 : Nat) : Int) then
                                                              if (10 : Int) ≤ ((List.length t6 : Nat) : Int) then
                                                                if ByteArray.size (strOf (List.take (1 - 0) (List.drop 0 t6))) + ByteArray.size (strOf (List.take (10 - 2) (List.drop 2 t6))) ≤ maxN then
                                                                  if (12 : Int) ≤ ((List.length t6 : Nat) : Int) then
                                                                    if ((List.length t6 : Nat) : Int) ≤ ((List.length t6 : Nat) : Int) then
                                                                      if ByteArray.size ((strOf (List.take (1 - 0) (List.drop 0 t6))) ++ (strOf (List.take (10 - 2) (List.drop 2 t6)))) + ByteArray.size (strOf (List.take ((Int.toNat ((List.length t6 : Nat) : Int)) - 12) (List.drop 12 t6))) ≤ maxN then
                                                                        ret (decide (ByteArray.toList (((strOf (List.take (1 - 0) (List.drop 0 t13.1))) ++ (strOf (List.take (10 - 2) (List.drop 2 t13.1)))) ++ (strOf (List.take ((Int.toNat ((List.length t13.1 : Nat) : Int)) - 12) (List.drop 12 t13.1)))) = ByteArray.toList (((strOf (List.take (1 - 0) (List.drop 0 t6))) ++ (strOf (List.take (10 - 2) (List.drop 2 t6)))) ++ (strOf (List.take ((Int.toNat ((List.length t6 : Nat) : Int)) - 12) (List.drop 12 t6))))))
                                                                      else none
                                                                    else none
                                                                  else none
                                                                else none
                                                              else none
                                                            else none
                                                          else none
                                                        else none
                                                      else none
                                                    else none
                                                  else none
                                                else none
                                          else
                                            ret false))
                                else
                                  ret false
                              else
                                ret false
                          else
                            ret false
                      else
                        ret false
                    else
                      ret false
                  else
                    ret false) (fun t14 => if (decide (t3 ≠ (0 : Int))) = false then
                    if (decide (ByteArray.toList ByteArray.empty ≠ ByteArray.toList (strOf t4.1))) = false then
                      if (decide (t5.2.2.2.2.2.2.2.2.2 ≠ (0 : Int))) = false then
                        (f19 k t5.1 t5.2.1 t5.2.2.1 t5.2.2.2.1 t5.2.2.2.2.1 t5.2.2.2.2.2.1 t5.2.2.2.2.2.2.1 t5.2.2.2.2.2.2.2.1 t5.2.2.2.2.2.2.2.2.1 ([] : List Int) t2.1 t2.2.1 t2.2.2.1 t2.2.2.2.1 t2.2.2.2.2.1 t2.2.2.2.2.2.1 t2.2.2.2.2.2.2.1 t2.2.2.2.2.2.2.2.1 t2.2.2.2.2.2.2.2.2.1 t2.2.2.2.2.2.2.2.2.2).bind fun t15 => if (!t15) = false then
                            (f20 k t2.1 t2.2.1 t2.2.2.1 t2.2.2.2.1 t2.2.2.2.2.1 t2.2.2.2.2.2.1 t2.2.2.2.2.2.2.1 t2.2.2.2.2.2.2.2.1 t2.2.2.2.2.2.2.2.2.1 t2.2.2.2.2.2.2.2.2.2).bind fun t16 => if (!t16) = false then
                                if (decide (t7.2.2.2.2.2.2.2.2.2 ≠ t14.2.2.2.2.2.2.2.2.2.2)) = false then
                                  (f19 k t7.1 t7.2.1 t7.2.2.1 t7.2.2.2.1 t7.2.2.2.2.1 t7.2.2.2.2.2.1 t7.2.2.2.2.2.2.1 t7.2.2.2.2.2.2.2.1 t7.2.2.2.2.2.2.2.2.1 ([] : List Int) t14.1 t14.2.1 t14.2.2.1 t14.2.2.2.1 t14.2.2.2.2.1 t14.2.2.2.2.2.1 t14.2.2.2.2.2.2.1 t14.2.2.2.2.2.2.2.1 t14.2.2.2.2.2.2.2.2.1 t14.2.2.2.2.2.2.2.2.2.1).bind fun t17 => if (!t17) = true then
                                      ret false
                                    else
                                      if (decide (t7.2.2.2.2.2.2.2.2.2 ≠ (0 : Int))) = true then
                                        ret true
                                      else
                                        (f56 k t7.1 t7.2.1 t7.2.2.1 t7.2.2.2.1 t7.2.2.2.2.1 t7.2.2.2.2.2.1 t7.2.2.2.2.2.2.1 t7.2.2.2.2.2.2.2.1 t7.2.2.2.2.2.2.2.2.1 ([] : List Int)).bind (Sum.elim (fun t18 => if (decide (t18 ≠ (0 : Int))) = false then
                                            if (decide ((0 : Int) ≠ (((List.length t6) : Nat) : Int))) = true then
                                              ret false
                                            else
                                              if (decide (t7.1 = (6 : Int))) = true then
                                                none
                                              else
                                                none
                                          else
                                            ret false) (fun t19 => if (decide (t19.2 ≠ (0 : Int))) = false then
                                            if (decide ((((List.length t19.1) : Nat) : Int) ≠ (((List.length t6) : Nat) : Int))) = true then
                                              ret false
                                            else
                                              if (decide (t7.1 = (6 : Int))) = true then
                                                if (6 : Int) ≤ ((List.length t19.1 : Nat) : Int) then
                                                  if ((List.length t19.1 : Nat) : Int) ≤ ((List.length t19.1 : Nat) : Int) then
                                                    if (6 : Int) ≤ ((List.length t6 : Nat) : Int) then
                                                      if ((List.length t6 : Nat) : Int) ≤ ((List.length t6 : Nat) : Int) then
                                                        ret (decide (ByteArray.toList (strOf (List.take ((Int.toNat ((List.length t19.1 : Nat) : Int)) - 6) (List.drop 6 t19.1))) = ByteArray.toList (strOf (List.take ((Int.toNat ((List.length t6 : Nat) : Int)) - 6) (List.drop 6 t6)))))
                                                      else none
                                                    else none
                                                  else none
                                                else none
                                              else
                                                if (1 : Int) ≤ ((List.length t19.1 : Nat) : Int) then
                                                  if (10 : Int) ≤ ((List.length t19.1 : Nat) : Int) then
                                                    if ByteArray.size (strOf (List.take (1 - 0) (List.drop 0 t19.1))) + ByteArray.size (strOf (List.take (10 - 2) (List.drop 2 t19.1))) ≤ maxN then
                                                      if (12 : Int) ≤ ((List.length t19.1 : Nat) : Int) then
                                                        if ((List.length t19.1 : Nat) : Int) ≤ ((List.length t19.1 : Nat) : Int) then
                                                          if ByteArray.size ((strOf (List.take (1 - 0) (List.drop 0 t19.1))) ++ (strOf (List.take (10 - 2) (List.drop 2 t19.1)))) + ByteArray.size (strOf (List.take ((Int.toNat ((List.length t19.1 : Nat) : Int)) - 12) (List.drop 12 t19.1))) ≤ maxN then
                                                            if (1 : Int) ≤ ((List.length t6 : Nat) : Int) then
                                                              if (10 : Int) ≤ ((List.length t6 : Nat) : Int) then
                                                                if ByteArray.size (strOf (List.take (1 - 0) (List.drop 0 t6))) + ByteArray.size (strOf (List.take (10 - 2) (List.drop 2 t6))) ≤ maxN then
                                                                  if (12 : Int) ≤ ((List.length t6 : Nat) : Int) then
                                                                    if ((List.length t6 : Nat) : Int) ≤ ((List.length t6 : Nat) : Int) then
                                                                      if ByteArray.size ((strOf (List.take (1 - 0) (List.drop 0 t6))) ++ (strOf (List.take (10 - 2) (List.drop 2 t6)))) + ByteArray.size (strOf (List.take ((Int.toNat ((List.length t6 : Nat) : Int)) - 12) (List.drop 12 t6))) ≤ maxN then
                                                                        ret (decide (ByteArray.toList (((strOf (List.take (1 - 0) (List.drop 0 t19.1))) ++ (strOf (List.take (10 - 2) (List.drop 2 t19.1)))) ++ (strOf (List.take ((Int.toNat ((List.length t19.1 : Nat) : Int)) - 12) (List.drop 12 t19.1)))) = ByteArray.toList (((strOf (List.take (1 - 0) (List.drop 0 t6))) ++ (strOf (List.take (10 - 2) (List.drop 2 t6)))) ++ (strOf (List.take ((Int.toNat ((List.length t6 : Nat) : Int)) - 12) (List.drop 12 t6))))))
                                                                      else none
                                                                    else none
                                                                  else none
                                                                else none
                                                              else none
                                                            else none
                                                          else none
                                                        else none
                                                      else none
                                                    else none
                                                  else none
                                                else none
                                          else
                                            ret false))
                                else
                                  ret false
                              else
                                ret false
                          else
                            ret false
                      else
                        ret false
                    else
                      ret false
                  else
                    ret false))) (fun t20 => (f29 k t6).bind (Sum.elim (fun t21 => if (decide (t3 ≠ (0 : Int))) = false then
                    if (decide (ByteArray.toList ByteArray.empty ≠ ByteArray.toList (strOf t4.1))) = false then
                      if (decide (t5.2.2.2.2.2.2.2.2.2 ≠ (0 : Int))) = false then
                        (f19 k t5.1 t5.2.1 t5.2.2.1 t5.2.2.2.1 t5.2.2.2.2.1 t5.2.2.2.2.2.1 t5.2.2.2.2.2.2.1 t5.2.2.2.2.2.2.2.1 t5.2.2.2.2.2.2.2.2.1 ([] : List Int) t2.1 t2.2.1 t2.2.2.1 t2.2.2.2.1 t2.2.2.2.2.1 t2.2.2.2.2.2.1 t2.2.2.2.2.2.2.1 t2.2.2.2.2.2.2.2.1 t2.2.2.2.2.2.2.2.2.1 t2.2.2.2.2.2.2.2.2.2).bind fun t22 => if (!t22) = false then
                            (f20 k t2.1 t2.2.1 t2.2.2.1 t2.2.2.2.1 t2.2.2.2.2.1 t2.2.2.2.2.2.1 t2.2.2.2.2.2.2.1 t2.2.2.2.2.2.2.2.1 t2.2.2.2.2.2.2.2.2.1 t2.2.2.2.2.2.2.2.2.2).bind fun t23 => if (!t23) = false then
                                if (decide (t20.2.2.2.2.2.2.2.2.2.2 ≠ t21.2.2.2.2.2.2.2.2.2)) = false then
                                  (f19 k t20.1 t20.2.1 t20.2.2.1 t20.2.2.2.1 t20.2.2.2.2.1 t20.2.2.2.2.2.1 t20.2.2.2.2.2.2.1 t20.2.2.2.2.2.2.2.1 t20.2.2.2.2.2.2.2.2.1 t20.2.2.2.2.2.2.2.2.2.1 t21.1 t21.2.1 t21.2.2.1 t21.2.2.2.1 t21.2.2.2.2.1 t21.2.2.2.2.2.1 t21.2.2.2.2.2.2.1 t21.2.2.2.2.2.2.2.1 t21.2.2.2.2.2.2.2.2.1 ([] : List Int)).bind fun t24 => if (!t24) = true then
                                      ret false
                                    else
                                      if (decide (t20.2.2.2.2.2.2.2.2.2.2 ≠ (0 : Int))) = true then
                                        ret true
                                      else
                                        (f56 k t20.1 t20.2.1 t20.2.2.1 t20.2.2.2.1 t20.2.2.2.2.1 t20.2.2.2.2.2.1 t20.2.2.2.2.2.2.1 t20.2.2.2.2.2.2.2.1 t20.2.2.2.2.2.2.2.2.1 t20.2.2.2.2.2.2.2.2.2.1).bind (Sum.elim (fun t25 => if (decide (t25 ≠ (0 : Int))) = false then
                                            if (decide ((0 : Int) ≠ (((List.length t6) : Nat) : Int))) = true then
                                              ret false
                                            else
                                              if (decide (t20.1 = (6 : Int))) = true then
                                                none
                                              else
                                                none
                                          else
                                            ret false) (fun t26 => if (decide (t26.2 ≠ (0 : Int))) = false then
                                            if (decide ((((List.length t26.1) : Nat) : Int) ≠ (((List.length t6) : Nat) : Int))) = true then
                                              ret false
                                            else
                                              if (decide (t20.1 = (6 : Int))) = true then
                                                if (6 : Int) ≤ ((List.length t26.1 : Nat) : Int) then
                                                  if ((List.length t26.1 : Nat) : Int) ≤ ((List.length t26.1 : Nat) : Int) then
                                                    if (6 : Int) ≤ ((List.length t6 : Nat) : Int) then
                                                      if ((List.length t6 : Nat) : Int) ≤ ((List.length t6 : Nat) : Int) then
                                                        ret (decide (ByteArray.toList (strOf (List.take ((Int.toNat ((List.length t26.1 : Nat) : Int)) - 6) (List.drop 6 t26.1))) = ByteArray.toList (strOf (List.take ((Int.toNat ((List.length t6 : Nat) : Int)) - 6) (List.drop 6 t6)))))
                                                      else none
                                                    else none
                                                  else none
                                                else none
                                              else
                                                if (1 : Int) ≤ ((List.length t26.1 : Nat) : Int) then
                                                  if (10 : Int) ≤ ((List.length t26.1 : Nat) : Int) then
                                                    if ByteArray.size (strOf (List.take (1 - 0) (List.drop 0 t26.1))) + ByteArray.size (strOf (List.take (10 - 2) (List.drop 2 t26.1))) ≤ maxN then
                                                      if (12 : Int) ≤ ((List.length t26.1 : Nat) : Int) then
                                                        if ((List.length t26.1 : Nat) : Int) ≤ ((List.length t26.1 : Nat) : Int) then
                                                          if ByteArray.size ((strOf (List.take (1 - 0) (List.drop 0 t26.1))) ++ (strOf (List.take (10 - 2) (List.drop 2 t26.1)))) + ByteArray.size (strOf (List.take ((Int.toNat ((List.length t26.1 : Nat) : Int)) - 12) (List.drop 12 t26.1))) ≤ maxN then
                                                            if (1 : Int) ≤ ((List.length t6 : Nat) : Int) then
                                                              if (10 : Int) ≤ ((List.length t6 : Nat) : Int) then
                                                                if ByteArray.size (strOf (List.take (1 - 0) (List.drop 0 t6))) + ByteArray.size (strOf (List.take (10 - 2) (List.drop 2 t6))) ≤ maxN then
                                                                  if (12 : Int) ≤ ((List.length t6 : Nat) : Int) then
                                                                    if ((List.length t6 : Nat) : Int) ≤ ((List.length t6 : Nat) : Int) then
                                                                      if ByteArray.size ((strOf (List.take (1 - 0) (List.drop 0 t6))) ++ (strOf (List.take (10 - 2) (List.drop 2 t6)))) + ByteArray.size (strOf (List.take ((Int.toNat ((List.length t6 : Nat) : Int)) - 12) (List.drop 12 t6))) ≤ maxN then
                                                                        ret (decide (ByteArray.toList (((strOf (List.take (1 - 0) (List.drop 0 t26.1))) ++ (strOf (List.take (10 - 2) (List.drop 2 t26.1)))) ++ (strOf (List.take ((Int.toNat ((List.length t26.1 : Nat) : Int)) - 12) (List.drop 12 t26.1)))) = ByteArray.toList (((strOf (List.take (1 - 0) (List.drop 0 t6))) ++ (strOf (List.take (10 - 2) (List.drop 2 t6)))) ++ (strOf (List.take ((Int.toNat ((List.length t6 : Nat) : Int)) - 12) (List.drop 12 t6))))))
                                                                      else none
                                                                    else none
                                                                  else none
                                                                else none
                                                              else none
                                                            else none
                                                          else none
                                                        else none
                                                      else none
                                                    else none
                                                  else none
                                                else none
                                          else
                                            ret false))
                                else
                                  ret false
                              else
                                ret false
                          else
                            ret false
                      else
                        ret false
                    else
                      ret false
                  else
                    ret false) (fun t27 => if (decide (t3 ≠ (0 : Int))) = false then
                    if (decide (ByteArray.toList ByteArray.empty ≠ ByteArray.toList (strOf t4.1))) = false then
                      if (decide (t5.2.2.2.2.2.2.2.2.2 ≠ (0 : Int))) = false then
                        (f19 k t5.1 t5.2.1 t5.2.2.1 t5.2.2.2.1 t5.2.2.2.2.1 t5.2.2.2.2.2.1 t5.2.2.2.2.2.2.1 t5.2.2.2.2.2.2.2.1 t5.2.2.2.2.2.2.2.2.1 ([] : List Int) t2.1 t2.2.1 t2.2.2.1 t2.2.2.2.1 t2.2.2.2.2.1 t2.2.2.2.2.2.1 t2.2.2.2.2.2.2.1 t2.2.2.2.2.2.2.2.1 t2.2.2.2.2.2.2.2.2.1 t2.2.2.2.2.2.2.2.2.2).bind fun t28 => if (!t28) = false then
                            (f20 k t2.1 t2.2.1 t2.2.2.1 t2.2.2.2.1 t2.2.2.2.2.1 t2.2.2.2.2.2.1 t2.2.2.2.2.2.2.1 t2.2.2.2.2.2.2.2.1 t2.2.2.2.2.2.2.2.2.1 t2.2.2.2.2.2.2.2.2.2).bind fun t29 => if (!t29) = false then
                                if (decide (t20.2.2.2.2.2.2.2.2.2.2 ≠ t27.2.2.2.2.2.2.2.2.2.2)) = false then
                                  (f19 k t20.1 t20.2.1 t20.2.2.1 t20.2.2.2.1 t20.2.2.2.2.1 t20.2.2.2.2.2.1 t20.2.2.2.2.2.2.1 t20.2.2.2.2.2.2.2.1 t20.2.2.2.2.2.2.2.2.1 t20.2.2.2.2.2.2.2.2.2.1 t27.1 t27.2.1 t27.2.2.1 t27.2.2.2.1 t27.2.2.2.2.1 t27.2.2.2.2.2.1 t27.2.2.2.2.2.2.1 t27.2.2.2.2.2.2.2.1 t27.2.2.2.2.2.2.2.2.1 t27.2.2.2.2.2.2.2.2.2.1).bind fun t30 => if (!t30) = true then
                                      ret false
                                    else
                                      if (decide (t20.2.2.2.2.2.2.2.2.2.2 ≠ (0 : Int))) = true then
                                        ret true
                                      else
                                        (f56 k t20.1 t20.2.1 t20.2.2.1 t20.2.2.2.1 t20.2.2.2.2.1 t20.2.2.2.2.2.1 t20.2.2.2.2.2.2.1 t20.2.2.2.2.2.2.2.1 t20.2.2.2.2.2.2.2.2.1 t20.2.2.2.2.2.2.2.2.2.1).bind (Sum.elim (fun t31 => if (decide (t31 ≠ (0 : Int))) = false then
                                            if (decide ((0 : Int) ≠ (((List.length t6) : Nat) : Int))) = true then
                                              ret false
                                            else
                                              if (decide (t20.1 = (6 : Int))) = true then
                                                none
                                              else
                                                none
                                          else
                                            ret false) (fun t32 => if (decide (t32.2 ≠ (0 : Int))) = false then
                                            if (decide ((((List.length t32.1) : Nat) : Int) ≠ (((List.length t6) : Nat) : Int))) = true then
                                              ret false
                                            else
                                              if (decide (t20.1 = (6 : Int))) = true then
                                                if (6 : Int) ≤ ((List.length t32.1 : Nat) : Int) then
                                                  if ((List.length t32.1 : Nat) : Int) ≤ ((List.length t32.1 : Nat) : Int) then
                                                    if (6 : Int) ≤ ((List.length t6 : Nat) : Int) then
                                                      if ((List.length t6 : Nat) : Int) ≤ ((List.length t6 : Nat) : Int) then
                                                        ret (decide (ByteArray.toList (strOf (List.take ((Int.toNat ((List.length t32.1 : Nat) : Int)) - 6) (List.drop 6 t32.1))) = ByteArray.toList (strOf (List.take ((Int.toNat ((List.length t6 : Nat) : Int)) - 6) (List.drop 6 t6)))))
                                                      else none
                                                    else none
                                                  else none
                                                else none
                                              else
                                                if (1 : Int) ≤ ((List.length t32.1 : Nat) : Int) then
                                                  if (10 : Int) ≤ ((List.length t32.1 : Nat) : Int) then
                                                    if ByteArray.size (strOf (List.take (1 - 0) (List.drop 0 t32.1))) + ByteArray.size (strOf (List.take (10 - 2) (List.drop 2 t32.1))) ≤ maxN then
                                                      if (12 : Int) ≤ ((List.length t32.1 : Nat) : Int) then
                                                        if ((List.length t32.1 : Nat) : Int) ≤ ((List.length t32.1 : Nat) : Int) then
                                                          if ByteArray.size ((strOf (List.take (1 - 0) (List.drop 0 t32.1))) ++ (strOf (List.take (10 - 2) (List.drop 2 t32.1)))) + ByteArray.size (strOf (List.take ((Int.toNat ((List.length t32.1 : Nat) : Int)) - 12) (List.drop 12 t32.1))) ≤ maxN then
                                                            if (1 : Int) ≤ ((List.length t6 : Nat) : Int) then
                                                              if (10 : Int) ≤ ((List.length t6 : Nat) : Int) then
                                                                if ByteArray.size (strOf (List.take (1 - 0) (List.drop 0 t6))) + ByteArray.size (strOf (List.take (10 - 2) (List.drop 2 t6))) ≤ maxN then
                                                                  if (12 : Int) ≤ ((List.length t6 : Nat) : Int) then
                                                                    if ((List.length t6 : Nat) : Int) ≤ ((List.length t6 : Nat) : Int) then
                                                                      if ByteArray.size ((strOf (List.take (1 - 0) (List.drop 0 t6))) ++ (strOf (List.take (10 - 2) (List.drop 2 t6)))) + ByteArray.size (strOf (List.take ((Int.toNat ((List.length t6 : Nat) : Int)) - 12) (List.drop 12 t6))) ≤ maxN then
                                                                        ret (decide (ByteArray.toList (((strOf (List.take (1 - 0) (List.drop 0 t32.1))) ++ (strOf (List.take (10 - 2) (List.drop 2 t32.1)))) ++ (strOf (List.take ((Int.toNat ((List.length t32.1 : Nat) : Int)) - 12) (List.drop 12 t32.1)))) = ByteArray.toList (((strOf (List.take (1 - 0) (List.drop 0 t6))) ++ (strOf (List.take (10 - 2) (List.drop 2 t6)))) ++ (strOf (List.take ((Int.toNat ((List.length t6 : Nat) : Int)) - 12) (List.drop 12 t6))))))
                                                                      else none
                                                                    else none
                                                                  else none
                                                                else none
                                                              else none
                                                            else none
                                                          else none
                                                        else none
                                                      else none
                                                    else none
                                                  else none
                                                else none
                                          else
                                            ret false))
                                else
                                  ret false
                              else
                                ret false
                          else
                            ret false
                      else
                        ret false
                    else
                      ret false
                  else
                    ret false))))) (fun t33 => (f58 k xs1).bind fun t34 => (f31 k t34).bind (Sum.elim (fun t35 => (f29 k t34).bind (Sum.elim (fun t36 => if (decide (t3 ≠ (0 : Int))) = false then
                    if (decide (ByteArray.toList ByteArray.empty ≠ ByteArray.toList (strOf t4.1))) = false then
                      if (decide (t33.2.2.2.2.2.2.2.2.2.2 ≠ (0 : Int))) = false then
                        (f19 k t33.1 t33.2.1 t33.2.2.1 t33.2.2.2.1 t33.2.2.2.2.1 t33.2.2.2.2.2.1 t33.2.2.2.2.2.2.1 t33.2.2.2.2.2.2.2.1 t33.2.2.2.2.2.2.2.2.1 t33.2.2.2.2.2.2.2.2.2.1 t2.1 t2.2.1 t2.2.2.1 t2.2.2.2.1 t2.2.2.2.2.1 t2.2.2.2.2.2.1 t2.2.2.2.2.2.2.1 t2.2.2.2.2.2.2.2.1 t2.2.2.2.2.2.2.2.2.1 t2.2.2.2.2.2.2.2.2.2).bind fun t37 => if (!t37) = false then
                            (f20 k t2.1 t2.2.1 t2.2.2.1 t2.2.2.2.1 t2.2.2.2.2.1 t2.2.2.2.2.2.1 t2.2.2.2.2.2.2.1 t2.2.2.2.2.2.2.2.1 t2.2.2.2.2.2.2.2.2.1 t2.2.2.2.2.2.2.2.2.2).bind fun t38 => if (!t38) = false then
                                if (decide (t35.2.2.2.2.2.2.2.2.2 ≠ t36.2.2.2.2.2.2.2.2.2)) = false then
                                  (f19 k t35.1 t35.2.1 t35.2.2.1 t35.2.2.2.1 t35.2.2.2.2.1 t35.2.2.2.2.2.1 t35.2.2.2.2.2.2.1 t35.2.2.2.2.2.2.2.1 t35.2.2.2.2.2.2.2.2.1 ([] : List Int) t36.1 t36.2.1 t36.2.2.1 t36.2.2.2.1 t36.2.2.2.2.1 t36.2.2.2.2.2.1 t36.2.2.2.2.2.2.1 t36.2.2.2.2.2.2.2.1 t36.2.2.2.2.2.2.2.2.1 ([] : List Int)).bind fun t39 => if (!t39) = true then
                                      ret false
                                    else
                                      if (decide (t35.2.2.2.2.2.2.2.2.2 ≠ (0 : Int))) = true then
                                        ret true
                                      else
                                        (f56 k t35.1 t35.2.1 t35.2.2.1 t35.2.2.2.1 t35.2.2.2.2.1 t35.2.2.2.2.2.1 t35.2.2.2.2.2.2.1 t35.2.2.2.2.2.2.2.1 t35.2.2.2.2.2.2.2.2.1 ([] : List Int)).bind (Sum.elim (fun t40 => if (decide (t40 ≠ (0 : Int))) = false then
                                            if (decide ((0 : Int) ≠ (((List.length t34) : Nat) : Int))) = true then
                                              ret false
                                            else
                                              if (decide (t35.1 = (6 : Int))) = true then
                                                none
                                              else
                                                none
                                          else
                                            ret false) (fun t41 => if (decide (t41.2 ≠ (0 : Int))) = false then
                                            if (decide ((((List.length t41.1) : Nat) : Int) ≠ (((List.length t34) : Nat) : Int))) = true then
                                              ret false
                                            else
                                              if (decide (t35.1 = (6 : Int))) = true then
                                                if (6 : Int) ≤ ((List.length t41.1 : Nat) : Int) then
                                                  if ((List.length t41.1 : Nat) : Int) ≤ ((List.length t41.1 : Nat) : Int) then
                                                    if (6 : Int) ≤ ((List.length t34 : Nat) : Int) then
                                                      if ((List.length t34 : Nat) : Int) ≤ ((List.length t34 : Nat) : Int) then
                                                        ret (decide (ByteArray.toList (strOf (List.take ((Int.toNat ((List.length t41.1 : Nat) : Int)) - 6) (List.drop 6 t41.1))) = ByteArray.toList (strOf (List.take ((Int.toNat ((List.length t34 : Nat) : Int)) - 6) (List.drop 6 t34)))))
                                                      else none
                                                    else none
                                                  else none
                                                else none
                                              else
                                                if (1 : Int) ≤ ((List.length t41.1 : Nat) : Int) then
                                                  if (10 : Int) ≤ ((List.length t41.1 : Nat) : Int) then
                                                    if ByteArray.size (strOf (List.take (1 - 0) (List.drop 0 t41.1))) + ByteArray.size (strOf (List.take (10 - 2) (List.drop 2 t41.1))) ≤ maxN then
                                                      if (12 : Int) ≤ ((List.length t41.1 : Nat) : Int) then
                                                        if ((List.length t41.1 : Nat) : Int) ≤ ((List.length t41.1 : Nat) : Int) then
                                                          if ByteArray.size ((strOf (List.take (1 - 0) (List.drop 0 t41.1))) ++ (strOf (List.take (10 - 2) (List.drop 2 t41.1)))) + ByteArray.size (strOf (List.take ((Int.toNat ((List.length t41.1 : Nat) : Int)) - 12) (List.drop 12 t41.1))) ≤ maxN then
                                                            if (1 : Int) ≤ ((List.length t34 : Nat) : Int) then
                                                              if (10 : Int) ≤ ((List.length t34 : Nat) : Int) then
                                                                if ByteArray.size (strOf (List.take (1 - 0) (List.drop 0 t34))) + ByteArray.size (strOf (List.take (10 - 2) (List.drop 2 t34))) ≤ maxN then
                                                                  if (12 : Int) ≤ ((List.length t34 : Nat) : Int) then
                                                                    if ((List.length t34 : Nat) : Int) ≤ ((List.length t34 : Nat) : Int) then
                                                                      if ByteArray.size ((strOf (List.take (1 - 0) (List.drop 0 t34))) ++ (strOf (List.take (10 - 2) (List.drop 2 t34)))) + ByteArray.size (strOf (List.take ((Int.toNat ((List.length t34 : Nat) : Int)) - 12) (List.drop 12 t34))) ≤ maxN then
                                                                        ret (decide (ByteArray.toList (((strOf (List.take (1 - 0) (List.drop 0 t41.1))) ++ (strOf (List.take (10 - 2) (List.drop 2 t41.1)))) ++ (strOf (List.take ((Int.toNat ((List.length t41.1 : Nat) : Int)) - 12) (List.drop 12 t41.1)))) = ByteArray.toList (((strOf (List.take (1 - 0) (List.drop 0 t34))) ++ (strOf (List.take (10 - 2) (List.drop 2 t34)))) ++ (strOf (List.take ((Int.toNat ((List.length t34 : Nat) : Int)) - 12) (List.drop 12 t34))))))
                                                                      else none
                                                                    else none
                                                                  else none
                                                                else none
                                                              else none
                                                            else none
                                                          else none
                                                        else none
                                                      else none
                                                    else none
                                                  else none
                                                else none
                                          else
                                            ret false))
                                else
                                  ret false
                              else
                                ret false
                          else
                            ret false
                      else
                        ret false
                    else
                      ret false
                  else
                    ret false) (fun t42 => if (decide (t3 ≠ (0 : Int))) = false then
                    if (decide (ByteArray.toList ByteArray.empty ≠ ByteArray.toList (strOf t4.1))) = false then
                      if (decide (t33.2.2.2.2.2.2.2.2.2.2 ≠ (0 : Int))) = false then
                        (f19 k t33.1 t33.2.1 t33.2.2.1 t33.2.2.2.1 t33.2.2.2.2.1 t33.2.2.2.2.2.1 t33.2.2.2.2.2.2.1 t33.2.2.2.2.2.2.2.1 t33.2.2.2.2.2.2.2.2.1 t33.2.2.2.2.2.2.2.2.2.1 t2.1 t2.2.1 t2.2.2.1 t2.2.2.2.1 t2.2.2.2.2.1 t2.2.2.2.2.2.1 t2.2.2.2.2.2.2.1 t2.2.2.2.2.2.2.2.1 t2.2.2.2.2.2.2.2.2.1 t2.2.2.2.2.2.2.2.2.2).bind fun t43 => if (!t43) = false then
                            (f20 k t2.1 t2.2.1 t2.2.2.1 t2.2.2.2.1 t2.2.2.2.2.1 t2.2.2.2.2.2.1 t2.2.2.2.2.2.2.1 t2.2.2.2.2.2.2.2.1 t2.2.2.2.2.2.2.2.2.1 t2.2.2.2.2.2.2.2.2.2).bind fun t44 => if (!t44) = false then
                                if (decide (t35.2.2.2.2.2.2.2.2.2 ≠ t42.2.2.2.2.2.2.2.2.2.2)) = false then
                                  (f19 k t35.1 t35.2.1 t35.2.2.1 t35.2.2.2.1 t35.2.2.2.2.1 t35.2.2.2.2.2.1 t35.2.2.2.2.2.2.1 t35.2.2.2.2.2.2.2.1 t35.2.2.2.2.2.2.2.2.1 ([] : List Int) t42.1 t42.2.1 t42.2.2.1 t42.2.2.2.1 t42.2.2.2.2.1 t42.2.2.2.2.2.1 t42.2.2.2.2.2.2.1 t42.2.2.2.2.2.2.2.1 t42.2.2.2.2.2.2.2.2.1 t42.2.2.2.2.2.2.2.2.2.1).bind fun t45 => if (!t45) = true then
                                      ret false
                                    else
                                      if (decide (t35.2.2.2.2.2.2.2.2.2 ≠ (0 : Int))) = true then
                                        ret true
                                      else
                                        (f56 k t35.1 t35.2.1 t35.2.2.1 t35.2.2.2.1 t35.2.2.2.2.1 t35.2.2.2.2.2.1 t35.2.2.2.2.2.2.1 t35.2.2.2.2.2.2.2.1 t35.2.2.2.2.2.2.2.2.1 ([] : List Int)).bind (Sum.elim (fun t46 => if (decide (t46 ≠ (0 : Int))) = false then
                                            if (decide ((0 : Int) ≠ (((List.length t34) : Nat) : Int))) = true then
                                              ret false
                                            else
                                              if (decide (t35.1 = (6 : Int))) = true then
                                                none
                                              else
                                                none
                                          else
                                            ret false) (fun t47 => if (decide (t47.2 ≠ (0 : Int))) = false then
                                            if (decide ((((List.length t47.1) : Nat) : Int) ≠ (((List.length t34) : Nat) : Int))) = true then
                                              ret false
                                            else
                                              if (decide (t35.1 = (6 : Int))) = true then
                                                if (6 : Int) ≤ ((List.length t47.1 : Nat) : Int) then
                                                  if ((List.length t47.1 : Nat) : Int) ≤ ((List.length t47.1 : Nat) : Int) then
                                                    if (6 : Int) ≤ ((List.length t34 : Nat) : Int) then
                                                      if ((List.length t34 : Nat) : Int) ≤ ((List.length t34 : Nat) : Int) then
                                                        ret (decide (ByteArray.toList (strOf (List.take ((Int.toNat ((List.length t47.1 : Nat) : Int)) - 6) (List.drop 6 t47.1))) = ByteArray.toList (strOf (List.take ((Int.toNat ((List.length t34 : Nat) : Int)) - 6) (List.drop 6 t34)))))
                                                      else none
                                                    else none
                                                  else none
                                                else none
                                              else
                                                if (1 : Int) ≤ ((List.length t47.1 : Nat) : Int) then
                                                  if (10 : Int) ≤ ((List.length t47.1 : Nat) : Int) then
                                                    if ByteArray.size (strOf (List.take (1 - 0) (List.drop 0 t47.1))) + ByteArray.size (strOf (List.take (10 - 2) (List.drop 2 t47.1))) ≤ maxN then
                                                      if (12 : Int) ≤ ((List.length t47.1 : Nat) : Int) then
                                                        if ((List.length t47.1 : Nat) : Int) ≤ ((List.length t47.1 : Nat) : Int) then
                                                          if ByteArray.size ((strOf (List.take (1 - 0) (List.drop 0 t47.1))) ++ (strOf (List.take (10 - 2) (List.drop 2 t47.1)))) + ByteArray.size (strOf (List.take ((Int.toNat ((List.length t47.1 : Nat) : Int)) - 12) (List.drop 12 t47.1))) ≤ maxN then
                                                            if (1 : Int) ≤ ((List.length t34 : Nat) : Int) then
                                                              if (10 : Int) ≤ ((List.length t34 : Nat) : Int) then
                                                                if ByteArray.size (strOf (List.take (1 - 0) (List.drop 0 t34))) + ByteArray.size (strOf (List.take (10 - 2) (List.drop 2 t34))) ≤ maxN then
                                                                  if (12 : Int) ≤ ((List.length t34 : Nat) : Int) then
                                                                    if ((List.length t34 : Nat) : Int) ≤ ((List.length t34 : Nat) : Int) then
                                                                      if ByteArray.size ((strOf (List.take (1 - 0) (List.drop 0 t34))) ++ (strOf (List.take (10 - 2) (List.drop 2 t34)))) + ByteArray.size (strOf (List.take ((Int.toNat ((List.length t34 : Nat) : Int)) - 12) (List.drop 12 t34))) ≤ maxN then
                                                                        ret (decide (ByteArray.toList (((strOf (List.take (1 - 0) (List.drop 0 t47.1))) ++ (strOf (List.take (10 - 2) (List.drop 2 t47.1)))) ++ (strOf (List.take ((Int.toNat ((List.length t47.1 : Nat) : Int)) - 12) (List.drop 12 t47.1)))) = ByteArray.toList (((strOf (List.take (1 - 0) (List.drop 0 t34))) ++ (strOf (List.take (10 - 2) (List.drop 2 t34)))) ++ (strOf (List.take ((Int.toNat ((List.length t34 : Nat) : Int)) - 12) (List.drop 12 t34))))))
                                                                      else none
                                                                    else none
                                                                  else none
                                                                else none
                                                              else none
                                                            else none
                                                          else none
                                                        else none
                                                      else none
                                                    else none
                                                  else none
                                                else none
                                          else
                                            ret false))
                                else
                                  ret false
                              else
                                ret false
                          else
                            ret false
                      else
                        ret false
                    else
                      ret false
                  else
                    ret false))) (fun t48 => (f29 k t34).bind (Sum.elim (fun t49 => if (decide (t3 ≠ (0 : Int))) = false then
                    if (decide (ByteArray.toList ByteArray.empty ≠ ByteArray.toList (strOf t4.1))) = false then
                      if (decide (t33.2.2.2.2.2.2.2.2.2.2 ≠ (0 : Int))) = false then
                        (f19 k t33.1 t33.2.1 t33.2.2.1 t33.2.2.2.1 t33.2.2.2.2.1 t33.2.2.2.2.2.1 t33.2.2.2.2.2.2.1 t33.2.2.2.2.2.2.2.1 t33.2.2.2.2.2.2.2.2.1 t33.2.2.2.2.2.2.2.2.2.1 t2.1 t2.2.1 t2.2.2.1 t2.2.2.2.1 t2.2.2.2.2.1 t2.2.2.2.2.2.1 t2.2.2.2.2.2.2.1 t2.2.2.2.2.2.2.2.1 t2.2.2.2.2.2.2.2.2.1 t2.2.2.2.2.2.2.2.2.2).bind fun t50 => if (!t50) = false then
                            (f20 k t2.1 t2.2.1 t2.2.2.1 t2.2.2.2.1 t2.2.2.2.2.1 t2.2.2.2.2.2.1 t2.2.2.2.2.2.2.1 t2.2.2.2.2.2.2.2.1 t2.2.2.2.2.2.2.2.2.1 t2.2.2.2.2.2.2.2.2.2).bind fun t51 => if (!t51) = false then
                                if (decide (t48.2.2.2.2.2.2.2.2.2.2 ≠ t49.2.2.2.2.2.2.2.2.2)) = false then
                                  (f19 k t48.1 t48.2.1 t48.2.2.1 t48.2.2.2.1 t48.2.2.2.2.1 t48.2.2.2.2.2.1 t48.2.2.2.2.2.2.1 t48.2.2.2.2.2.2.2.1 t48.2.2.2.2.2.2.2.2.1 t48.2.2.2.2.2.2.2.2.2.1 t49.1 t49.2.1 t49.2.2.1 t49.2.2.2.1 t49.2.2.2.2.1 t49.2.2.2.2.2.1 t49.2.2.2.2.2.2.1 t49.2.2.2.2.2.2.2.1 t49.2.2.2.2.2.2.2.2.1 ([] : List Int)).bind fun t52 => if (!t52) = true then
                                      ret false
                                    else
                                      if (decide (t48.2.2.2.2.2.2.2.2.2.2 ≠ (0 : Int))) = true then
                                        ret true
                                      else
                                        (f56 k t48.1 t48.2.1 t48.2.2.1 t48.2.2.2.1 t48.2.2.2.2.1 t48.2.2.2.2.2.1 t48.2.2.2.2.2.2.1 t48.2.2.2.2.2.2.2.1 t48.2.2.2.2.2.2.2.2.1 t48.2.2.2.2.2.2.2.2.2.1).bind (Sum.elim (fun t53 => if (decide (t53 ≠ (0 : Int))) = false then
                                            if (decide ((0 : Int) ≠ (((List.length t34) : Nat) : Int))) = true then
                                              ret false
                                            else
                                              if (decide (t48.1 = (6 : Int))) = true then
                                                none
                                              else
                                                none
                                          else
                                            ret false) (fun t54 => if (decide (t54.2 ≠ (0 : Int))) = false then
                                            if (decide ((((List.length t54.1) : Nat) : Int) ≠ (((List.length t34) : Nat) : Int))) = true then
                                              ret false
                                            else
                                              if (decide (t48.1 = (6 : Int))) = true then
                                                if (6 : Int) ≤ ((List.length t54.1 : Nat) : Int) then
                                                  if ((List.length t54.1 : Nat) : Int) ≤ ((List.length t54.1 : Nat) : Int) then
                                                    if (6 : Int) ≤ ((List.length t34 : Nat) : Int) then
                                                      if ((List.length t34 : Nat) : Int) ≤ ((List.length t34 : Nat) : Int) then
                                                        ret (decide (ByteArray.toList (strOf (List.take ((Int.toNat ((List.length t54.1 : Nat) : Int)) - 6) (List.drop 6 t54.1))) = ByteArray.toList (strOf (List.take ((Int.toNat ((List.length t34 : Nat) : Int)) - 6) (List.drop 6 t34)))))
                                                      else none
                                                    else none
                                                  else none
                                                else none
                                              else
                                                if (1 : Int) ≤ ((List.length t54.1 : Nat) : Int) then
                                                  if (10 : Int) ≤ ((List.length t54.1 : Nat) : Int) then
                                                    if ByteArray.size (strOf (List.take (1 - 0) (List.drop 0 t54.1))) + ByteArray.size (strOf (List.take (10 - 2) (List.drop 2 t54.1))) ≤ maxN then
                                                      if (12 : Int) ≤ ((List.length t54.1 : Nat) : Int) then
                                                        if ((List.length t54.1 : Nat) : Int) ≤ ((List.length t54.1 : Nat) : Int) then
                                                          if ByteArray.size ((strOf (List.take (1 - 0) (List.drop 0 t54.1))) ++ (strOf (List.take (10 - 2) (List.drop 2 t54.1)))) + ByteArray.size (strOf (List.take ((Int.toNat ((List.length t54.1 : Nat) : Int)) - 12) (List.drop 12 t54.1))) ≤ maxN then
                                                            if (1 : Int) ≤ ((List.length t34 : Nat) : Int) then
                                                              if (10 : Int) ≤ ((List.length t34 : Nat) : Int) then
                                                                if ByteArray.size (strOf (List.take (1 - 0) (List.drop 0 t34))) + ByteArray.size (strOf (List.take (10 - 2) (List.drop 2 t34))) ≤ maxN then
                                                                  if (12 : Int) ≤ ((List.length t34 : Nat) : Int) then
                                                                    if ((List.length t34 : Nat) : Int) ≤ ((List.length t34 : Nat) : Int) then
                                                                      if ByteArray.size ((strOf (List.take (1 - 0) (List.drop 0 t34))) ++ (strOf (List.take (10 - 2) (List.drop 2 t34)))) + ByteArray.size (strOf (List.take ((Int.toNat ((List.length t34 : Nat) : Int)) - 12) (List.drop 12 t34))) ≤ maxN then
                                                                        ret (decide (ByteArray.toList (((strOf (List.take (1 - 0) (List.drop 0 t54.1))) ++ (strOf (List.take (10 - 2) (List.drop 2 t54.1)))) ++ (strOf (List.take ((Int.toNat ((List.length t54.1 : Nat) : Int)) - 12) (List.drop 12 t54.1)))) = ByteArray.toList (((strOf (List.take (1 - 0) (List.drop 0 t34))) ++ (strOf (List.take (10 - 2) (List.drop 2 t34)))) ++ (strOf (List.take ((Int.toNat ((List.length t34 : Nat) : Int)) - 12) (List.drop 12 t34))))))
                                                                      else none
                                                                    else none
                                                                  else none
                                                                else none
                                                              else none
                                                            else none
                                                          else none
                                                        else none
                                                      else none
                                                    else none
                                                  else none
                                                else none
                                          else
                                            ret false))
                                else
                                  ret false
                              else
                                ret false
                          else
                            ret false
                      else
                        ret false
                    else
                      ret false
                  else
                    ret false) (fun t55 => if (decide (t3 ≠ (0 : Int))) = false then
                    if (decide (ByteArray.toList ByteArray.empty ≠ ByteArray.toList (strOf t4.1))) = false then
                      if (decide (t33.2.2.2.2.2.2.2.2.2.2 ≠ (0 : Int))) = false then
                        (f19 k t33.1 t33.2.1 t33.2.2.1 t33.2.2.2.1 t33.2.2.2.2.1 t33.2.2.2.2.2.1 t33.2.2.2.2.2.2.1 t33.2.2.2.2.2.2.2.1 t33.2.2.2.2.2.2.2.2.1 t33.2.2.2.2.2.2.2.2.2.1 t2.1 t2.2.1 t2.2.2.1 t2.2.2.2.1 t2.2.2.2.2.1 t2.2.2.2.2.2.1 t2.2.2.2.2.2.2.1 t2.2.2.2.2.2.2.2.1 t2.2.2.2.2.2.2.2.2.1 t2.2.2.2.2.2.2.2.2.2).bind fun t56 => if (!t56) = false then
                            (f20 k t2.1 t2.2.1 t2.2.2.1 t2.2.2.2.1 t2.2.2.2.2.1 t2.2.2.2.2.2.1 t2.2.2.2.2.2.2.1 t2.2.2.2.2.2.2.2.1 t2.2.2.2.2.2.2.2.2.1 t2.2.2.2.2.2.2.2.2.2).bind fun t57 => if (!t57) = false then
                                if (decide (t48.2.2.2.2.2.2.2.2.2.2 ≠ t55.2.2.2.2.2.2.2.2.2.2)) = false then
                                  (f19 k t48.1 t48.2.1 t48.2.2.1 t48.2.2.2.1 t48.2.2.2.2.1 t48.2.2.2.2.2.1 t48.2.2.2.2.2.2.1 t48.2.2.2.2.2.2.2.1 t48.2.2.2.2.2.2.2.2.1 t48.2.2.2.2.2.2.2.2.2.1 t55.1 t55.2.1 t55.2.2.1 t55.2.2.2.1 t55.2.2.2.2.1 t55.2.2.2.2.2.1 t55.2.2.2.2.2.2.1 t55.2.2.2.2.2.2.2.1 t55.2.2.2.2.2.2.2.2.1 t55.2.2.2.2.2.2.2.2.2.1).bind fun t58 => if (!t58) = true then
                                      ret false
                                    else
                                      if (decide (t48.2.2.2.2.2.2.2.2.2.2 ≠ (0 : Int))) = true then
                                        ret true
                                      else
                                        (f56 k t48.1 t48.2.1 t48.2.2.1 t48.2.2.2.1 t48.2.2.2.2.1 t48.2.2.2.2.2.1 t48.2.2.2.2.2.2.1 t48.2.2.2.2.2.2.2.1 t48.2.2.2.2.2.2.2.2.1 t48.2.2.2.2.2.2.2.2.2.1).bind (Sum.elim (fun t59 => if (decide (t59 ≠ (0 : Int))) = false then
                                            if (decide ((0 : Int) ≠ (((List.length t34) : Nat) : Int))) = true then
                                              ret false
                                            else
                                              if (decide (t48.1 = (6 : Int))) = true then
                                                none
                                              else
                                                none
                                          else
                                            ret false) (fun t60 => if (decide (t60.2 ≠ (0 : Int))) = false then
                                            if (decide ((((List.length t60.1) : Nat) : Int) ≠ (((List.length t34) : Nat) : Int))) = true then
                                              ret false
                                            else
                                              if (decide (t48.1 = (6 : Int))) = true then
                                                if (6 : Int) ≤ ((List.length t60.1 : Nat) : Int) then
                                                  if ((List.length t60.1 : Nat) : Int) ≤ ((List.length t60.1 : Nat) : Int) then
                                                    if (6 : Int) ≤ ((List.length t34 : Nat) : Int) then
                                                      if ((List.length t34 : Nat) : Int) ≤ ((List.length t34 : Nat) : Int) then
                                                        ret (decide (ByteArray.toList (strOf (List.take ((Int.toNat ((List.length t60.1 : Nat) : Int)) - 6) (List.drop 6 t60.1))) = ByteArray.toList (strOf (List.take ((Int.toNat ((List.length t34 : Nat) : Int)) - 6) (List.drop 6 t34)))))
                                                      else none
                                                    else none
                                                  else none
                                                else none
                                              else
                                                if (1 : Int) ≤ ((List.length t60.1 : Nat) : Int) then
                                                  if (10 : Int) ≤ ((List.length t60.1 : Nat) : Int) then
                                                    if ByteArray.size (strOf (List.take (1 - 0) (List.drop 0 t60.1))) + ByteArray.size (strOf (List.take (10 - 2) (List.drop 2 t60.1))) ≤ maxN then
                                                      if (12 : Int) ≤ ((List.length t60.1 : Nat) : Int) then
                                                        if ((List.length t60.1 : Nat) : Int) ≤ ((List.length t60.1 : Nat) : Int) then
                                                          if ByteArray.size ((strOf (List.take (1 - 0) (List.drop 0 t60.1))) ++ (strOf (List.take (10 - 2) (List.drop 2 t60.1)))) + ByteArray.size (strOf (List.take ((Int.toNat ((List.length t60.1 : Nat) : Int)) - 12) (List.drop 12 t60.1))) ≤ maxN then
                                                            if (1 : Int) ≤ ((List.length t34 : Nat) : Int) then
                                                              if (10 : Int) ≤ ((List.length t34 : Nat) : Int) then
                                                                if ByteArray.size (strOf (List.take (1 - 0) (List.drop 0 t34))) + ByteArray.size (strOf (List.take (10 - 2) (List.drop 2 t34))) ≤ maxN then
                                                                  if (12 : Int) ≤ ((List.length t34 : Nat) : Int) then
                                                                    if ((List.length t34 : Nat) : Int) ≤ ((List.length t34 : Nat) : Int) then
                                                                      if ByteArray.size ((strOf (List.take (1 - 0) (List.drop 0 t34))) ++ (strOf (List.take (10 - 2) (List.drop 2 t34)))) + ByteArray.size (strOf (List.take ((Int.toNat ((List.length t34 : Nat) : Int)) - 12) (List.drop 12 t34))) ≤ maxN then
                                                                        ret (decide (ByteArray.toList (((strOf (List.take (1 - 0) (List.drop 0 t60.1))) ++ (strOf (List.take (10 - 2) (List.drop 2 t60.1)))) ++ (strOf (List.take ((Int.toNat ((List.length t60.1 : Nat) : Int)) - 12) (List.drop 12 t60.1)))) = ByteArray.toList (((strOf (List.take (1 - 0) (List.drop 0 t34))) ++ (strOf (List.take (10 - 2) (List.drop 2 t34)))) ++ (strOf (List.take ((Int.toNat ((List.length t34 : Nat) : Int)) - 12) (List.drop 12 t34))))))
                                                                      else none
                                                                    else none
                                                                  else none
                                                                else none
                                                              else none
                                                            else none
                                                          else none
                                                        else none
                                                      else none
                                                    else none
                                                  else none
                                                else none
                                          else
                                            ret false))
                                else
                                  ret false
                              else
                                ret false
                          else
                            ret false
                      else
                        ret false
                    else
                      ret false
                  else
                    ret false))))))) (fun t61 => (f57 k t2.1 t2.2.1 t2.2.2.1 t2.2.2.2.1 t2.2.2.2.2.1 t2.2.2.2.2.2.1 t2.2.2.2.2.2.2.1 t2.2.2.2.2.2.2.2.1 t2.2.2.2.2.2.2.2.2.1 t2.2.2.2.2.2.2.2.2.2).bind fun t62 => (f31 k t61.1).bind (Sum.elim (fun t63 => (f58 k xs1).bind fun t64 => (f31 k t64).bind (Sum.elim (fun t65 => (f29 k t64).bind (Sum.elim (fun t66 => if (decide (t61.2 ≠ (0 : Int))) = false then
                    if (decide (ByteArray.toList (strOf t61.1) ≠ ByteArray.toList (strOf t62.1))) = false then
                      if (decide (t63.2.2.2.2.2.2.2.2.2 ≠ (0 : Int))) = false then
                        (f19 k t63.1 t63.2.1 t63.2.2.1 t63.2.2.2.1 t63.2.2.2.2.1 t63.2.2.2.2.2.1 t63.2.2.2.2.2.2.1 t63.2.2.2.2.2.2.2.1 t63.2.2.2.2.2.2.2.2.1 ([] : List Int) t2.1 t2.2.1 t2.2.2.1 t2.2.2.2.1 t2.2.2.2.2.1 t2.2.2.2.2.2.1 t2.2.2.2.2.2.2.1 t2.2.2.2.2.2.2.2.1 t2.2.2.2.2.2.2.2.2.1 t2.2.2.2.2.2.2.2.2.2).bind fun t67 => if (!t67) = false then
                            (f20 k t2.1 t2.2.1 t2.2.2.1 t2.2.2.2.1 t2.2.2.2.2.1 t2.2.2.2.2.2.1 t2.2.2.2.2.2.2.1 t2.2.2.2.2.2.2.2.1 t2.2.2.2.2.2.2.2.2.1 t2.2.2.2.2.2.2.2.2.2).bind fun t68 => if (!t68) = false then
                                if (decide (t65.2.2.2.2.2.2.2.2.2 ≠ t66.2.2.2.2.2.2.2.2.2)) = false then
                                  (f19 k t65.1 t65.2.1 t65.2.2.1 t65.2.2.2.1 t65.2.2.2.2.1 t65.2.2.2.2.2.1 t65.2.2.2.2.2.2.1 t65.2.2.2.2.2.2.2.1 t65.2.2.2.2.2.2.2.2.1 ([] : List Int) t66.1 t66.2.1 t66.2.2.1 t66.2.2.2.1 t66.2.2.2.2.1 t66.2.2.2.2.2.1 t66.2.2.2.2.2.2.1 t66.2.2.2.2.2.2.2.1 t66.2.2.2.2.2.2.2.2.1 ([] : List Int)).bind fun t69 => if (!t69) = true then
                                      ret false
                                    else
                                      if (decide (t65.2.2.2.2.2.2.2.2.2 ≠ (0 : Int))) = true then
                                        ret true
                                      else
                                        (f56 k t65.1 t65.2.1 t65.2.2.1 t65.2.2.2.1 t65.2.2.2.2.1 t65.2.2.2.2.2.1 t65.2.2.2.2.2.2.1 t65.2.2.2.2.2.2.2.1 t65.2.2.2.2.2.2.2.2.1 ([] : List Int)).bind (Sum.elim (fun t70 => if (decide (t70 ≠ (0 : Int))) = false then
                                            if (decide ((0 : Int) ≠ (((List.length t64) : Nat) : Int))) = true then
                                              ret false
                                            else
                                              if (decide (t65.1 = (6 : Int))) = true then
                                                none
                                              else
                                                none
                                          else
                                            ret false) (fun t71 => if (decide (t71.2 ≠ (0 : Int))) = false then
                                            if (decide ((((List.length t71.1) : Nat) : Int) ≠ (((List.length t64) : Nat) : Int))) = true then
                                              ret false
                                            else
                                              if (decide (t65.1 = (6 : Int))) = true then
                                                if (6 : Int) ≤ ((List.length t71.1 : Nat) : Int) then
                                                  if ((List.length t71.1 : Nat) : Int) ≤ ((List.length t71.1 : Nat) : Int) then
                                                    if (6 : Int) ≤ ((List.length t64 : Nat) : Int) then
                                                      if ((List.length t64 : Nat) : Int) ≤ ((List.length t64 : Nat) : Int) then
                                                        ret (decide (ByteArray.toList (strOf (List.take ((Int.toNat ((List.length t71.1 : Nat) : Int)) - 6) (List.drop 6 t71.1))) = ByteArray.toList (strOf (List.take ((Int.toNat ((List.length t64 : Nat) : Int)) - 6) (List.drop 6 t64)))))
                                                      else none
                                                    else none
                                                  else none
                                                else none
                                              else
                                                if (1 : Int) ≤ ((List.length t71.1 : Nat) : Int) then
                                                  if (10 : Int) ≤ ((List.length t71.1 : Nat) : Int) then
                                                    if ByteArray.size (strOf (List.take (1 - 0) (List.drop 0 t71.1))) + ByteArray.size (strOf (List.take (10 - 2) (List.drop 2 t71.1))) ≤ maxN then
                                                      if (12 : Int) ≤ ((List.length t71.1 : Nat) : Int) then
                                                        if ((List.length t71.1 : Nat) : Int) ≤ ((List.length t71.1 : Nat) : Int) then
                                                          if ByteArray.size ((strOf (List.take (1 - 0) (List.drop 0 t71.1))) ++ (strOf (List.take (10 - 2) (List.drop 2 t71.1)))) + ByteArray.size (strOf (List.take ((Int.toNat ((List.length t71.1 : Nat) : Int)) - 12) (List.drop 12 t71.1))) ≤ maxN then
                                                            if (1 : Int) ≤ ((List.length t64 : Nat) : Int) then
                                                              if (10 : Int) ≤ ((List.length t64 : Nat) : Int) then
                                                                if ByteArray.size (strOf (List.take (1 - 0) (List.drop 0 t64))) + ByteArray.size (strOf (List.take (10 - 2) (List.drop 2 t64))) ≤ maxN then
                                                                  if (12 : Int) ≤ ((List.length t64 : Nat) : Int) then
                                                                    if ((List.length t64 : Nat) : Int) ≤ ((List.length t64 : Nat) : Int) then
                                                                      if ByteArray.size ((strOf (List.take (1 - 0) (List.drop 0 t64))) ++ (strOf (List.take (10 - 2) (List.drop 2 t64)))) + ByteArray.size (strOf (List.take ((Int.toNat ((List.length t64 : Nat) : Int)) - 12) (List.drop 12 t64))) ≤ maxN then
                                                                        ret (decide (ByteArray.toList (((strOf (List.take (1 - 0) (List.drop 0 t71.1))) ++ (strOf (List.take (10 - 2) (List.drop 2 t71.1)))) ++ (strOf (List.take ((Int.toNat ((List.length t71.1 : Nat) : Int)) - 12) (List.drop 12 t71.1)))) = ByteArray.toList (((strOf (List.take (1 - 0) (List.drop 0 t64))) ++ (strOf (List.take (10 - 2) (List.drop 2 t64)))) ++ (strOf (List.take ((Int.toNat ((List.length t64 : Nat) : Int)) - 12) (List.drop 12 t64))))))
                                                                      else none
                                                                    else none
                                                                  else none
                                                                else none
                                                              else none
                                                            else none
                                                          else none
                                                        else none
                                                      else none
                                                    else none
                                                  else none
                                                else none
                                          else
                                            ret false))
                                else
                                  ret false
                              else
                                ret false
                          else
                            ret false
                      else
                        ret false
                    else
                      ret false
                  else
                    ret false) (fun t72 => if (decide (t61.2 ≠ (0 : Int))) = false then
                    if (decide (ByteArray.toList (strOf t61.1) ≠ ByteArray.toList (strOf t62.1))) = false then
                      if (decide (t63.2.2.2.2.2.2.2.2.2 ≠ (0 : Int))) = false then
                        (f19 k t63.1 t63.2.1 t63.2.2.1 t63.2.2.2.1 t63.2.2.2.2.1 t63.2.2.2.2.2.1 t63.2.2.2.2.2.2.1 t63.2.2.2.2.2.2.2.1 t63.2.2.2.2.2.2.2.2.1 ([] : List Int) t2.1 t2.2.1 t2.2.2.1 t2.2.2.2.1 t2.2.2.2.2.1 t2.2.2.2.2.2.1 t2.2.2.2.2.2.2.1 t2.2.2.2.2.2.2.2.1 t2.2.2.2.2.2.2.2.2.1 t2.2.2.2.2.2.2.2.2.2).bind fun t73 => if (!t73) = false then
                            (f20 k t2.1 t2.2.1 t2.2.2.1 t2.2.2.2.1 t2.2.2.2.2.1 t2.2.2.2.2.2.1 t2.2.2.2.2.2.2.1 t2.2.2.2.2.2.2.2.1 t2.2.2.2.2.2.2.2.2.1 t2.2.2.2.2.2.2.2.2.2).bind fun t74 => if (!t74) = false then
                                if (decide (t65.2.2.2.2.2.2.2.2.2 ≠ t72.2.2.2.2.2.2.2.2.2.2)) = false then
                                  (f19 k t65.1 t65.2.1 t65.2.2.1 t65.2.2.2.1 t65.2.2.2.2.1 t65.2.2.2.2.2.1 t65.2.2.2.2.2.2.1 t65.2.2.2.2.2.2.2.1 t65.2.2.2.2.2.2.2.2.1 ([] : List Int) t72.1 t72.2.1 t72.2.2.1 t72.2.2.2.1 t72.2.2.2.2.1 t72.2.2.2.2.2.1 t72.2.2.2.2.2.2.1 t72.2.2.2.2.2.2.2.1 t72.2.2.2.2.2.2.2.2.1 t72.2.2.2.2.2.2.2.2.2.1).bind fun t75 => if (!t75) = true then
                                      ret false
                                    else
                                      if (decide (t65.2.2.2.2.2.2.2.2.2 ≠ (0 : Int))) = true then
                                        ret true
                                      else
                                        (f56 k t65.1 t65.2.1 t65.2.2.1 t65.2.2.2.1 t65.2.2.2.2.1 t65.2.2.2.2.2.1 t65.2.2.2.2.2.2.1 t65.2.2.2.2.2.2.2.1 t65.2.2.2.2.2.2.2.2.1 ([] : List Int)).bind (Sum.elim (fun t76 => if (decide (t76 ≠ (0 : Int))) = false then
                                            if (decide ((0 : Int) ≠ (((List.length t64) : Nat) : Int))) = true then
                                              ret false
                                            else
                                              if (decide (t65.1 = (6 : Int))) = true then
                                                none
                                              else
                                                none
                                          else
                                            ret false) (fun t77 => if (decide (t77.2 ≠ (0 : Int))) = false then
                                            if (decide ((((List.length t77.1) : Nat) : Int) ≠ (((List.length t64) : Nat) : Int))) = true then
                                              ret false
                                            else
                                              if (decide (t65.1 = (6 : Int))) = true then
                                                if (6 : Int) ≤ ((List.length t77.1 : Nat) : Int) then
                                                  if ((List.length t77.1 : Nat) : Int) ≤ ((List.length t77.1 : Nat) : Int) then
                                                    if (6 : Int) ≤ ((List.length t64 : Nat) : Int) then
                                                      if ((List.length t64 : Nat) : Int) ≤ ((List.length t64 : Nat) : Int) then
                                                        ret (decide (ByteArray.toList (strOf (List.take ((Int.toNat ((List.length t77.1 : Nat) : Int)) - 6) (List.drop 6 t77.1))) = ByteArray.toList (strOf (List.take ((Int.toNat ((List.length t64 : Nat) : Int)) - 6) (List.drop 6 t64)))))
                                                      else none
                                                    else none
                                                  else none
                                                else none
                                              else
                                                if (1 : Int) ≤ ((List.length t77.1 : Nat) : Int) then
                                                  if (10 : Int) ≤ ((List.length t77.1 : Nat) : Int) then
                                                    if ByteArray.size (strOf (List.take (1 - 0) (List.drop 0 t77.1))) + ByteArray.size (strOf (List.take (10 - 2) (List.drop 2 t77.1))) ≤ maxN then
                                                      if (12 : Int) ≤ ((List.length t77.1 : Nat) : Int) then
                                                        if ((List.length t77.1 : Nat) : Int) ≤ ((List.length t77.1 : Nat) : Int) then
                                                          if ByteArray.size ((strOf (List.take (1 - 0) (List.drop 0 t77.1))) ++ (strOf (List.take (10 - 2) (List.drop 2 t77.1)))) + ByteArray.size (strOf (List.take ((Int.toNat ((List.length t77.1 : Nat) : Int)) - 12) (List.drop 12 t77.1))) ≤ maxN then
                                                            if (1 : Int) ≤ ((List.length t64 : Nat) : Int) then
                                                              if (10 : Int) ≤ ((List.length t64 : Nat) : Int) then
                                                                if ByteArray.size (strOf (List.take (1 - 0) (List.drop 0 t64))) + ByteArray.size (strOf (List.take (10 - 2) (List.drop 2 t64))) ≤ maxN then
                                                                  if (12 : Int) ≤ ((List.length t64 : Nat) : Int) then
                                                                    if ((List.length t64 : Nat) : Int) ≤ ((List.length t64 : Nat) : Int) then
                                                                      if ByteArray.size ((strOf (List.take (1 - 0) (List.drop 0 t64))) ++ (strOf (List.take (10 - 2) (List.drop 2 t64)))) + ByteArray.size (strOf (List.take ((Int.toNat ((List.length t64 : Nat) : Int)) - 12) (List.drop 12 t64))) ≤ maxN then
                                                                        ret (decide (ByteArray.toList (((strOf (List.take (1 - 0) (List.drop 0 t77.1))) ++ (strOf (List.take (10 - 2) (List.drop 2 t77.1)))) ++ (strOf (List.take ((Int.toNat ((List.length t77.1 : Nat) : Int)) - 12) (List.drop 12 t77.1)))) = ByteArray.toList (((strOf (List.take (1 - 0) (List.drop 0 t64))) ++ (strOf (List.take (10 - 2) (List.drop 2 t64)))) ++ (strOf (List.take ((Int.toNat ((List.length t64 : Nat) : Int)) - 12) (List.drop 12 t64))))))
                                                                      else none
                                                                    else none
                                                                  else none
                                                                else none
                                                              else none
                                                            else none
                                                          else none
                                                        else none
                                                      else none
                                                    else none
                                                  else none
                                                else none
                                          else
                                            ret false))
                                else
                                  ret false
                              else
                                ret false
                          else
                            ret false
                      else
                        ret false
                    else
                      ret false
                  else
                    ret false))) (fun t78 => (f29 k t64).bind (Sum.elim (fun t79 => if (decide (t61.2 ≠ (0 : Int))) = false then
                    if (decide (ByteArray.toList (strOf t61.1) ≠ ByteArray.toList (strOf t62.1))) = false then
                      if (decide (t63.2.2.2.2.2.2.2.2.2 ≠ (0 : Int))) = false then
                        (f19 k t63.1 t63.2.1 t63.2.2.1 t63.2.2.2.1 t63.2.2.2.2.1 t63.2.2.2.2.2.1 t63.2.2.2.2.2.2.1 t63.2.2.2.2.2.2.2.1 t63.2.2.2.2.2.2.2.2.1 ([] : List Int) t2.1 t2.2.1 t2.2.2.1 t2.2.2.2.1 t2.2.2.2.2.1 t2.2.2.2.2.2.1 t2.2.2.2.2.2.2.1 t2.2.2.2.2.2.2.2.1 t2.2.2.2.2.2.2.2.2.1 t2.2.2.2.2.2.2.2.2.2).bind fun t80 => if (!t80) = false then
                            (f20 k t2.1 t2.2.1 t2.2.2.1 t2.2.2.2.1 t2.2.2.2.2.1 t2.2.2.2.2.2.1 t2.2.2.2.2.2.2.1 t2.2.2.2.2.2.2.2.1 t2.2.2.2.2.2.2.2.2.1 t2.2.2.2.2.2.2.2.2.2).bind fun t81 => if (!t81) = false then
                                if (decide (t78.2.2.2.2.2.2.2.2.2.2 ≠ t79.2.2.2.2.2.2.2.2.2)) = false then
                                  (f19 k t78.1 t78.2.1 t78.2.2.1 t78.2.2.2.1 t78.2.2.2.2.1 t78.2.2.2.2.2.1 t78.2.2.2.2.2.2.1 t78.2.2.2.2.2.2.2.1 t78.2.2.2.2.2.2.2.2.1 t78.2.2.2.2.2.2.2.2.2.1 t79.1 t79.2.1 t79.2.2.1 t79.2.2.2.1 t79.2.2.2.2.1 t79.2.2.2.2.2.1 t79.2.2.2.2.2.2.1 t79.2.2.2.2.2.2.2.1 t79.2.2.2.2.2.2.2.2.1 ([] : List Int)).bind fun t82 => if (!t82) = true then
                                      ret false
                                    else
                                      if (decide (t78.2.2.2.2.2.2.2.2.2.2 ≠ (0 : Int))) = true then
                                        ret true
                                      else
                                        (f56 k t78.1 t78.2.1 t78.2.2.1 t78.2.2.2.1 t78.2.2.2.2.1 t78.2.2.2.2.2.1 t78.2.2.2.2.2.2.1 t78.2.2.2.2.2.2.2.1 t78.2.2.2.2.2.2.2.2.1 t78.2.2.2.2.2.2.2.2.2.1).bind (Sum.elim (fun t83 => if (decide (t83 ≠ (0 : Int))) = false then
                                            if (decide ((0 : Int) ≠ (((List.length t64) : Nat) : Int))) = true then
                                              ret false
                                            else
                                              if (decide (t78.1 = (6 : Int))) = true then
                                                none
                                              else
                                                none
                                          else
                                            ret false) (fun t84 => if (decide (t84.2 ≠ (0 : Int))) = false then
                                            if (decide ((((List.length t84.1) : Nat) : Int) ≠ (((List.length t64) : Nat) : Int))) = true then
                                              ret false
                                            else
                                              if (decide (t78.1 = (6 : Int))) = true then
                                                if (6 : Int) ≤ ((List.length t84.1 : Nat) : Int) then
                                                  if ((List.length t84.1 : Nat) : Int) ≤ ((List.length t84.1 : Nat) : Int) then
                                                    if (6 : Int) ≤ ((List.length t64 : Nat) : Int) then
                                                      if ((List.length t64 : Nat) : Int) ≤ ((List.length t64 : Nat) : Int) then
                                                        ret (decide (ByteArray.toList (strOf (List.take ((Int.toNat ((List.length t84.1 : Nat) : Int)) - 6) (List.drop 6 t84.1))) = ByteArray.toList (strOf (List.take ((Int.toNat ((List.length t64 : Nat) : Int)) - 6) (List.drop 6 t64)))))
                                                      else none
                                                    else none
                                                  else none
                                                else none
                                              else
                                                if (1 : Int) ≤ ((List.length t84.1 : Nat) : Int) then
                                                  if (10 : Int) ≤ ((List.length t84.1 : Nat) : Int) then
                                                    if ByteArray.size (strOf (List.take (1 - 0) (List.drop 0 t84.1))) + ByteArray.size (strOf (List.take (10 - 2) (List.drop 2 t84.1))) ≤ maxN then
                                                      if (12 : Int) ≤ ((List.length t84.1 : Nat) : Int) then
                                                        if ((List.length t84.1 : Nat) : Int) ≤ ((List.length t84.1 : Nat) : Int) then
                                                          if ByteArray.size ((strOf (List.take (1 - 0) (List.drop 0 t84.1))) ++ (strOf (List.take (10 - 2) (List.drop 2 t84.1)))) + ByteArray.size (strOf (List.take ((Int.toNat ((List.length t84.1 : Nat) : Int)) - 12) (List.drop 12 t84.1))) ≤ maxN then
                                                            if (1 : Int) ≤ ((List.length t64 : Nat) : Int) then
                                                              if (10 : Int) ≤ ((List.length t64 : Nat) : Int) then
                                                                if ByteArray.size (strOf (List.take (1 - 0) (List.drop 0 t64))) + ByteArray.size (strOf (List.take (10 - 2) (List.drop 2 t64))) ≤ maxN then
                                                                  if (12 : Int) ≤ ((List.length t64 : Nat) : Int) then
                                                                    if ((List.length t64 : Nat) : Int) ≤ ((List.length t64 : Nat) : Int) then
                                                                      if ByteArray.size ((strOf (List.take (1 - 0) (List.drop 0 t64))) ++ (strOf (List.take (10 - 2) (List.drop 2 t64)))) + ByteArray.size (strOf (List.take ((Int.toNat ((List.length t64 : Nat) : Int)) - 12) (List.drop 12 t64))) ≤ maxN then
                                                                        ret (decide (ByteArray.toList (((strOf (List.take (1 - 0) (List.drop 0 t84.1))) ++ (strOf (List.take (10 - 2) (List.drop 2 t84.1)))) ++ (strOf (List.take ((Int.toNat ((List.length t84.1 : Nat) : Int)) - 12) (List.drop 12 t84.1)))) = ByteArray.toList (((strOf (List.take (1 - 0) (List.drop 0 t64))) ++ (strOf (List.take (10 - 2) (List.drop 2 t64)))) ++ (strOf (List.take ((Int.toNat ((List.length t64 : Nat) : Int)) - 12) (List.drop 12 t64))))))
                                                                      else none
                                                                    else none
                                                                  else none
                                                                else none
                                                              else none
                                                            else none
                                                          else none
                                                        else none
                                                      else none
                                                    else none
                                                  else none
                                                else none
                                          else
                                            ret false))
                                else
                                  ret false
                              else
                                ret false
                          else
                            ret false
                      else
                        ret false
                    else
                      ret false
                  else
                    ret false) (fun t85 => if (decide (t61.2 ≠ (0 : Int))) = false then
                    if (decide (ByteArray.toList (strOf t61.1) ≠ ByteArray.toList (strOf t62.1))) = false then
                      if (decide (t63.2.2.2.2.2.2.2.2.2 ≠ (0 : Int))) = false then
                        (f19 k t63.1 t63.2.1 t63.2.2.1 t63.2.2.2.1 t63.2.2.2.2.1 t63.2.2.2.2.2.1 t63.2.2.2.2.2.2.1 t63.2.2.2.2.2.2.2.1 t63.2.2.2.2.2.2.2.2.1 ([] : List Int) t2.1 t2.2.1 t2.2.2.1 t2.2.2.2.1 t2.2.2.2.2.1 t2.2.2.2.2.2.1 t2.2.2.2.2.2.2.1 t2.2.2.2.2.2.2.2.1 t2.2.2.2.2.2.2.2.2.1 t2.2.2.2.2.2.2.2.2.2).bind fun t86 => if (!t86) = false then
                            (f20 k t2.1 t2.2.1 t2.2.2.1 t2.2.2.2.1 t2.2.2.2.2.1 t2.2.2.2.2.2.1 t2.2.2.2.2.2.2.1 t2.2.2.2.2.2.2.2.1 t2.2.2.2.2.2.2.2.2.1 t2.2.2.2.2.2.2.2.2.2).bind fun t87 => if (!t87) = false then
                                if (decide (t78.2.2.2.2.2.2.2.2.2.2 ≠ t85.2.2.2.2.2.2.2.2.2.2)) = false then
                                  (f19 k t78.1 t78.2.1 t78.2.2.1 t78.2.2.2.1 t78.2.2.2.2.1 t78.2.2.2.2.2.1 t78.2.2.2.2.2.2.1 t78.2.2.2.2.2.2.2.1 t78.2.2.2.2.2.2.2.2.1 t78.2.2.2.2.2.2.2.2.2.1 t85.1 t85.2.1 t85.2.2.1 t85.2.2.2.1 t85.2.2.2.2.1 t85.2.2.2.2.2.1 t85.2.2.2.2.2.2.1 t85.2.2.2.2.2.2.2.1 t85.2.2.2.2.2.2.2.2.1 t85.2.2.2.2.2.2.2.2.2.1).bind fun t88 => if (!t88) = true then
                                      ret false
                                    else
                                      if (decide (t78.2.2.2.2.2.2.2.2.2.2 ≠ (0 : Int))) = true then
                                        ret true
                                      else
                                        (f56 k t78.1 t78.2.1 t78.2.2.1 t78.2.2.2.1 t78.2.2.2.2.1 t78.2.2.2.2.2.1 t78.2.2.2.2.2.2.1 t78.2.2.2.2.2.2.2.1 t78.2.2.2.2.2.2.2.2.1 t78.2.2.2.2.2.2.2.2.2.1).bind (Sum.elim (fun t89 => if (decide (t89 ≠ (0 : Int))) = false then
                                            if (decide ((0 : Int) ≠ (((List.length t64) : Nat) : Int))) = true then
                                              ret false
                                            else
                                              if (decide (t78.1 = (6 : Int))) = true then
                                                none
                                              else
                                                none
                                          else
                                            ret false) (fun t90 => if (decide (t90.2 ≠ (0 : Int))) = false then
                                            if (decide ((((List.length t90.1) : Nat) : Int) ≠ (((List.length t64) : Nat) : Int))) = true then
                                              ret false
                                            else
                                              if (decide (t78.1 = (6 : Int))) = true then
                                                if (6 : Int) ≤ ((List.length t90.1 : Nat) : Int) then
                                                  if ((List.length t90.1 : Nat) : Int) ≤ ((List.length t90.1 : Nat) : Int) then
                                                    if (6 : Int) ≤ ((List.length t64 : Nat) : Int) then
                                                      if ((List.length t64 : Nat) : Int) ≤ ((List.length t64 : Nat) : Int) then
                                                        ret (decide (ByteArray.toList (strOf (List.take ((Int.toNat ((List.length t90.1 : Nat) : Int)) - 6) (List.drop 6 t90.1))) = ByteArray.toList (strOf (List.take ((Int.toNat ((List.length t64 : Nat) : Int)) - 6) (List.drop 6 t64)))))
                                                      else none
                                                    else none
                                                  else none
                                                else none
                                              else
                                                if (1 : Int) ≤ ((List.length t90.1 : Nat) : Int) then
                                                  if (10 : Int) ≤ ((List.length t90.1 : Nat) : Int) then
                                                    if ByteArray.size (strOf (List.take (1 - 0) (List.drop 0 t90.1))) + ByteArray.size (strOf (List.take (10 - 2) (List.drop 2 t90.1))) ≤ maxN then
                                                      if (12 : Int) ≤ ((List.length t90.1 : Nat) : Int) then
                                                        if ((List.length t90.1 : Nat) : Int) ≤ ((List.length t90.1 : Nat) : Int) then
                                                          if ByteArray.size ((strOf (List.take (1 - 0) (List.drop 0 t90.1))) ++ (strOf (List.take (10 - 2) (List.drop 2 t90.1)))) + ByteArray.size (strOf (List.take ((Int.toNat ((List.length t90.1 : Nat) : Int)) - 12) (List.drop 12 t90.1))) ≤ maxN then
                                                            if (1 : Int) ≤ ((List.length t64 : Nat) : Int) then
                                                              if (10 : Int) ≤ ((List.length t64 : Nat) : Int) then
                                                                if ByteArray.size (strOf (List.take (1 - 0) (List.drop 0 t64))) + ByteArray.size (strOf (List.take (10 - 2) (List.drop 2 t64))) ≤ maxN then
                                                                  if (12 : Int) ≤ ((List.length t64 : Nat) : Int) then
                                                                    if ((List.length t64 : Nat) : Int) ≤ ((List.length t64 : Nat) : Int) then
                                                                      if ByteArray.size ((strOf (List.take (1 - 0) (List.drop 0 t64))) ++ (strOf (List.take (10 - 2) (List.drop 2 t64)))) + ByteArray.size (strOf (List.take ((Int.toNat ((List.length t64 : Nat) : Int)) - 12) (List.drop 12 t64))) ≤ maxN then
                                                                        ret (decide (ByteArray.toList (((strOf (List.take (1 - 0) (List.drop 0 t90.1))) ++ (strOf (List.take (10 - 2) (List.drop 2 t90.1)))) ++ (strOf (List.take ((Int.toNat ((List.length t90.1 : Nat) : Int)) - 12) (List.drop 12 t90.1)))) = ByteArray.toList (((strOf (List.take (1 - 0) (List.drop 0 t64))) ++ (strOf (List.take (10 - 2) (List.drop 2 t64)))) ++ (strOf (List.take ((Int.toNat ((List.length t64 : Nat) : Int)) - 12) (List.drop 12 t64))))))
                                                                      else none
                                                                    else none
                                                                  else none
                                                                else none
                                                              else none
                                                            else none
                                                          else none
                                                        else none
                                                      else none
                                                    else none
                                                  else none
                                                else none
                                          else
                                            ret false))
                                else
                                  ret false
                              else
                                ret false
                          else
                            ret false
                      else
                        ret false
                    else
                      ret false
                  else
                    ret false))))) (fun t91 => (f58 k xs1).bind fun t92 => (f31 k t92).bind (Sum.elim (fun t93 => (f29 k t92).bind (Sum.elim (fun t94 => if (decide (t61.2 ≠ (0 : Int))) = false then
                    if (decide (ByteArray.toList (strOf t61.1) ≠ ByteArray.toList (strOf t62.1))) = false then
                      if (decide (t91.2.2.2.2.2.2.2.2.2.2 ≠ (0 : Int))) = false then
                        (f19 k t91.1 t91.2.1 t91.2.2.1 t91.2.2.2.1 t91.2.2.2.2.1 t91.2.2.2.2.2.1 t91.2.2.2.2.2.2.1 t91.2.2.2.2.2.2.2.1 t91.2.2.2.2.2.2.2.2.1 t91.2.2.2.2.2.2.2.2.2.1 t2.1 t2.2.1 t2.2.2.1 t2.2.2.2.1 t2.2.2.2.2.1 t2.2.2.2.2.2.1 t2.2.2.2.2.2.2.1 t2.2.2.2.2.2.2.2.1 t2.2.2.2.2.2.2.2.2.1 t2.2.2.2.2.2.2.2.2.2).bind fun t95 => if (!t95) = false then
                            (f20 k t2.1 t2.2.1 t2.2.2.1 t2.2.2.2.1 t2.2.2.2.2.1 t2.2.2.2.2.2.1 t2.2.2.2.2.2.2.1 t2.2.2.2.2.2.2.2.1 t2.2.2.2.2.2.2.2.2.1 t2.2.2.2.2.2.2.2.2.2).bind fun t96 => if (!t96) = false then
                                if (decide (t93.2.2.2.2.2.2.2.2.2 ≠ t94.2.2.2.2.2.2.2.2.2)) = false then
                                  (f19 k t93.1 t93.2.1 t93.2.2.1 t93.2.2.2.1 t93.2.2.2.2.1 t93.2.2.2.2.2.1 t93.2.2.2.2.2.2.1 t93.2.2.2.2.2.2.2.1 t93.2.2.2.2.2.2.2.2.1 ([] : List Int) t94.1 t94.2.1 t94.2.2.1 t94.2.2.2.1 t94.2.2.2.2.1 t94.2.2.2.2.2.1 t94.2.2.2.2.2.2.1 t94.2.2.2.2.2.2.2.1 t94.2.2.2.2.2.2.2.2.1 ([] : List Int)).bind fun t97 => if (!t97) = true then
                                      ret false
                                    else
                                      if (decide (t93.2.2.2.2.2.2.2.2.2 ≠ (0 : Int))) = true then
                                        ret true
                                      else
                                        (f56 k t93.1 t93.2.1 t93.2.2.1 t93.2.2.2.1 t93.2.2.2.2.1 t93.2.2.2.2.2.1 t93.2.2.2.2.2.2.1 t93.2.2.2.2.2.2.2.1 t93.2.2.2.2.2.2.2.2.1 ([] : List Int)).bind (Sum.elim (fun t98 => if (decide (t98 ≠ (0 : Int))) = false then
                                            if (decide ((0 : Int) ≠ (((List.length t92) : Nat) : Int))) = true then
                                              ret false
                                            else
                                              if (decide (t93.1 = (6 : Int))) = true then
                                                none
                                              else
                                                none
                                          else
                                            ret false) (fun t99 => if (decide (t99.2 ≠ (0 : Int))) = false then
                                            if (decide ((((List.length t99.1) : Nat) : Int) ≠ (((List.length t92) : Nat) : Int))) = true then
                                              ret false
                                            else
                                              if (decide (t93.1 = (6 : Int))) = true then
                                                if (6 : Int) ≤ ((List.length t99.1 : Nat) : Int) then
                                                  if ((List.length t99.1 : Nat) : Int) ≤ ((List.length t99.1 : Nat) : Int) then
                                                    if (6 : Int) ≤ ((List.length t92 : Nat) : Int) then
                                                      if ((List.length t92 : Nat) : Int) ≤ ((List.length t92 : Nat) : Int) then
                                                        ret (decide (ByteArray.toList (strOf (List.take ((Int.toNat ((List.length t99.1 : Nat) : Int)) - 6) (List.drop 6 t99.1))) = ByteArray.toList (strOf (List.take ((Int.toNat ((List.length t92 : Nat) : Int)) - 6) (List.drop 6 t92)))))
                                                      else none
                                                    else none
                                                  else none
                                                else none
                                              else
                                                if (1 : Int) ≤ ((List.length t99.1 : Nat) : Int) then
                                                  if (10 : Int) ≤ ((List.length t99.1 : Nat) : Int) then
                                                    if ByteArray.size (strOf (List.take (1 - 0) (List.drop 0 t99.1))) + ByteArray.size (strOf (List.take (10 - 2) (List.drop 2 t99.1))) ≤ maxN then
                                                      if (12 : Int) ≤ ((List.length t99.1 : Nat) : Int) then
                                                        if ((List.length t99.1 : Nat) : Int) ≤ ((List.length t99.1 : Nat) : Int) then
                                                          if ByteArray.size ((strOf (List.take (1 - 0) (List.drop 0 t99.1))) ++ (strOf (List.take (10 - 2) (List.drop 2 t99.1)))) + ByteArray.size (strOf (List.take ((Int.toNat ((List.length t99.1 : Nat) : Int)) - 12) (List.drop 12 t99.1))) ≤ maxN then
                                                            if (1 : Int) ≤ ((List.length t92 : Nat) : Int) then
                                                              if (10 : Int) ≤ ((List.length t92 : Nat) : Int) then
                                                                if ByteArray.size (strOf (List.take (1 - 0) (List.drop 0 t92))) + ByteArray.size (strOf (List.take (10 - 2) (List.drop 2 t92))) ≤ maxN then
                                                                  if (12 : Int) ≤ ((List.length t92 : Nat) : Int) then
                                                                    if ((List.length t92 : Nat) : Int) ≤ ((List.length t92 : Nat) : Int) then
                                                                      if ByteArray.size ((strOf (List.take (1 - 0) (List.drop 0 t92))) ++ (strOf (List.take (10 - 2) (List.drop 2 t92)))) + ByteArray.size (strOf (List.take ((Int.toNat ((List.length t92 : Nat) : Int)) - 12) (List.drop 12 t92))) ≤ maxN then
                                                                        ret (decide (ByteArray.toList (((strOf (List.take (1 - 0) (List.drop 0 t99.1))) ++ (strOf (List.take (10 - 2) (List.drop 2 t99.1)))) ++ (strOf (List.take ((Int.toNat ((List.length t99.1 : Nat) : Int)) - 12) (List.drop 12 t99.1)))) = ByteArray.toList (((strOf (List.take (1 - 0) (List.drop 0 t92))) ++ (strOf (List.take (10 - 2) (List.drop 2 t92)))) ++ (strOf (List.take ((Int.toNat ((List.length t92 : Nat) : Int)) - 12) (List.drop 12 t92))))))
                                                                      else none
                                                                    else none
                                                                  else none
                                                                else none
                                                              else none
                                                            else none
                                                          else none
                                                        else none
                                                      else none
                                                    else none
                                                  else none
                                                else none
                                          else
                                            ret false))
                                else
                                  ret false
                              else
                                ret false
                          else
                            ret false
                      else
                        ret false
                    else
                      ret false
                  else
                    ret false) (fun t100 => if (decide (t61.2 ≠ (0 : Int))) = false then
                    if (decide (ByteArray.toList (strOf t61.1) ≠ ByteArray.toList (strOf t62.1))) = false then
                      if (decide (t91.2.2.2.2.2.2.2.2.2.2 ≠ (0 : Int))) = false then
                        (f19 k t91.1 t91.2.1 t91.2.2.1 t91.2.2.2.1 t91.2.2.2.2.1 t91.2.2.2.2.2.1 t91.2.2.2.2.2.2.1 t91.2.2.2.2.2.2.2.1 t91.2.2.2.2.2.2.2.2.1 t91.2.2.2.2.2.2.2.2.2.1 t2.1 t2.2.1 t2.2.2.1 t2.2.2.2.1 t2.2.2.2.2.1 t2.2.2.2.2.2.1 t2.2.2.2.2.2.2.1 t2.2.2.2.2.2.2.2.1 t2.2.2.2.2.2.2.2.2.1 t2.2.2.2.2.2.2.2.2.2).bind fun t101 => if (!t101) = false then
                            (f20 k t2.1 t2.2.1 t2.2.2.1 t2.2.2.2.1 t2.2.2.2.2.1 t2.2.2.2.2.2.1 t2.2.2.2.2.2.2.1 t2.2.2.2.2.2.2.2.1 t2.2.2.2.2.2.2.2.2.1 t2.2.2.2.2.2.2.2.2.2).bind fun t102 => if (!t102) = false then
                                if (decide (t93.2.2.2.2.2.2.2.2.2 ≠ t100.2.2.2.2.2.2.2.2.2.2)) = false then
                                  (f19 k t93.1 t93.2.1 t93.2.2.1 t93.2.2.2.1 t93.2.2.2.2.1 t93.2.2.2.2.2.1 t93.2.2.2.2.2.2.1 t93.2.2.2.2.2.2.2.1 t93.2.2.2.2.2.2.2.2.1 ([] : List Int) t100.1 t100.2.1 t100.2.2.1 t100.2.2.2.1 t100.2.2.2.2.1 t100.2.2.2.2.2.1 t100.2.2.2.2.2.2.1 t100.2.2.2.2.2.2.2.1 t100.2.2.2.2.2.2.2.2.1 t100.2.2.2.2.2.2.2.2.2.1).bind fun t103 => if (!t103) = true then
                                      ret false
                                    else
                                      if (decide (t93.2.2.2.2.2.2.2.2.2 ≠ (0 : Int))) = true then
                                        ret true
                                      else
                                        (f56 k t93.1 t93.2.1 t93.2.2.1 t93.2.2.2.1 t93.2.2.2.2.1 t93.2.2.2.2.2.1 t93.2.2.2.2.2.2.1 t93.2.2.2.2.2.2.2.1 t93.2.2.2.2.2.2.2.2.1 ([] : List Int)).bind (Sum.elim (fun t104 => if (decide (t104 ≠ (0 : Int))) = false then
                                            if (decide ((0 : Int) ≠ (((List.length t92) : Nat) : Int))) = true then
                                              ret false
                                            else
                                              if (decide (t93.1 = (6 : Int))) = true then
                                                none
                                              else
                                                none
                                          else
                                            ret false) (fun t105 => if (decide (t105.2 ≠ (0 : Int))) = false then
                                            if (decide ((((List.length t105.1) : Nat) : Int) ≠ (((List.length t92) : Nat) : Int))) = true then
                                              ret false
                                            else
                                              if (decide (t93.1 = (6 : Int))) = true then
                                                if (6 : Int) ≤ ((List.length t105.1 : Nat) : Int) then
                                                  if ((List.length t105.1 : Nat) : Int) ≤ ((List.length t105.1 : Nat) : Int) then
                                                    if (6 : Int) ≤ ((List.length t92 : Nat) : Int) then
                                                      if ((List.length t92 : Nat) : Int) ≤ ((List.length t92 : Nat) : Int) then
                                                        ret (decide (ByteArray.toList (strOf (List.take ((Int.toNat ((List.length t105.1 : Nat) : Int)) - 6) (List.drop 6 t105.1))) = ByteArray.toList (strOf (List.take ((Int.toNat ((List.length t92 : Nat) : Int)) - 6) (List.drop 6 t92)))))
                                                      else none
                                                    else none
                                                  else none
                                                else none
                                              else
                                                if (1 : Int) ≤ ((List.length t105.1 : Nat) : Int) then
                                                  if (10 : Int) ≤ ((List.length t105.1 : Nat) : Int) then
                                                    if ByteArray.size (strOf (List.take (1 - 0) (List.drop 0 t105.1))) + ByteArray.size (strOf (List.take (10 - 2) (List.drop 2 t105.1))) ≤ maxN then
                                                      if (12 : Int) ≤ ((List.length t105.1 : Nat) : Int) then
                                                        if ((List.length t105.1 : Nat) : Int) ≤ ((List.length t105.1 : Nat) : Int) then
                                                          if ByteArray.size ((strOf (List.take (1 - 0) (List.drop 0 t105.1))) ++ (strOf (List.take (10 - 2) (List.drop 2 t105.1)))) + ByteArray.size (strOf (List.take ((Int.toNat ((List.length t105.1 : Nat) : Int)) - 12) (List.drop 12 t105.1))) ≤ maxN then
                                                            if (1 : Int) ≤ ((List.length t92 : Nat) : Int) then
                                                              if (10 : Int) ≤ ((List.length t92 : Nat) : Int) then
                                                                if ByteArray.size (strOf (List.take (1 - 0) (List.drop 0 t92))) + ByteArray.size (strOf (List.take (10 - 2) (List.drop 2 t92))) ≤ maxN then
                                                                  if (12 : Int) ≤ ((List.length t92 : Nat) : Int) then
                                                                    if ((List.length t92 : Nat) : Int) ≤ ((List.length t92 : Nat) : Int) then
                                                                      if ByteArray.size ((strOf (List.take (1 - 0) (List.drop 0 t92))) ++ (strOf (List.take (10 - 2) (List.drop 2 t92)))) + ByteArray.size (strOf (List.take ((Int.toNat ((List.length t92 : Nat) : Int)) - 12) (List.drop 12 t92))) ≤ maxN then
                                                                        ret (decide (ByteArray.toList (((strOf (List.take (1 - 0) (List.drop 0 t105.1))) ++ (strOf (List.take (10 - 2) (List.drop 2 t105.1)))) ++ (strOf (List.take ((Int.toNat ((List.length t105.1 : Nat) : Int)) - 12) (List.drop 12 t105.1)))) = ByteArray.toList (((strOf (List.take (1 - 0) (List.drop 0 t92))) ++ (strOf (List.take (10 - 2) (List.drop 2 t92)))) ++ (strOf (List.take ((Int.toNat ((List.length t92 : Nat) : Int)) - 12) (List.drop 12 t92))))))
                                                                      else none
                                                                    else none
                                                                  else none
                                                                else none
                                                              else none
                                                            else none
                                                          else none
                                                        else none
                                                      else none
                                                    else none
                                                  else none
                                                else none
                                          else
                                            ret false))
                                else
                                  ret false
                              else
                                ret false
                          else
                            ret false
                      else
                        ret false
                    else
                      ret false
                  else
                    ret false))) (fun t106 => (f29 k t92).bind (Sum.elim (fun t107 => if (decide (t61.2 ≠ (0 : Int))) = false then
                    if (decide (ByteArray.toList (strOf t61.1) ≠ ByteArray.toList (strOf t62.1))) = false then
                      if (decide (t91.2.2.2.2.2.2.2.2.2.2 ≠ (0 : Int))) = false then
                        (f19 k t91.1 t91.2.1 t91.2.2.1 t91.2.2.2.1 t91.2.2.2.2.1 t91.2.2.2.2.2.1 t91.2.2.2.2.2.2.1 t91.2.2.2.2.2.2.2.1 t91.2.2.2.2.2.2.2.2.1 t91.2.2.2.2.2.2.2.2.2.1 t2.1 t2.2.1 t2.2.2.1 t2.2.2.2.1 t2.2.2.2.2.1 t2.2.2.2.2.2.1 t2.2.2.2.2.2.2.1 t2.2.2.2.2.2.2.2.1 t2.2.2.2.2.2.2.2.2.1 t2.2.2.2.2.2.2.2.2.2).bind fun t108 => if (!t108) = false then
                            (f20 k t2.1 t2.2.1 t2.2.2.1 t2.2.2.2.1 t2.2.2.2.2.1 t2.2.2.2.2.2.1 t2.2.2.2.2.2.2.1 t2.2.2.2.2.2.2.2.1 t2.2.2.2.2.2.2.2.2.1 t2.2.2.2.2.2.2.2.2.2).bind fun t109 => if (!t109) = false then
                                if (decide (t106.2.2.2.2.2.2.2.2.2.2 ≠ t107.2.2.2.2.2.2.2.2.2)) = false then
                                  (f19 k t106.1 t106.2.1 t106.2.2.1 t106.2.2.2.1 t106.2.2.2.2.1 t106.2.2.2.2.2.1 t106.2.2.2.2.2.2.1 t106.2.2.2.2.2.2.2.1 t106.2.2.2.2.2.2.2.2.1 t106.2.2.2.2.2.2.2.2.2.1 t107.1 t107.2.1 t107.2.2.1 t107.2.2.2.1 t107.2.2.2.2.1 t107.2.2.2.2.2.1 t107.2.2.2.2.2.2.1 t107.2.2.2.2.2.2.2.1 t107.2.2.2.2.2.2.2.2.1 ([] : List Int)).bind fun t110 => if (!t110) = true then
                                      ret false
                                    else
                                      if (decide (t106.2.2.2.2.2.2.2.2.2.2 ≠ (0 : Int))) = true then
                                        ret true
                                      else
                                        (f56 k t106.1 t106.2.1 t106.2.2.1 t106.2.2.2.1 t106.2.2.2.2.1 t106.2.2.2.2.2.1 t106.2.2.2.2.2.2.1 t106.2.2.2.2.2.2.2.1 t106.2.2.2.2.2.2.2.2.1 t106.2.2.2.2.2.2.2.2.2.1).bind (Sum.elim (fun t111 => if (decide (t111 ≠ (0 : Int))) = false then
                                            if (decide ((0 : Int) ≠ (((List.length t92) : Nat) : Int))) = true then
                                              ret false
                                            else
                                              if (decide (t106.1 = (6 : Int))) = true then
                                                none
                                              else
                                                none
                                          else
                                            ret false) (fun t112 => if (decide (t112.2 ≠ (0 : Int))) = false then
                                            if (decide ((((List.length t112.1) : Nat) : Int) ≠ (((List.length t92) : Nat) : Int))) = true then
                                              ret false
                                            else
                                              if (decide (t106.1 = (6 : Int))) = true then
                                                if (6 : Int) ≤ ((List.length t112.1 : Nat) : Int) then
                                                  if ((List.length t112.1 : Nat) : Int) ≤ ((List.length t112.1 : Nat) : Int) then
                                                    if (6 : Int) ≤ ((List.length t92 : Nat) : Int) then
                                                      if ((List.length t92 : Nat) : Int) ≤ ((List.length t92 : Nat) : Int) then
                                                        ret (decide (ByteArray.toList (strOf (List.take ((Int.toNat ((List.length t112.1 : Nat) : Int)) - 6) (List.drop 6 t112.1))) = ByteArray.toList (strOf (List.take ((Int.toNat ((List.length t92 : Nat) : Int)) - 6) (List.drop 6 t92)))))
                                                      else none
                                                    else none
                                                  else none
                                                else none
                                              else
                                                if (1 : Int) ≤ ((List.length t112.1 : Nat) : Int) then
                                                  if (10 : Int) ≤ ((List.length t112.1 : Nat) : Int) then
                                                    if ByteArray.size (strOf (List.take (1 - 0) (List.drop 0 t112.1))) + ByteArray.size (strOf (List.take (10 - 2) (List.drop 2 t112.1))) ≤ maxN then
                                                      if (12 : Int) ≤ ((List.length t112.1 : Nat) : Int) then
                                                        if ((List.length t112.1 : Nat) : Int) ≤ ((List.length t112.1 : Nat) : Int) then
                                                          if ByteArray.size ((strOf (List.take (1 - 0) (List.drop 0 t112.1))) ++ (strOf (List.take (10 - 2) (List.drop 2 t112.1)))) + ByteArray.size (strOf (List.take ((Int.toNat ((List.length t112.1 : Nat) : Int)) - 12) (List.drop 12 t112.1))) ≤ maxN then
                                                            if (1 : Int) ≤ ((List.length t92 : Nat) : Int) then
                                                              if (10 : Int) ≤ ((List.length t92 : Nat) : Int) then
                                                                if ByteArray.size (strOf (List.take (1 - 0) (List.drop 0 t92))) + ByteArray.size (strOf (List.take (10 - 2) (List.drop 2 t92))) ≤ maxN then
                                                                  if (12 : Int) ≤ ((List.length t92 : Nat) : Int) then
                                                                    if ((List.length t92 : Nat) : Int) ≤ ((List.length t92 : Nat) : Int) then
                                                                      if ByteArray.size ((strOf (List.take (1 - 0) (List.drop 0 t92))) ++ (strOf (List.take (10 - 2) (List.drop 2 t92)))) + ByteArray.size (strOf (List.take ((Int.toNat ((List.length t92 : Nat) : Int)) - 12) (List.drop 12 t92))) ≤ maxN then
                                                                        ret (decide (ByteArray.toList (((strOf (List.take (1 - 0) (List.drop 0 t112.1))) ++ (strOf (List.take (10 - 2) (List.drop 2 t112.1)))) ++ (strOf (List.take ((Int.toNat ((List.length t112.1 : Nat) : Int)) - 12) (List.drop 12 t112.1)))) = ByteArray.toList (((strOf (List.take (1 - 0) (List.drop 0 t92))) ++ (strOf (List.take (10 - 2) (List.drop 2 t92)))) ++ (strOf (List.take ((Int.toNat ((List.length t92 : Nat) : Int)) - 12) (List.drop 12 t92))))))
                                                                      else none
                                                                    else none
                                                                  else none
                                                                else none
                                                              else none
                                                            else none
                                                          else none
                                                        else none
                                                      else none
                                                    else none
                                                  else none
                                                else none
                                          else
                                            ret false))
                                else
                                  ret false
                              else
                                ret false
                          else
                            ret false
                      else
                        ret false
                    else
                      ret false
                  else
                    ret false) (fun t113 => if (decide (t61.2 ≠ (0 : Int))) = false then
                    if (decide (ByteArray.toList (strOf t61.1) ≠ ByteArray.toList (strOf t62.1))) = false then
                      if (decide (t91.2.2.2.2.2.2.2.2.2.2 ≠ (0 : Int))) = false then
                        (f19 k t91.1 t91.2.1 t91.2.2.1 t91.2.2.2.1 t91.2.2.2.2.1 t91.2.2.2.2.2.1 t91.2.2.2.2.2.2.1 t91.2.2.2.2.2.2.2.1 t91.2.2.2.2.2.2.2.2.1 t91.2.2.2.2.2.2.2.2.2.1 t2.1 t2.2.1 t2.2.2.1 t2.2.2.2.1 t2.2.2.2.2.1 t2.2.2.2.2.2.1 t2.2.2.2.2.2.2.1 t2.2.2.2.2.2.2.2.1 t2.2.2.2.2.2.2.2.2.1 t2.2.2.2.2.2.2.2.2.2).bind fun t114 => if (!t114) = false then
                            (f20 k t2.1 t2.2.1 t2.2.2.1 t2.2.2.2.1 t2.2.2.2.2.1 t2.2.2.2.2.2.1 t2.2.2.2.2.2.2.1 t2.2.2.2.2.2.2.2.1 t2.2.2.2.2.2.2.2.2.1 t2.2.2.2.2.2.2.2.2.2).bind fun t115 => if (!t115) = false then
                                if (decide (t106.2.2.2.2.2.2.2.2.2.2 ≠ t113.2.2.2.2.2.2.2.2.2.2)) = false then
                                  (f19 k t106.1 t106.2.1 t106.2.2.1 t106.2.2.2.1 t106.2.2.2.2.1 t106.2.2.2.2.2.1 t106.2.2.2.2.2.2.1 t106.2.2.2.2.2.2.2.1 t106.2.2.2.2.2.2.2.2.1 t106.2.2.2.2.2.2.2.2.2.1 t113.1 t113.2.1 t113.2.2.1 t113.2.2.2.1 t113.2.2.2.2.1 t113.2.2.2.2.2.1 t113.2.2.2.2.2.2.1 t113.2.2.2.2.2.2.2.1 t113.2.2.2.2.2.2.2.2.1 t113.2.2.2.2.2.2.2.2.2.1).bind fun t116 => if (!t116) = true then
                                      ret false
                                    else
                                      if (decide (t106.2.2.2.2.2.2.2.2.2.2 ≠ (0 : Int))) = true then
                                        ret true
                                      else
                                        (f56 k t106.1 t106.2.1 t106.2.2.1 t106.2.2.2.1 t106.2.2.2.2.1 t106.2.2.2.2.2.1 t106.2.2.2.2.2.2.1 t106.2.2.2.2.2.2.2.1 t106.2.2.2.2.2.2.2.2.1 t106.2.2.2.2.2.2.2.2.2.1).bind (Sum.elim (fun t117 => if (decide (t117 ≠ (0 : Int))) = false then
                                            if (decide ((0 : Int) ≠ (((List.length t92) : Nat) : Int))) = true then
                                              ret false
                                            else
                                              if (decide (t106.1 = (6 : Int))) = true then
                                                none
                                              else
                                                none
                                          else
                                            ret false) (fun t118 => if (decide (t118.2 ≠ (0 : Int))) = false then
                                            if (decide ((((List.length t118.1) : Nat) : Int) ≠ (((List.length t92) : Nat) : Int))) = true then
                                              ret false
                                            else
                                              if (decide (t106.1 = (6 : Int))) = true then
                                                if (6 : Int) ≤ ((List.length t118.1 : Nat) : Int) then
                                                  if ((List.length t118.1 : Nat) : Int) ≤ ((List.length t118.1 : Nat) : Int) then
                                                    if (6 : Int) ≤ ((List.length t92 : Nat) : Int) then
                                                      if ((List.length t92 : Nat) : Int) ≤ ((List.length t92 : Nat) : Int) then
                                                        ret (decide (ByteArray.toList (strOf (List.take ((Int.toNat ((List.length t118.1 : Nat) : Int)) - 6) (List.drop 6 t118.1))) = ByteArray.toList (strOf (List.take ((Int.toNat ((List.length t92 : Nat) : Int)) - 6) (List.drop 6 t92)))))
                                                      else none
                                                    else none
                                                  else none
                                                else none
                                              else
                                                if (1 : Int) ≤ ((List.length t118.1 : Nat) : Int) then
                                                  if (10 : Int) ≤ ((List.length t118.1 : Nat) : Int) then
                                                    if ByteArray.size (strOf (List.take (1 - 0) (List.drop 0 t118.1))) + ByteArray.size (strOf (List.take (10 - 2) (List.drop 2 t118.1))) ≤ maxN then
                                                      if (12 : Int) ≤ ((List.length t118.1 : Nat) : Int) then
                                                        if ((List.length t118.1 : Nat) : Int) ≤ ((List.length t118.1 : Nat) : Int) then
                                                          if ByteArray.size ((strOf (List.take (1 - 0) (List.drop 0 t118.1))) ++ (strOf (List.take (10 - 2) (List.drop 2 t118.1)))) + ByteArray.size (strOf (List.take ((Int.toNat ((List.length t118.1 : Nat) : Int)) - 12) (List.drop 12 t118.1))) ≤ maxN then
                                                            if (1 : Int) ≤ ((List.length t92 : Nat) : Int) then
                                                              if (10 : Int) ≤ ((List.length t92 : Nat) : Int) then
                                                                if ByteArray.size (strOf (List.take (1 - 0) (List.drop 0 t92))) + ByteArray.size (strOf (List.take (10 - 2) (List.drop 2 t92))) ≤ maxN then
                                                                  if (12 : Int) ≤ ((List.length t92 : Nat) : Int) then
                                                                    if ((List.length t92 : Nat) : Int) ≤ ((List.length t92 : Nat) : Int) then
                                                                      if ByteArray.size ((strOf (List.take (1 - 0) (List.drop 0 t92))) ++ (strOf (List.take (10 - 2) (List.drop 2 t92)))) + ByteArray.size (strOf (List.take ((Int.toNat ((List.length t92 : Nat) : Int)) - 12) (List.drop 12 t92))) ≤ maxN then
                                                                        ret (decide (ByteArray.toList (((strOf (List.take (1 - 0) (List.drop 0 t118.1))) ++ (strOf (List.take (10 - 2) (List.drop 2 t118.1)))) ++ (strOf (List.take ((Int.toNat ((List.length t118.1 : Nat) : Int)) - 12) (List.drop 12 t118.1)))) = ByteArray.toList (((strOf (List.take (1 - 0) (List.drop 0 t92))) ++ (strOf (List.take (10 - 2) (List.drop 2 t92)))) ++ (strOf (List.take ((Int.toNat ((List.length t92 : Nat) : Int)) - 12) (List.drop 12 t92))))))
                                                                      else none
                                                                    else none
                                                                  else none
                                                                else none
                                                              else none
                                                            else none
                                                          else none
                                                        else none
                                                      else none
                                                    else none
                                                  else none
                                                else none
                                          else
                                            ret false))
                                else
                                  ret false
                              else
                                ret false
                          else
                            ret false
                      else
                        ret false
                    else
                      ret false
                  else
                    ret false))))))))
def f9 (k : Nat) (xs1 : List Int) : Option Bool := f9.step k some xs1
def f9.w {R : Type} : Bool → (Res env → Option R) → Option R := fun t119 K => K ⟨.v (.c (.s (.bool t119))), [[]]⟩
theorem f9.wn (x : Bool) : ∃ res, ∀ {R : Type} (K : Res env → Option R), f9.w x K = K res := by
  exact ⟨_, fun _ => rfl⟩
def f9.hd (k : Nat) (ps_ : List (P2 env)) : Cl env :=
  gC Cl.no ps_ fun p_ ps_ => qC Cl.no p_ fun c_ => qSl Cl.no 5 c_ fun xs1 => gE Cl.no ps_ <| { α := Bool, o := f9 k xs1, w := f9.w, nat := fun x _ => f9.wn x }
def f9.e (k : Nat) : Entry env := ⟨fun ps => f9.hd k (coer [[.rd 5]] ps), [], []⟩
def f9.X (k : Nat) : Ctx env := { C := lookE [(19, f19.e k), (20, f20.e k), (29, f29.e k), (31, f31.e k), (55, f55.e k), (56, f56.e k), (57, f57.e k), (58, f58.e k)], L := lookE [], J := lookE [], keep := lookD [], keepX := lookD [], span := lookN [], eff := fun n => memN n [], prep := lookP [], np := 0 }
theorem f9.nat {R : Type} (k : Nat) (g : Bool → Option R) (xs1 : List Int) : f9.step k g xs1 = (f9 k xs1).bind g := by
  simp only [f9, f9.step, bind_ite, bind_sum, Option.bind_assoc, Option.bind_some, Option.bind_none]
theorem f9.ev (k : Nat) (xs1 : List Int) : evF (f9.X k) (bodyOf Try.f9) Try.f9.ntmps Try.f9.results.toList [.v (.c (.sl 5 xs1))] = f9.step k (fun x => f9.w x some) xs1 := by kernel_rfl
theorem f9.hok (k : Nat) : HOK (f9.X k) (bodyOf Try.f9) where
  l := allP_mem (by exact trivial)
  j := allP_mem (by exact trivial)
theorem f9.sound0 (k : Nat) : SoundC env Try.prog 9 (f9.hd k) := by
  intro ps_
  show GoodC _ _ _ ps_ (f9.hd k ps_)
  unfold f9.hd
  refine gC_ok (p := GoodC env Try.prog 9 _) goodC_no fun _ _ h => ?_
  subst h
  refine qC_ok (p := GoodC env Try.prog 9 _) goodC_no fun _ h => ?_
  subst h
  refine qSl_ok (p := GoodC env Try.prog 9 _) goodC_no fun _ h => ?_
  subst h
  refine gE_ok (p := GoodC env Try.prog 9 _) goodC_no fun h => ?_
  subst h
  exact fun_good (fun_sound envOK (cs_sound _ (by exact ⟨⟨f19.sound k, f19.fnok⟩, ⟨f20.sound k, f20.fnok⟩, ⟨f29.sound k, f29.fnok⟩, ⟨f31.sound k, f31.fnok⟩, ⟨f55.sound k, f55.fnok⟩, ⟨f56.sound k, f56.fnok⟩, ⟨f57.sound k, f57.fnok⟩, ⟨f58.sound k, f58.fnok⟩, trivial⟩)) (f9.hok k) Try.func9 rfl) ((f9.ev k _).trans (f9.nat k _ _))
theorem f9.sound (k : Nat) : SoundC env Try.prog 9 (f9.e k).F := soundC_coer (f9.sound0 k) [[.rd 5]]
theorem f9.says (k : Nat) (xs1 : List Int) (t120 : Bool) (h_ : f9 k xs1 = some t120) : SoundAt env Try.prog 9 [.v (.c (.sl 5 xs1))] ⟨.v (.c (.s (.bool t120))), [[]]⟩ :=
  fun_sound envOK (cs_sound _ (by exact ⟨⟨f19.sound k, f19.fnok⟩, ⟨f20.sound k, f20.fnok⟩, ⟨f29.sound k, f29.fnok⟩, ⟨f31.sound k, f31.fnok⟩, ⟨f55.sound k, f55.fnok⟩, ⟨f56.sound k, f56.fnok⟩, ⟨f57.sound k, f57.fnok⟩, ⟨f58.sound k, f58.fnok⟩, trivial⟩)) (f9.hok k) Try.func9 rfl _ _ (((f9.ev k xs1).trans (f9.nat k _ xs1)).trans (by rw [h_]; rfl))
theorem f9.fnok : FnOK Try.prog 9 := fn_ok Try.func9 (by kernel_rfl) rfl
end Go.Proofs.Ytildepkogbcdpaa.B

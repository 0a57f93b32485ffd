-- turned by a program of this session
import Derived.Test.YthknoffionodmaaVInv
import Derived.Test.YthknoffionodmaaVFootNe
namespace Go.Proofs.YthknoffionodmaaV.PrintWords
open Go.RowKit
end Go.Proofs.YthknoffionodmaaV.PrintWords
namespace Go.Proofs.YthknoffionodmaaV.PrintLast
section
variable {ops : Array Oper} {a : Act} {o og : Oper} {g : Nat} {t : Tmp} {u : Bool}
end
end Go.Proofs.YthknoffionodmaaV.PrintLast


-- turned by a program of this session
import Derived.Test.YtjfpkfophfelmaaVInv
import Derived.Test.YtjfpkfophfelmaaVFootNe
namespace Go.Proofs.YtjfpkfophfelmaaV.PrintWords
open Go.RowKit
end Go.Proofs.YtjfpkfophfelmaaV.PrintWords
namespace Go.Proofs.YtjfpkfophfelmaaV.PrintLast
section
variable {ops : Array Oper} {a : Act} {o og : Oper} {g : Nat} {t : Tmp} {u : Bool}
end
end Go.Proofs.YtjfpkfophfelmaaV.PrintLast


-- turned by a program of this session
import Derived.Test.YthknoffionodmaaVWords
namespace Go.Proofs.YthknoffionodmaaV.PrintWords
open Go.RowKit
section
variable {P : Program} {ops : Array Oper} {rest : List Oper} {o : Oper} {a : Act} {Q : Exit → Act → World → Prop} {W : World}
end
end Go.Proofs.YthknoffionodmaaV.PrintWords


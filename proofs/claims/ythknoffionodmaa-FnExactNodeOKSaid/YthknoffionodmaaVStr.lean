import Derived.Test.YthknoffionodmaaVMore
namespace Go.Proofs.YthknoffionodmaaV.PrintWords
open Go.RowKit
namespace Kd
section
variable {P : Program} {W : World}
end
section
variable {P : Program} {ops : Array Oper} {rest : List Oper} {o : Oper} {a : Act} {Q : Exit → Act → World → Prop}
end
section
variable {P : Program} {ops : Array Oper} {o : Oper} {a : Act} {Q : Exit → Act → World → Prop} {Kc : Act → World → Prop}
end
end Kd
end Go.Proofs.YthknoffionodmaaV.PrintWords


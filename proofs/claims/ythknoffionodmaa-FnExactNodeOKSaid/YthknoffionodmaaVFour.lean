-- turned by a program of this session
import Derived.Test.YthknoffionodmaaVTab
namespace Go.Proofs.YthknoffionodmaaV.PrintLast
section
variable {P : Program} {ops : Array Oper} {Q : Exit → Act → World → Prop} {md : Region.Mode} {S : World → Prop} {ds : List Nat} {T : Bool × List (List Nat × List Nat)}
end
end Go.Proofs.YthknoffionodmaaV.PrintLast


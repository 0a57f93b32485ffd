-- written by a program of this session
import Derived.Test.YtblmghlopolknaaProg
import Derived.Below
import Derived.Deep.Draws
import Derived.Deep.AppendLies
import Derived.Maps.AppendAt
import Derived.OwnWalk
import Derived.Laws.BytesArg
import Derived.Laws.MakeOwn
import Derived.Laws.OwnMore
import Derived.Deep.OwnRows
import Derived.Tactics
import Derived.Lib.ConvBytes
import Derived.Laws.Slices
import Derived.WalkKit
import Derived.KernelRfl
import Derived.RowKit3
import Derived.Deep.LoopGhost
import Derived.Deep.QuietTactic
import Derived.BigQuiet
import Derived.WideLaws
import Derived.Deep.DeepCutAuto
import Derived.Deep.CutBlock
import Derived.Deep.RegionHeld3
import Derived.Laws.Rows
import Derived.Lib.AppendStr
import Derived.ArgAppend
import Derived.Laws.IdiomCopy
import Derived.OrdersHeld
import Derived.Laws.BitsLemmas
import Derived.RowKit
import Derived.Test.YtblmghlopolknaaWWords
import Derived.Test.YtblmghlopolknaaWLast
import Derived.Test.YtblmghlopolknaaWTab
import Derived.Test.YtblmghlopolknaaWFour
import Derived.Test.YtblmghlopolknaaWQPut
import Derived.Test.YtblmghlopolknaaWApart
import Derived.Test.YtblmghlopolknaaWArr
import Derived.Test.YtblmghlopolknaaWZeros
import Derived.Test.YtblmghlopolknaaWFoot
import Derived.Test.YtblmghlopolknaaWKept
import Derived.Test.YtblmghlopolknaaWShare
import Derived.Test.YtblmghlopolknaaWN
import Derived.Test.YtblmghlopolknaaWFootNe
import Derived.Test.YtblmghlopolknaaWAt
import Derived.Test.YtblmghlopolknaaWEqStruct
import Derived.Test.YtblmghlopolknaaWRepsOne
import Derived.Test.YtblmghlopolknaaWInv
import Derived.Test.YtblmghlopolknaaWInvWords
import Derived.Test.YtblmghlopolknaaWGuard
import Derived.Test.YtblmghlopolknaaWNEv
import Derived.Test.YtblmghlopolknaaWMore
namespace Go.Proofs.Ytblmghlopolknaa.QFnExactReadSegment
open Go.RowKit Go.Proofs.YtblmghlopolknaaW.PrintWords Go.Proofs.YtblmghlopolknaaW.PrintLast Go.Proofs.YtblmghlopolknaaW.PrintMore
attribute [local go_sem] max2_int min2_int max_two min_two max_three min_three max_four min_four   -- for this text's walks alone
set_option linter.unusedVariables false
set_option linter.unusedSimpArgs false



def errW : Option Int → Value
  | none => .nilIface
  | some c => .iface 0 (.int .i64 c)
theorem errW_none : errW none = .nilIface := rfl
theorem errW_some (c : Int) : errW (some c) = .iface 0 (.int .i64 c) := rfl

theorem info5 : (Try.prog.info? 5).map (fun i => (i.zero, i.size, i.bytes)) = some (some (.int .u8 0), 1, 1) := by kernel_rfl
-- the values' own types

end Go.Proofs.Ytblmghlopolknaa.QFnExactReadSegment

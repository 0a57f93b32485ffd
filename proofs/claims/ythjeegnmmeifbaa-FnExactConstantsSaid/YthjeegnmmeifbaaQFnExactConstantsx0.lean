/- The walk through FnExactConstants: all the constants are what they are compared with. -/
import Derived.Test.YthjeegnmmeifbaaProg
import Derived.Below
import Derived.Deep.Draws
import Derived.Deep.AppendLies
import Derived.Maps.AppendAt
import Derived.OwnWalk
import Derived.Laws.BytesArg
import Derived.Laws.MakeOwn
import Derived.Laws.OwnMore
import Derived.Deep.OwnRows
import Derived.Tactics
import Derived.Lib.ConvBytes
import Derived.Laws.Slices
import Derived.WalkKit
import Derived.KernelRfl
import Derived.RowKit3
import Derived.Deep.LoopGhost
import Derived.Deep.QuietTactic
import Derived.BigQuiet
import Derived.WideLaws
import Derived.Deep.DeepCutAuto
import Derived.Deep.CutBlock
import Derived.Deep.RegionHeld3
import Derived.Laws.Rows
import Derived.Lib.AppendStr
import Derived.ArgAppend
import Derived.Laws.IdiomCopy
import Derived.OrdersHeld
import Derived.Laws.BitsLemmas
import Derived.RowKit
import Derived.Test.YthjeegnmmeifbaaWWords
import Derived.Test.YthjeegnmmeifbaaWLast
import Derived.Test.YthjeegnmmeifbaaWTab
import Derived.Test.YthjeegnmmeifbaaWFour
import Derived.Test.YthjeegnmmeifbaaWQPut
import Derived.Test.YthjeegnmmeifbaaWApart
import Derived.Test.YthjeegnmmeifbaaWArr
import Derived.Test.YthjeegnmmeifbaaWZeros
import Derived.Test.YthjeegnmmeifbaaWFoot
import Derived.Test.YthjeegnmmeifbaaWKept
import Derived.Test.YthjeegnmmeifbaaWShare
import Derived.Test.YthjeegnmmeifbaaWN
import Derived.Test.YthjeegnmmeifbaaWFootNe
import Derived.Test.YthjeegnmmeifbaaWAt
import Derived.Test.YthjeegnmmeifbaaWEqStruct
import Derived.Test.YthjeegnmmeifbaaWRepsOne
import Derived.Test.YthjeegnmmeifbaaWInv
import Derived.Test.YthjeegnmmeifbaaWInvWords
import Derived.Test.YthjeegnmmeifbaaWGuard
import Derived.Test.YthjeegnmmeifbaaWNEv
import Derived.Test.YthjeegnmmeifbaaWMore
namespace Go.Proofs.Ythjeegnmmeifbaa.QFnExactConstants
open Go.RowKit Go.Proofs.YthjeegnmmeifbaaW.PrintWords Go.Proofs.YthjeegnmmeifbaaW.PrintLast Go.Proofs.YthjeegnmmeifbaaW.PrintMore
set_option maxHeartbeats 8000000 in
set_option maxRecDepth 100000 in
theorem laws_FnExactConstants.calls (w : World) :
    Calls Try.prog 3 #[] w fun e w' => e = .returned (.bool true) ∧ Drawn0 w w' := by
  go_enter Try.func3, Try.ntmps3
  go_wp2
  go_ret
  exact ⟨rfl, Drawn0.refl _⟩
end Go.Proofs.Ythjeegnmmeifbaa.QFnExactConstants

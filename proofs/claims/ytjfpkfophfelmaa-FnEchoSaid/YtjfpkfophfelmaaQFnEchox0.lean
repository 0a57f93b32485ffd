-- written by a program of this session
import Derived.Test.YtjfpkfophfelmaaProg
import Derived.Below
import Derived.Deep.Draws
import Derived.Deep.AppendLies
import Derived.Maps.AppendAt
import Derived.OwnWalk
import Derived.Laws.BytesArg
import Derived.Laws.MakeOwn
import Derived.Laws.OwnMore
import Derived.Deep.OwnRows
import Derived.Tactics
import Derived.Lib.ConvBytes
import Derived.Laws.Slices
import Derived.WalkKit
import Derived.KernelRfl
import Derived.RowKit3
import Derived.Deep.LoopGhost
import Derived.Deep.QuietTactic
import Derived.BigQuiet
import Derived.WideLaws
import Derived.Deep.DeepCutAuto
import Derived.Deep.CutBlock
import Derived.Deep.RegionHeld3
import Derived.Laws.Rows
import Derived.Lib.AppendStr
import Derived.ArgAppend
import Derived.Laws.IdiomCopy
import Derived.OrdersHeld
import Derived.Laws.BitsLemmas
import Derived.RowKit
import Derived.StillTailTactics
import Derived.Test.YtjfpkfophfelmaaVWords
import Derived.Test.YtjfpkfophfelmaaVLast
import Derived.Test.YtjfpkfophfelmaaVTab
import Derived.Test.YtjfpkfophfelmaaVFour
import Derived.Test.YtjfpkfophfelmaaVQPut
import Derived.Test.YtjfpkfophfelmaaVApart
import Derived.Test.YtjfpkfophfelmaaVArr
import Derived.Test.YtjfpkfophfelmaaVZeros
import Derived.Test.YtjfpkfophfelmaaVFoot
import Derived.Test.YtjfpkfophfelmaaVKept
import Derived.Test.YtjfpkfophfelmaaVShare
import Derived.Test.YtjfpkfophfelmaaVN
import Derived.Test.YtjfpkfophfelmaaVFootNe
import Derived.Test.YtjfpkfophfelmaaVAt
import Derived.Test.YtjfpkfophfelmaaVEqStruct
import Derived.Test.YtjfpkfophfelmaaVRepsOne
import Derived.Test.YtjfpkfophfelmaaVInv
import Derived.Test.YtjfpkfophfelmaaVInvWords
import Derived.Test.YtjfpkfophfelmaaVGuard
import Derived.Test.YtjfpkfophfelmaaVNEv
import Derived.Test.YtjfpkfophfelmaaVMore
import Derived.Test.YtjfpkfophfelmaaVStr
import Derived.Test.YtjfpkfophfelmaaVCopy
namespace Go.Proofs.Ytjfpkfophfelmaa.QFnEcho
open Go.RowKit Go.Proofs.YtjfpkfophfelmaaV.PrintWords Go.Proofs.YtjfpkfophfelmaaV.PrintLast Go.Proofs.YtjfpkfophfelmaaV.PrintMore
attribute [local go_sem] max2_int min2_int max_two min_two max_three min_three max_four min_four   -- for this text's walks alone
set_option linter.unusedVariables false
set_option linter.unusedSimpArgs false



def errW : Option Int → Value
  | none => .nilIface
  | some c => .iface 0 (.int .i64 c)
theorem errW_none : errW none = .nilIface := rfl
theorem errW_some (c : Int) : errW (some c) = .iface 0 (.int .i64 c) := rfl
theorem still_tailN_ {P : Program} {id : Nat} {Q : Exit → Act → World → Prop} {a : Act} {w : World} {l : List Oper} (n : Nat) (hm : P.follows .mixedOrders = true) (hB : Region.lexTailB .any l.toArray n = true) (h : wpStill P l.toArray (w.drewN 1) (fun b => wpList P l.toArray Q (l.drop n) b (w.drewN 1)) (l.take n) a) : (Code.region id l.toArray true).wp P Q a w := wp_region_still_tail n hm hB h

theorem info5 : (Try.prog.info? 5).map (fun i => (i.zero, i.size, i.bytes)) = some (some (.int .u8 0), 1, 1) := by kernel_rfl
theorem info9 : (Try.prog.info? 9).map (fun i => (i.zero, i.size, i.bytes)) = some (some (.string ⟨#[]⟩), 1, 16) := by kernel_rfl
-- the values' own types

end Go.Proofs.Ytjfpkfophfelmaa.QFnEcho

/-
  NARROWER THAN 'FOR EVERY INPUT', by the rows' own cells (each row's printed sentence says how): FnExactTrieOK: loops.
  DERIVED. THE GIVEN ROWS OF THIS SEAT. 12 by the template 'for every input the law returns true; each argument reads behind the call as it read before'; 0 by the template 'total and deterministic' (their statements: YtblmghlopolknaaTotals.lean).
  GIVEN WITH THE SEED: the statements are not yours to turn. If you find one false, say at which input.
  Laid BY PROGRAM, IN A SANDBOX (cutbox-rows.mjs): the forced cells as the released guide's own fill.sh prints them over the translation 5662ae2644a5675e… (all of the seat's roots in one cut). By AI agents, Wed Nov 11 2026. No macro, syntax, notation, axiom, sorry.
-/
import Derived.Test.YtblmghlopolknaaChecked
import GoSem.Claim
import GoSem.ClaimJoined
import GoSem.ClaimMapViews
import Derived.JoinedTies
import Derived.KernelRfl
namespace Go.Proofs.Ytblmghlopolknaa
/- THE CELL 'sum', in the pinned program and in every row, IS THE sha256 OF THE DUMP (.gsa) THAT YtblmghlopolknaaProg.lean LOADS. Nothing in Lean hashes anything: it is a label: what it is worth is what the hold of that sum in a sandbox is worth. -/
noncomputable def Try.pinned : Pinned := { name := "ytblmghlopolknaa", sum := "5662ae2644a5675e50ff1bfa89fad27b179072dff2de3a691f606ef215ada550", checked := Try.checked }
namespace Rows
def none {H : Type} : Left H := { results := [], args := [] }

/-- 'laws.FnExactReadFrame': WHATEVER THE INPUT: true; the input reads as it did. -/
def fnExactReadFrameSpec : ChangeSpec := { name := "fnExactReadFrame", fn := fun _ => fun
  | [d] => { results := [.lit (.bool true)], args := [d] }
  | _ => none }
def fnExactReadFrameRow : OpenClaim := { program := "ytblmghlopolknaa", sum := "5662ae2644a5675e50ff1bfa89fad27b179072dff2de3a691f606ef215ada550", func := "loop.example/g00202/laws.FnExactReadFrame", spec := "fnExactReadFrame", apart := false }
def FnExactReadFrameSaid : Prop := fnExactReadFrameRow.holds Try.pinned (OpenSpec.ofChange fnExactReadFrameSpec)

/-- ITS FALSE NEIGHBOUR: 'it returns false'. Refute it at one input. -/
def fnExactReadFrameWrong : ChangeSpec := { name := "fnExactReadFrame", fn := fun _ => fun
  | [d] => { results := [.lit (.bool false)], args := [d] }
  | _ => none }
def FnExactReadFrameWrongFalsely : Prop := fnExactReadFrameRow.holds Try.pinned (OpenSpec.ofChange fnExactReadFrameWrong)

/-- 'laws.FnExactReadSegment': WHATEVER THE INPUT: true; the input reads as it did. -/
def fnExactReadSegmentSpec : ChangeSpec := { name := "fnExactReadSegment", fn := fun _ => fun
  | [d] => { results := [.lit (.bool true)], args := [d] }
  | _ => none }
def fnExactReadSegmentRow : OpenClaim := { program := "ytblmghlopolknaa", sum := "5662ae2644a5675e50ff1bfa89fad27b179072dff2de3a691f606ef215ada550", func := "loop.example/g00202/laws.FnExactReadSegment", spec := "fnExactReadSegment", apart := false }
def FnExactReadSegmentSaid : Prop := fnExactReadSegmentRow.holds Try.pinned (OpenSpec.ofChange fnExactReadSegmentSpec)

/-- ITS FALSE NEIGHBOUR: 'it returns false'. Refute it at one input. -/
def fnExactReadSegmentWrong : ChangeSpec := { name := "fnExactReadSegment", fn := fun _ => fun
  | [d] => { results := [.lit (.bool false)], args := [d] }
  | _ => none }
def FnExactReadSegmentWrongFalsely : Prop := fnExactReadSegmentRow.holds Try.pinned (OpenSpec.ofChange fnExactReadSegmentWrong)

/-- 'laws.FnExactSegmentBytes': WHATEVER THE INPUT: true; the input reads as it did. -/
def fnExactSegmentBytesSpec : ChangeSpec := { name := "fnExactSegmentBytes", fn := fun _ => fun
  | [d] => { results := [.lit (.bool true)], args := [d] }
  | _ => none }
def fnExactSegmentBytesRow : OpenClaim := { program := "ytblmghlopolknaa", sum := "5662ae2644a5675e50ff1bfa89fad27b179072dff2de3a691f606ef215ada550", func := "loop.example/g00202/laws.FnExactSegmentBytes", spec := "fnExactSegmentBytes", apart := false }
def FnExactSegmentBytesSaid : Prop := fnExactSegmentBytesRow.holds Try.pinned (OpenSpec.ofChange fnExactSegmentBytesSpec)

/-- ITS FALSE NEIGHBOUR: 'it returns false'. Refute it at one input. -/
def fnExactSegmentBytesWrong : ChangeSpec := { name := "fnExactSegmentBytes", fn := fun _ => fun
  | [d] => { results := [.lit (.bool false)], args := [d] }
  | _ => none }
def FnExactSegmentBytesWrongFalsely : Prop := fnExactSegmentBytesRow.holds Try.pinned (OpenSpec.ofChange fnExactSegmentBytesWrong)

/-- 'laws.FnExactFrameBytes': WHATEVER THE INPUT: true; the input reads as it did. -/
def fnExactFrameBytesSpec : ChangeSpec := { name := "fnExactFrameBytes", fn := fun _ => fun
  | [d] => { results := [.lit (.bool true)], args := [d] }
  | _ => none }
def fnExactFrameBytesRow : OpenClaim := { program := "ytblmghlopolknaa", sum := "5662ae2644a5675e50ff1bfa89fad27b179072dff2de3a691f606ef215ada550", func := "loop.example/g00202/laws.FnExactFrameBytes", spec := "fnExactFrameBytes", apart := false }
def FnExactFrameBytesSaid : Prop := fnExactFrameBytesRow.holds Try.pinned (OpenSpec.ofChange fnExactFrameBytesSpec)

/-- ITS FALSE NEIGHBOUR: 'it returns false'. Refute it at one input. -/
def fnExactFrameBytesWrong : ChangeSpec := { name := "fnExactFrameBytes", fn := fun _ => fun
  | [d] => { results := [.lit (.bool false)], args := [d] }
  | _ => none }
def FnExactFrameBytesWrongFalsely : Prop := fnExactFrameBytesRow.holds Try.pinned (OpenSpec.ofChange fnExactFrameBytesWrong)

/-- 'laws.FnExactPacketOK': WHATEVER THE INPUT: true; the input reads as it did. -/
def fnExactPacketOKSpec : ChangeSpec := { name := "fnExactPacketOK", fn := fun _ => fun
  | [d] => { results := [.lit (.bool true)], args := [d] }
  | _ => none }
def fnExactPacketOKRow : OpenClaim := { program := "ytblmghlopolknaa", sum := "5662ae2644a5675e50ff1bfa89fad27b179072dff2de3a691f606ef215ada550", func := "loop.example/g00202/laws.FnExactPacketOK", spec := "fnExactPacketOK", apart := false }
def FnExactPacketOKSaid : Prop := fnExactPacketOKRow.holds Try.pinned (OpenSpec.ofChange fnExactPacketOKSpec)

/-- ITS FALSE NEIGHBOUR: 'it returns false'. Refute it at one input. -/
def fnExactPacketOKWrong : ChangeSpec := { name := "fnExactPacketOK", fn := fun _ => fun
  | [d] => { results := [.lit (.bool false)], args := [d] }
  | _ => none }
def FnExactPacketOKWrongFalsely : Prop := fnExactPacketOKRow.holds Try.pinned (OpenSpec.ofChange fnExactPacketOKWrong)

/-- 'laws.FnExactTrieOK': WHATEVER THE INPUT: true; the input reads as it did. -/
def fnExactTrieOKSpec : ChangeSpec := { name := "fnExactTrieOK", fn := fun _ => fun
  | [d] => { results := [.lit (.bool true)], args := [d] }
  | _ => none }
def fnExactTrieOKRow : OpenClaim := { program := "ytblmghlopolknaa", sum := "5662ae2644a5675e50ff1bfa89fad27b179072dff2de3a691f606ef215ada550", func := "loop.example/g00202/laws.FnExactTrieOK", spec := "fnExactTrieOK", recurses := true, loops := true, apart := false }
def FnExactTrieOKSaid : Prop := fnExactTrieOKRow.holds Try.pinned (OpenSpec.ofChange fnExactTrieOKSpec)

/-- ITS FALSE NEIGHBOUR: 'it returns false'. Refute it at one input. -/
def fnExactTrieOKWrong : ChangeSpec := { name := "fnExactTrieOK", fn := fun _ => fun
  | [d] => { results := [.lit (.bool false)], args := [d] }
  | _ => none }
def FnExactTrieOKWrongFalsely : Prop := fnExactTrieOKRow.holds Try.pinned (OpenSpec.ofChange fnExactTrieOKWrong)

/-- 'laws.FnExactCacheOK': WHATEVER THE INPUT: true; the input reads as it did. -/
def fnExactCacheOKSpec : ChangeSpec := { name := "fnExactCacheOK", fn := fun _ => fun
  | [d] => { results := [.lit (.bool true)], args := [d] }
  | _ => none }
def fnExactCacheOKRow : OpenClaim := { program := "ytblmghlopolknaa", sum := "5662ae2644a5675e50ff1bfa89fad27b179072dff2de3a691f606ef215ada550", func := "loop.example/g00202/laws.FnExactCacheOK", spec := "fnExactCacheOK", apart := false }
def FnExactCacheOKSaid : Prop := fnExactCacheOKRow.holds Try.pinned (OpenSpec.ofChange fnExactCacheOKSpec)

/-- ITS FALSE NEIGHBOUR: 'it returns false'. Refute it at one input. -/
def fnExactCacheOKWrong : ChangeSpec := { name := "fnExactCacheOK", fn := fun _ => fun
  | [d] => { results := [.lit (.bool false)], args := [d] }
  | _ => none }
def FnExactCacheOKWrongFalsely : Prop := fnExactCacheOKRow.holds Try.pinned (OpenSpec.ofChange fnExactCacheOKWrong)

/-- 'laws.FnExactNewQueues': WHATEVER THE INPUT: true; the input reads as it did. -/
def fnExactNewQueuesSpec : ChangeSpec := { name := "fnExactNewQueues", fn := fun _ => fun
  | [d1, d2] => { results := [.lit (.bool true)], args := [d1, d2] }
  | _ => none }
def fnExactNewQueuesRow : OpenClaim := { program := "ytblmghlopolknaa", sum := "5662ae2644a5675e50ff1bfa89fad27b179072dff2de3a691f606ef215ada550", func := "loop.example/g00202/laws.FnExactNewQueues", spec := "fnExactNewQueues", apart := false }
def FnExactNewQueuesSaid : Prop := fnExactNewQueuesRow.holds Try.pinned (OpenSpec.ofChange fnExactNewQueuesSpec)

/-- ITS FALSE NEIGHBOUR: 'it returns false'. Refute it at one input. -/
def fnExactNewQueuesWrong : ChangeSpec := { name := "fnExactNewQueues", fn := fun _ => fun
  | [d1, d2] => { results := [.lit (.bool false)], args := [d1, d2] }
  | _ => none }
def FnExactNewQueuesWrongFalsely : Prop := fnExactNewQueuesRow.holds Try.pinned (OpenSpec.ofChange fnExactNewQueuesWrong)

/-- 'laws.FnExactReadPacket': WHATEVER THE INPUT: true; the input reads as it did. -/
def fnExactReadPacketSpec : ChangeSpec := { name := "fnExactReadPacket", fn := fun _ => fun
  | [d] => { results := [.lit (.bool true)], args := [d] }
  | _ => none }
def fnExactReadPacketRow : OpenClaim := { program := "ytblmghlopolknaa", sum := "5662ae2644a5675e50ff1bfa89fad27b179072dff2de3a691f606ef215ada550", func := "loop.example/g00202/laws.FnExactReadPacket", spec := "fnExactReadPacket", apart := false }
def FnExactReadPacketSaid : Prop := fnExactReadPacketRow.holds Try.pinned (OpenSpec.ofChange fnExactReadPacketSpec)

/-- ITS FALSE NEIGHBOUR: 'it returns false'. Refute it at one input. -/
def fnExactReadPacketWrong : ChangeSpec := { name := "fnExactReadPacket", fn := fun _ => fun
  | [d] => { results := [.lit (.bool false)], args := [d] }
  | _ => none }
def FnExactReadPacketWrongFalsely : Prop := fnExactReadPacketRow.holds Try.pinned (OpenSpec.ofChange fnExactReadPacketWrong)

/-- 'laws.FnExactPacketBytes': WHATEVER THE INPUT: true; the input reads as it did. -/
def fnExactPacketBytesSpec : ChangeSpec := { name := "fnExactPacketBytes", fn := fun _ => fun
  | [d] => { results := [.lit (.bool true)], args := [d] }
  | _ => none }
def fnExactPacketBytesRow : OpenClaim := { program := "ytblmghlopolknaa", sum := "5662ae2644a5675e50ff1bfa89fad27b179072dff2de3a691f606ef215ada550", func := "loop.example/g00202/laws.FnExactPacketBytes", spec := "fnExactPacketBytes", apart := false }
def FnExactPacketBytesSaid : Prop := fnExactPacketBytesRow.holds Try.pinned (OpenSpec.ofChange fnExactPacketBytesSpec)

/-- ITS FALSE NEIGHBOUR: 'it returns false'. Refute it at one input. -/
def fnExactPacketBytesWrong : ChangeSpec := { name := "fnExactPacketBytes", fn := fun _ => fun
  | [d] => { results := [.lit (.bool false)], args := [d] }
  | _ => none }
def FnExactPacketBytesWrongFalsely : Prop := fnExactPacketBytesRow.holds Try.pinned (OpenSpec.ofChange fnExactPacketBytesWrong)

/-- 'laws.FnExactQueuesOK': WHATEVER THE INPUT: true; the input reads as it did. -/
def fnExactQueuesOKSpec : ChangeSpec := { name := "fnExactQueuesOK", fn := fun _ => fun
  | [d] => { results := [.lit (.bool true)], args := [d] }
  | _ => none }
def fnExactQueuesOKRow : OpenClaim := { program := "ytblmghlopolknaa", sum := "5662ae2644a5675e50ff1bfa89fad27b179072dff2de3a691f606ef215ada550", func := "loop.example/g00202/laws.FnExactQueuesOK", spec := "fnExactQueuesOK", apart := false }
def FnExactQueuesOKSaid : Prop := fnExactQueuesOKRow.holds Try.pinned (OpenSpec.ofChange fnExactQueuesOKSpec)

/-- ITS FALSE NEIGHBOUR: 'it returns false'. Refute it at one input. -/
def fnExactQueuesOKWrong : ChangeSpec := { name := "fnExactQueuesOK", fn := fun _ => fun
  | [d] => { results := [.lit (.bool false)], args := [d] }
  | _ => none }
def FnExactQueuesOKWrongFalsely : Prop := fnExactQueuesOKRow.holds Try.pinned (OpenSpec.ofChange fnExactQueuesOKWrong)

/-- 'laws.FnExactBoxesOK': WHATEVER THE INPUT: true; the input reads as it did. -/
def fnExactBoxesOKSpec : ChangeSpec := { name := "fnExactBoxesOK", fn := fun _ => fun
  | [d] => { results := [.lit (.bool true)], args := [d] }
  | _ => none }
def fnExactBoxesOKRow : OpenClaim := { program := "ytblmghlopolknaa", sum := "5662ae2644a5675e50ff1bfa89fad27b179072dff2de3a691f606ef215ada550", func := "loop.example/g00202/laws.FnExactBoxesOK", spec := "fnExactBoxesOK", apart := false }
def FnExactBoxesOKSaid : Prop := fnExactBoxesOKRow.holds Try.pinned (OpenSpec.ofChange fnExactBoxesOKSpec)

/-- ITS FALSE NEIGHBOUR: 'it returns false'. Refute it at one input. -/
def fnExactBoxesOKWrong : ChangeSpec := { name := "fnExactBoxesOK", fn := fun _ => fun
  | [d] => { results := [.lit (.bool false)], args := [d] }
  | _ => none }
def FnExactBoxesOKWrongFalsely : Prop := fnExactBoxesOKRow.holds Try.pinned (OpenSpec.ofChange fnExactBoxesOKWrong)

/- THE SECOND FORM. 'bulk': how many values and letters a reading holds, each counted each time it is reached (what is shared counts as often as it is met; a slice's spare places count too). A statement '..UptoSaid' is the law's where the arguments, and the package variables that the reading takes, are together of bulk at most 1048576: NARROWER than '..Said'. Prove '..Said' where nothing that the law and all that it calls make is longer than what came in: it says more and counts as full. Else prove '..UptoSaid'. A law counts once. -/
mutual
def uptoBulk {H : Type} : DataW H → Nat
  | .lit (.string bytes) => bytes.length + 1
  | .lit _ => 1
  | .nil => 1
  | .ptr d => uptoBulk d + 1
  | .slice elems spare => uptoBulkAll elems + uptoBulkAll spare + 1
  | .agg parts => uptoBulkAll parts + 1
  | .iface _ d => uptoBulk d + 1
  | .map entries => uptoBulkEntries entries + 1
  | .held _ => 1
def uptoBulkAll {H : Type} : List (DataW H) → Nat
  | [] => 0
  | d :: r => uptoBulk d + uptoBulkAll r
def uptoBulkEntries {H : Type} : List (Lit × DataW H) → Nat
  | [] => 0
  | x :: r => uptoBulkEntry x + uptoBulkEntries r
def uptoBulkEntry {H : Type} : Lit × DataW H → Nat
  | (.string bytes, d) => bytes.length + uptoBulk d + 1
  | (_, d) => uptoBulk d + 1
 end
def uptoSmall : (H : Type) → List (DataW H) → Bool := fun _ ds => decide (uptoBulkAll ds ≤ 1048576)
def OpenSpec.upto (s : _root_.Go.ChangeSpec) : _root_.Go.OpenSpec := { _root_.Go.OpenSpec.ofChange s with cond := some uptoSmall }

/-- 'laws.FnExactReadFrame', WHERE WHAT IT READS IS OF BULK AT MOST 1048576: true; the input reads as it did. -/
def fnExactReadFrameUptoRow : OpenClaim := { program := "ytblmghlopolknaa", sum := "5662ae2644a5675e50ff1bfa89fad27b179072dff2de3a691f606ef215ada550", func := "loop.example/g00202/laws.FnExactReadFrame", spec := "fnExactReadFrame", apart := false, narrowed := true }
def FnExactReadFrameUptoSaid : Prop := fnExactReadFrameUptoRow.holds Try.pinned (OpenSpec.upto fnExactReadFrameSpec)

/-- 'laws.FnExactReadSegment', WHERE WHAT IT READS IS OF BULK AT MOST 1048576: true; the input reads as it did. -/
def fnExactReadSegmentUptoRow : OpenClaim := { program := "ytblmghlopolknaa", sum := "5662ae2644a5675e50ff1bfa89fad27b179072dff2de3a691f606ef215ada550", func := "loop.example/g00202/laws.FnExactReadSegment", spec := "fnExactReadSegment", apart := false, narrowed := true }
def FnExactReadSegmentUptoSaid : Prop := fnExactReadSegmentUptoRow.holds Try.pinned (OpenSpec.upto fnExactReadSegmentSpec)

/-- 'laws.FnExactSegmentBytes', WHERE WHAT IT READS IS OF BULK AT MOST 1048576: true; the input reads as it did. -/
def fnExactSegmentBytesUptoRow : OpenClaim := { program := "ytblmghlopolknaa", sum := "5662ae2644a5675e50ff1bfa89fad27b179072dff2de3a691f606ef215ada550", func := "loop.example/g00202/laws.FnExactSegmentBytes", spec := "fnExactSegmentBytes", apart := false, narrowed := true }
def FnExactSegmentBytesUptoSaid : Prop := fnExactSegmentBytesUptoRow.holds Try.pinned (OpenSpec.upto fnExactSegmentBytesSpec)

/-- 'laws.FnExactFrameBytes', WHERE WHAT IT READS IS OF BULK AT MOST 1048576: true; the input reads as it did. -/
def fnExactFrameBytesUptoRow : OpenClaim := { program := "ytblmghlopolknaa", sum := "5662ae2644a5675e50ff1bfa89fad27b179072dff2de3a691f606ef215ada550", func := "loop.example/g00202/laws.FnExactFrameBytes", spec := "fnExactFrameBytes", apart := false, narrowed := true }
def FnExactFrameBytesUptoSaid : Prop := fnExactFrameBytesUptoRow.holds Try.pinned (OpenSpec.upto fnExactFrameBytesSpec)

/-- 'laws.FnExactPacketOK', WHERE WHAT IT READS IS OF BULK AT MOST 1048576: true; the input reads as it did. -/
def fnExactPacketOKUptoRow : OpenClaim := { program := "ytblmghlopolknaa", sum := "5662ae2644a5675e50ff1bfa89fad27b179072dff2de3a691f606ef215ada550", func := "loop.example/g00202/laws.FnExactPacketOK", spec := "fnExactPacketOK", apart := false, narrowed := true }
def FnExactPacketOKUptoSaid : Prop := fnExactPacketOKUptoRow.holds Try.pinned (OpenSpec.upto fnExactPacketOKSpec)

/-- 'laws.FnExactTrieOK', WHERE WHAT IT READS IS OF BULK AT MOST 1048576: true; the input reads as it did. -/
def fnExactTrieOKUptoRow : OpenClaim := { program := "ytblmghlopolknaa", sum := "5662ae2644a5675e50ff1bfa89fad27b179072dff2de3a691f606ef215ada550", func := "loop.example/g00202/laws.FnExactTrieOK", spec := "fnExactTrieOK", recurses := true, loops := true, apart := false, narrowed := true }
def FnExactTrieOKUptoSaid : Prop := fnExactTrieOKUptoRow.holds Try.pinned (OpenSpec.upto fnExactTrieOKSpec)

/-- 'laws.FnExactCacheOK', WHERE WHAT IT READS IS OF BULK AT MOST 1048576: true; the input reads as it did. -/
def fnExactCacheOKUptoRow : OpenClaim := { program := "ytblmghlopolknaa", sum := "5662ae2644a5675e50ff1bfa89fad27b179072dff2de3a691f606ef215ada550", func := "loop.example/g00202/laws.FnExactCacheOK", spec := "fnExactCacheOK", apart := false, narrowed := true }
def FnExactCacheOKUptoSaid : Prop := fnExactCacheOKUptoRow.holds Try.pinned (OpenSpec.upto fnExactCacheOKSpec)

/-- 'laws.FnExactNewQueues', WHERE WHAT IT READS IS OF BULK AT MOST 1048576: true; the input reads as it did. -/
def fnExactNewQueuesUptoRow : OpenClaim := { program := "ytblmghlopolknaa", sum := "5662ae2644a5675e50ff1bfa89fad27b179072dff2de3a691f606ef215ada550", func := "loop.example/g00202/laws.FnExactNewQueues", spec := "fnExactNewQueues", apart := false, narrowed := true }
def FnExactNewQueuesUptoSaid : Prop := fnExactNewQueuesUptoRow.holds Try.pinned (OpenSpec.upto fnExactNewQueuesSpec)

/-- 'laws.FnExactReadPacket', WHERE WHAT IT READS IS OF BULK AT MOST 1048576: true; the input reads as it did. -/
def fnExactReadPacketUptoRow : OpenClaim := { program := "ytblmghlopolknaa", sum := "5662ae2644a5675e50ff1bfa89fad27b179072dff2de3a691f606ef215ada550", func := "loop.example/g00202/laws.FnExactReadPacket", spec := "fnExactReadPacket", apart := false, narrowed := true }
def FnExactReadPacketUptoSaid : Prop := fnExactReadPacketUptoRow.holds Try.pinned (OpenSpec.upto fnExactReadPacketSpec)

/-- 'laws.FnExactPacketBytes', WHERE WHAT IT READS IS OF BULK AT MOST 1048576: true; the input reads as it did. -/
def fnExactPacketBytesUptoRow : OpenClaim := { program := "ytblmghlopolknaa", sum := "5662ae2644a5675e50ff1bfa89fad27b179072dff2de3a691f606ef215ada550", func := "loop.example/g00202/laws.FnExactPacketBytes", spec := "fnExactPacketBytes", apart := false, narrowed := true }
def FnExactPacketBytesUptoSaid : Prop := fnExactPacketBytesUptoRow.holds Try.pinned (OpenSpec.upto fnExactPacketBytesSpec)

/-- 'laws.FnExactQueuesOK', WHERE WHAT IT READS IS OF BULK AT MOST 1048576: true; the input reads as it did. -/
def fnExactQueuesOKUptoRow : OpenClaim := { program := "ytblmghlopolknaa", sum := "5662ae2644a5675e50ff1bfa89fad27b179072dff2de3a691f606ef215ada550", func := "loop.example/g00202/laws.FnExactQueuesOK", spec := "fnExactQueuesOK", apart := false, narrowed := true }
def FnExactQueuesOKUptoSaid : Prop := fnExactQueuesOKUptoRow.holds Try.pinned (OpenSpec.upto fnExactQueuesOKSpec)

/-- 'laws.FnExactBoxesOK', WHERE WHAT IT READS IS OF BULK AT MOST 1048576: true; the input reads as it did. -/
def fnExactBoxesOKUptoRow : OpenClaim := { program := "ytblmghlopolknaa", sum := "5662ae2644a5675e50ff1bfa89fad27b179072dff2de3a691f606ef215ada550", func := "loop.example/g00202/laws.FnExactBoxesOK", spec := "fnExactBoxesOK", apart := false, narrowed := true }
def FnExactBoxesOKUptoSaid : Prop := fnExactBoxesOKUptoRow.holds Try.pinned (OpenSpec.upto fnExactBoxesOKSpec)

end Rows
end Go.Proofs.Ytblmghlopolknaa

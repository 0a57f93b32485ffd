/-
  No cell of these rows narrows 'for every input' (looked for: loops, veiled, ifaces, maps, wideKeys, modest, calm, conditions, laid).
  DERIVED. THE GIVEN ROWS OF THIS SEAT. 12 by the template 'for every input the law returns true; each argument reads behind the call as it read before'; 0 by the template 'total and deterministic' (their statements: YthjeegnmmeifbaaTotals.lean).
  GIVEN WITH THE SEED: the statements are not yours to turn. If you find one false, say at which input.
  Laid BY PROGRAM, IN A SANDBOX (cutbox-rows.mjs): the forced cells as the released guide's own fill.sh prints them over the translation d3d71bf340bdcf44… (all of the seat's roots in one cut). By AI agents, Wed Nov 11 2026. No macro, syntax, notation, axiom, sorry.
-/
import Derived.Test.YthjeegnmmeifbaaChecked
import GoSem.Claim
import GoSem.ClaimJoined
import GoSem.ClaimMapViews
import Derived.JoinedTies
import Derived.KernelRfl
namespace Go.Proofs.Ythjeegnmmeifbaa
/- THE CELL 'sum', in the pinned program and in every row, IS THE sha256 OF THE DUMP (.gsa) THAT YthjeegnmmeifbaaProg.lean LOADS. Nothing in Lean hashes anything: it is a label: what it is worth is what the hold of that sum in a sandbox is worth. -/
noncomputable def Try.pinned : Pinned := { name := "ythjeegnmmeifbaa", sum := "d3d71bf340bdcf446d64c08ddfd106c43c76a30743732a0a1060989f80d490e2", checked := Try.checked }
namespace Rows
def none {H : Type} : Left H := { results := [], args := [] }

/-- 'laws.FnExactConstants': WHATEVER THE INPUT: true; the input reads as it did. -/
def fnExactConstantsSpec : ChangeSpec := { name := "fnExactConstants", fn := fun _ => fun
  | [] => { results := [.lit (.bool true)], args := [] }
  | _ => none }
def fnExactConstantsRow : OpenClaim := { program := "ythjeegnmmeifbaa", sum := "d3d71bf340bdcf446d64c08ddfd106c43c76a30743732a0a1060989f80d490e2", func := "loop.example/g00202/laws.FnExactConstants", spec := "fnExactConstants", apart := false }
def FnExactConstantsSaid : Prop := fnExactConstantsRow.holds Try.pinned (OpenSpec.ofChange fnExactConstantsSpec)

/-- ITS FALSE NEIGHBOUR: 'it returns false'. Refute it at one input. -/
def fnExactConstantsWrong : ChangeSpec := { name := "fnExactConstants", fn := fun _ => fun
  | [] => { results := [.lit (.bool false)], args := [] }
  | _ => none }
def FnExactConstantsWrongFalsely : Prop := fnExactConstantsRow.holds Try.pinned (OpenSpec.ofChange fnExactConstantsWrong)

/-- 'laws.FnExactCodeWord': WHATEVER THE INPUT: true; the input reads as it did. -/
def fnExactCodeWordSpec : ChangeSpec := { name := "fnExactCodeWord", fn := fun _ => fun
  | [d] => { results := [.lit (.bool true)], args := [d] }
  | _ => none }
def fnExactCodeWordRow : OpenClaim := { program := "ythjeegnmmeifbaa", sum := "d3d71bf340bdcf446d64c08ddfd106c43c76a30743732a0a1060989f80d490e2", func := "loop.example/g00202/laws.FnExactCodeWord", spec := "fnExactCodeWord", apart := false }
def FnExactCodeWordSaid : Prop := fnExactCodeWordRow.holds Try.pinned (OpenSpec.ofChange fnExactCodeWordSpec)

/-- ITS FALSE NEIGHBOUR: 'it returns false'. Refute it at one input. -/
def fnExactCodeWordWrong : ChangeSpec := { name := "fnExactCodeWord", fn := fun _ => fun
  | [d] => { results := [.lit (.bool false)], args := [d] }
  | _ => none }
def FnExactCodeWordWrongFalsely : Prop := fnExactCodeWordRow.holds Try.pinned (OpenSpec.ofChange fnExactCodeWordWrong)

/-- 'laws.FnExactSeqBefore': WHATEVER THE INPUT: true; the input reads as it did. -/
def fnExactSeqBeforeSpec : ChangeSpec := { name := "fnExactSeqBefore", fn := fun _ => fun
  | [d1, d2] => { results := [.lit (.bool true)], args := [d1, d2] }
  | _ => none }
def fnExactSeqBeforeRow : OpenClaim := { program := "ythjeegnmmeifbaa", sum := "d3d71bf340bdcf446d64c08ddfd106c43c76a30743732a0a1060989f80d490e2", func := "loop.example/g00202/laws.FnExactSeqBefore", spec := "fnExactSeqBefore", apart := false }
def FnExactSeqBeforeSaid : Prop := fnExactSeqBeforeRow.holds Try.pinned (OpenSpec.ofChange fnExactSeqBeforeSpec)

/-- ITS FALSE NEIGHBOUR: 'it returns false'. Refute it at one input. -/
def fnExactSeqBeforeWrong : ChangeSpec := { name := "fnExactSeqBefore", fn := fun _ => fun
  | [d1, d2] => { results := [.lit (.bool false)], args := [d1, d2] }
  | _ => none }
def FnExactSeqBeforeWrongFalsely : Prop := fnExactSeqBeforeRow.holds Try.pinned (OpenSpec.ofChange fnExactSeqBeforeWrong)

/-- 'laws.FnExactFixSum': WHATEVER THE INPUT: true; the input reads as it did. -/
def fnExactFixSumSpec : ChangeSpec := { name := "fnExactFixSum", fn := fun _ => fun
  | [d1, d2, d3] => { results := [.lit (.bool true)], args := [d1, d2, d3] }
  | _ => none }
def fnExactFixSumRow : OpenClaim := { program := "ythjeegnmmeifbaa", sum := "d3d71bf340bdcf446d64c08ddfd106c43c76a30743732a0a1060989f80d490e2", func := "loop.example/g00202/laws.FnExactFixSum", spec := "fnExactFixSum", apart := false }
def FnExactFixSumSaid : Prop := fnExactFixSumRow.holds Try.pinned (OpenSpec.ofChange fnExactFixSumSpec)

/-- ITS FALSE NEIGHBOUR: 'it returns false'. Refute it at one input. -/
def fnExactFixSumWrong : ChangeSpec := { name := "fnExactFixSum", fn := fun _ => fun
  | [d1, d2, d3] => { results := [.lit (.bool false)], args := [d1, d2, d3] }
  | _ => none }
def FnExactFixSumWrongFalsely : Prop := fnExactFixSumRow.holds Try.pinned (OpenSpec.ofChange fnExactFixSumWrong)

/-- 'laws.FnExactCodeOf': WHATEVER THE INPUT: true; the input reads as it did. -/
def fnExactCodeOfSpec : ChangeSpec := { name := "fnExactCodeOf", fn := fun _ => fun
  | [d] => { results := [.lit (.bool true)], args := [d] }
  | _ => none }
def fnExactCodeOfRow : OpenClaim := { program := "ythjeegnmmeifbaa", sum := "d3d71bf340bdcf446d64c08ddfd106c43c76a30743732a0a1060989f80d490e2", func := "loop.example/g00202/laws.FnExactCodeOf", spec := "fnExactCodeOf", apart := false }
def FnExactCodeOfSaid : Prop := fnExactCodeOfRow.holds Try.pinned (OpenSpec.ofChange fnExactCodeOfSpec)

/-- ITS FALSE NEIGHBOUR: 'it returns false'. Refute it at one input. -/
def fnExactCodeOfWrong : ChangeSpec := { name := "fnExactCodeOf", fn := fun _ => fun
  | [d] => { results := [.lit (.bool false)], args := [d] }
  | _ => none }
def FnExactCodeOfWrongFalsely : Prop := fnExactCodeOfRow.holds Try.pinned (OpenSpec.ofChange fnExactCodeOfWrong)

/-- 'laws.FnExactNameOK': WHATEVER THE INPUT: true; the input reads as it did. -/
def fnExactNameOKSpec : ChangeSpec := { name := "fnExactNameOK", fn := fun _ => fun
  | [d] => { results := [.lit (.bool true)], args := [d] }
  | _ => none }
def fnExactNameOKRow : OpenClaim := { program := "ythjeegnmmeifbaa", sum := "d3d71bf340bdcf446d64c08ddfd106c43c76a30743732a0a1060989f80d490e2", func := "loop.example/g00202/laws.FnExactNameOK", spec := "fnExactNameOK", apart := false }
def FnExactNameOKSaid : Prop := fnExactNameOKRow.holds Try.pinned (OpenSpec.ofChange fnExactNameOKSpec)

/-- ITS FALSE NEIGHBOUR: 'it returns false'. Refute it at one input. -/
def fnExactNameOKWrong : ChangeSpec := { name := "fnExactNameOK", fn := fun _ => fun
  | [d] => { results := [.lit (.bool false)], args := [d] }
  | _ => none }
def FnExactNameOKWrongFalsely : Prop := fnExactNameOKRow.holds Try.pinned (OpenSpec.ofChange fnExactNameOKWrong)

/-- 'laws.FnExactRouteOK': WHATEVER THE INPUT: true; the input reads as it did. -/
def fnExactRouteOKSpec : ChangeSpec := { name := "fnExactRouteOK", fn := fun _ => fun
  | [d] => { results := [.lit (.bool true)], args := [d] }
  | _ => none }
def fnExactRouteOKRow : OpenClaim := { program := "ythjeegnmmeifbaa", sum := "d3d71bf340bdcf446d64c08ddfd106c43c76a30743732a0a1060989f80d490e2", func := "loop.example/g00202/laws.FnExactRouteOK", spec := "fnExactRouteOK", apart := false }
def FnExactRouteOKSaid : Prop := fnExactRouteOKRow.holds Try.pinned (OpenSpec.ofChange fnExactRouteOKSpec)

/-- ITS FALSE NEIGHBOUR: 'it returns false'. Refute it at one input. -/
def fnExactRouteOKWrong : ChangeSpec := { name := "fnExactRouteOK", fn := fun _ => fun
  | [d] => { results := [.lit (.bool false)], args := [d] }
  | _ => none }
def FnExactRouteOKWrongFalsely : Prop := fnExactRouteOKRow.holds Try.pinned (OpenSpec.ofChange fnExactRouteOKWrong)

/-- 'laws.FnExactSum16': WHATEVER THE INPUT: true; the input reads as it did. -/
def fnExactSum16Spec : ChangeSpec := { name := "fnExactSum16", fn := fun _ => fun
  | [d] => { results := [.lit (.bool true)], args := [d] }
  | _ => none }
def fnExactSum16Row : OpenClaim := { program := "ythjeegnmmeifbaa", sum := "d3d71bf340bdcf446d64c08ddfd106c43c76a30743732a0a1060989f80d490e2", func := "loop.example/g00202/laws.FnExactSum16", spec := "fnExactSum16", apart := false }
def FnExactSum16Said : Prop := fnExactSum16Row.holds Try.pinned (OpenSpec.ofChange fnExactSum16Spec)

/-- ITS FALSE NEIGHBOUR: 'it returns false'. Refute it at one input. -/
def fnExactSum16Wrong : ChangeSpec := { name := "fnExactSum16", fn := fun _ => fun
  | [d] => { results := [.lit (.bool false)], args := [d] }
  | _ => none }
def FnExactSum16WrongFalsely : Prop := fnExactSum16Row.holds Try.pinned (OpenSpec.ofChange fnExactSum16Wrong)

/-- 'laws.FnExactReadArp': WHATEVER THE INPUT: true; the input reads as it did. -/
def fnExactReadArpSpec : ChangeSpec := { name := "fnExactReadArp", fn := fun _ => fun
  | [d] => { results := [.lit (.bool true)], args := [d] }
  | _ => none }
def fnExactReadArpRow : OpenClaim := { program := "ythjeegnmmeifbaa", sum := "d3d71bf340bdcf446d64c08ddfd106c43c76a30743732a0a1060989f80d490e2", func := "loop.example/g00202/laws.FnExactReadArp", spec := "fnExactReadArp", apart := false }
def FnExactReadArpSaid : Prop := fnExactReadArpRow.holds Try.pinned (OpenSpec.ofChange fnExactReadArpSpec)

/-- ITS FALSE NEIGHBOUR: 'it returns false'. Refute it at one input. -/
def fnExactReadArpWrong : ChangeSpec := { name := "fnExactReadArp", fn := fun _ => fun
  | [d] => { results := [.lit (.bool false)], args := [d] }
  | _ => none }
def FnExactReadArpWrongFalsely : Prop := fnExactReadArpRow.holds Try.pinned (OpenSpec.ofChange fnExactReadArpWrong)

/-- 'laws.FnExactReadLink': WHATEVER THE INPUT: true; the input reads as it did. -/
def fnExactReadLinkSpec : ChangeSpec := { name := "fnExactReadLink", fn := fun _ => fun
  | [d] => { results := [.lit (.bool true)], args := [d] }
  | _ => none }
def fnExactReadLinkRow : OpenClaim := { program := "ythjeegnmmeifbaa", sum := "d3d71bf340bdcf446d64c08ddfd106c43c76a30743732a0a1060989f80d490e2", func := "loop.example/g00202/laws.FnExactReadLink", spec := "fnExactReadLink", apart := false }
def FnExactReadLinkSaid : Prop := fnExactReadLinkRow.holds Try.pinned (OpenSpec.ofChange fnExactReadLinkSpec)

/-- ITS FALSE NEIGHBOUR: 'it returns false'. Refute it at one input. -/
def fnExactReadLinkWrong : ChangeSpec := { name := "fnExactReadLink", fn := fun _ => fun
  | [d] => { results := [.lit (.bool false)], args := [d] }
  | _ => none }
def FnExactReadLinkWrongFalsely : Prop := fnExactReadLinkRow.holds Try.pinned (OpenSpec.ofChange fnExactReadLinkWrong)

/-- 'laws.FnSums': WHATEVER THE INPUT: true; the input reads as it did. -/
def fnSumsSpec : ChangeSpec := { name := "fnSums", fn := fun _ => fun
  | [d1, d2] => { results := [.lit (.bool true)], args := [d1, d2] }
  | _ => none }
def fnSumsRow : OpenClaim := { program := "ythjeegnmmeifbaa", sum := "d3d71bf340bdcf446d64c08ddfd106c43c76a30743732a0a1060989f80d490e2", func := "loop.example/g00202/laws.FnSums", spec := "fnSums", apart := false }
def FnSumsSaid : Prop := fnSumsRow.holds Try.pinned (OpenSpec.ofChange fnSumsSpec)

/-- ITS FALSE NEIGHBOUR: 'it returns false'. Refute it at one input. -/
def fnSumsWrong : ChangeSpec := { name := "fnSums", fn := fun _ => fun
  | [d1, d2] => { results := [.lit (.bool false)], args := [d1, d2] }
  | _ => none }
def FnSumsWrongFalsely : Prop := fnSumsRow.holds Try.pinned (OpenSpec.ofChange fnSumsWrong)

/-- 'laws.FnExactArpBytes': WHATEVER THE INPUT: true; the input reads as it did. -/
def fnExactArpBytesSpec : ChangeSpec := { name := "fnExactArpBytes", fn := fun _ => fun
  | [d] => { results := [.lit (.bool true)], args := [d] }
  | _ => none }
def fnExactArpBytesRow : OpenClaim := { program := "ythjeegnmmeifbaa", sum := "d3d71bf340bdcf446d64c08ddfd106c43c76a30743732a0a1060989f80d490e2", func := "loop.example/g00202/laws.FnExactArpBytes", spec := "fnExactArpBytes", apart := false }
def FnExactArpBytesSaid : Prop := fnExactArpBytesRow.holds Try.pinned (OpenSpec.ofChange fnExactArpBytesSpec)

/-- ITS FALSE NEIGHBOUR: 'it returns false'. Refute it at one input. -/
def fnExactArpBytesWrong : ChangeSpec := { name := "fnExactArpBytes", fn := fun _ => fun
  | [d] => { results := [.lit (.bool false)], args := [d] }
  | _ => none }
def FnExactArpBytesWrongFalsely : Prop := fnExactArpBytesRow.holds Try.pinned (OpenSpec.ofChange fnExactArpBytesWrong)

/- THE SECOND FORM. 'bulk': how many values and letters a reading holds, each counted each time it is reached (what is shared counts as often as it is met; a slice's spare places count too). A statement '..UptoSaid' is the law's where the arguments, and the package variables that the reading takes, are together of bulk at most 1048576: NARROWER than '..Said'. Prove '..Said' where nothing that the law and all that it calls make is longer than what came in: it says more and counts as full. Else prove '..UptoSaid'. A law counts once. -/
mutual
def uptoBulk {H : Type} : DataW H → Nat
  | .lit (.string bytes) => bytes.length + 1
  | .lit _ => 1
  | .nil => 1
  | .ptr d => uptoBulk d + 1
  | .slice elems spare => uptoBulkAll elems + uptoBulkAll spare + 1
  | .agg parts => uptoBulkAll parts + 1
  | .iface _ d => uptoBulk d + 1
  | .map entries => uptoBulkEntries entries + 1
  | .held _ => 1
def uptoBulkAll {H : Type} : List (DataW H) → Nat
  | [] => 0
  | d :: r => uptoBulk d + uptoBulkAll r
def uptoBulkEntries {H : Type} : List (Lit × DataW H) → Nat
  | [] => 0
  | x :: r => uptoBulkEntry x + uptoBulkEntries r
def uptoBulkEntry {H : Type} : Lit × DataW H → Nat
  | (.string bytes, d) => bytes.length + uptoBulk d + 1
  | (_, d) => uptoBulk d + 1
 end
def uptoSmall : (H : Type) → List (DataW H) → Bool := fun _ ds => decide (uptoBulkAll ds ≤ 1048576)
def OpenSpec.upto (s : _root_.Go.ChangeSpec) : _root_.Go.OpenSpec := { _root_.Go.OpenSpec.ofChange s with cond := some uptoSmall }

/-- 'laws.FnExactConstants', WHERE WHAT IT READS IS OF BULK AT MOST 1048576: true; the input reads as it did. -/
def fnExactConstantsUptoRow : OpenClaim := { program := "ythjeegnmmeifbaa", sum := "d3d71bf340bdcf446d64c08ddfd106c43c76a30743732a0a1060989f80d490e2", func := "loop.example/g00202/laws.FnExactConstants", spec := "fnExactConstants", apart := false, narrowed := true }
def FnExactConstantsUptoSaid : Prop := fnExactConstantsUptoRow.holds Try.pinned (OpenSpec.upto fnExactConstantsSpec)

/-- 'laws.FnExactCodeWord', WHERE WHAT IT READS IS OF BULK AT MOST 1048576: true; the input reads as it did. -/
def fnExactCodeWordUptoRow : OpenClaim := { program := "ythjeegnmmeifbaa", sum := "d3d71bf340bdcf446d64c08ddfd106c43c76a30743732a0a1060989f80d490e2", func := "loop.example/g00202/laws.FnExactCodeWord", spec := "fnExactCodeWord", apart := false, narrowed := true }
def FnExactCodeWordUptoSaid : Prop := fnExactCodeWordUptoRow.holds Try.pinned (OpenSpec.upto fnExactCodeWordSpec)

/-- 'laws.FnExactSeqBefore', WHERE WHAT IT READS IS OF BULK AT MOST 1048576: true; the input reads as it did. -/
def fnExactSeqBeforeUptoRow : OpenClaim := { program := "ythjeegnmmeifbaa", sum := "d3d71bf340bdcf446d64c08ddfd106c43c76a30743732a0a1060989f80d490e2", func := "loop.example/g00202/laws.FnExactSeqBefore", spec := "fnExactSeqBefore", apart := false, narrowed := true }
def FnExactSeqBeforeUptoSaid : Prop := fnExactSeqBeforeUptoRow.holds Try.pinned (OpenSpec.upto fnExactSeqBeforeSpec)

/-- 'laws.FnExactFixSum', WHERE WHAT IT READS IS OF BULK AT MOST 1048576: true; the input reads as it did. -/
def fnExactFixSumUptoRow : OpenClaim := { program := "ythjeegnmmeifbaa", sum := "d3d71bf340bdcf446d64c08ddfd106c43c76a30743732a0a1060989f80d490e2", func := "loop.example/g00202/laws.FnExactFixSum", spec := "fnExactFixSum", apart := false, narrowed := true }
def FnExactFixSumUptoSaid : Prop := fnExactFixSumUptoRow.holds Try.pinned (OpenSpec.upto fnExactFixSumSpec)

/-- 'laws.FnExactCodeOf', WHERE WHAT IT READS IS OF BULK AT MOST 1048576: true; the input reads as it did. -/
def fnExactCodeOfUptoRow : OpenClaim := { program := "ythjeegnmmeifbaa", sum := "d3d71bf340bdcf446d64c08ddfd106c43c76a30743732a0a1060989f80d490e2", func := "loop.example/g00202/laws.FnExactCodeOf", spec := "fnExactCodeOf", apart := false, narrowed := true }
def FnExactCodeOfUptoSaid : Prop := fnExactCodeOfUptoRow.holds Try.pinned (OpenSpec.upto fnExactCodeOfSpec)

/-- 'laws.FnExactNameOK', WHERE WHAT IT READS IS OF BULK AT MOST 1048576: true; the input reads as it did. -/
def fnExactNameOKUptoRow : OpenClaim := { program := "ythjeegnmmeifbaa", sum := "d3d71bf340bdcf446d64c08ddfd106c43c76a30743732a0a1060989f80d490e2", func := "loop.example/g00202/laws.FnExactNameOK", spec := "fnExactNameOK", apart := false, narrowed := true }
def FnExactNameOKUptoSaid : Prop := fnExactNameOKUptoRow.holds Try.pinned (OpenSpec.upto fnExactNameOKSpec)

/-- 'laws.FnExactRouteOK', WHERE WHAT IT READS IS OF BULK AT MOST 1048576: true; the input reads as it did. -/
def fnExactRouteOKUptoRow : OpenClaim := { program := "ythjeegnmmeifbaa", sum := "d3d71bf340bdcf446d64c08ddfd106c43c76a30743732a0a1060989f80d490e2", func := "loop.example/g00202/laws.FnExactRouteOK", spec := "fnExactRouteOK", apart := false, narrowed := true }
def FnExactRouteOKUptoSaid : Prop := fnExactRouteOKUptoRow.holds Try.pinned (OpenSpec.upto fnExactRouteOKSpec)

/-- 'laws.FnExactSum16', WHERE WHAT IT READS IS OF BULK AT MOST 1048576: true; the input reads as it did. -/
def fnExactSum16UptoRow : OpenClaim := { program := "ythjeegnmmeifbaa", sum := "d3d71bf340bdcf446d64c08ddfd106c43c76a30743732a0a1060989f80d490e2", func := "loop.example/g00202/laws.FnExactSum16", spec := "fnExactSum16", apart := false, narrowed := true }
def FnExactSum16UptoSaid : Prop := fnExactSum16UptoRow.holds Try.pinned (OpenSpec.upto fnExactSum16Spec)

/-- 'laws.FnExactReadArp', WHERE WHAT IT READS IS OF BULK AT MOST 1048576: true; the input reads as it did. -/
def fnExactReadArpUptoRow : OpenClaim := { program := "ythjeegnmmeifbaa", sum := "d3d71bf340bdcf446d64c08ddfd106c43c76a30743732a0a1060989f80d490e2", func := "loop.example/g00202/laws.FnExactReadArp", spec := "fnExactReadArp", apart := false, narrowed := true }
def FnExactReadArpUptoSaid : Prop := fnExactReadArpUptoRow.holds Try.pinned (OpenSpec.upto fnExactReadArpSpec)

/-- 'laws.FnExactReadLink', WHERE WHAT IT READS IS OF BULK AT MOST 1048576: true; the input reads as it did. -/
def fnExactReadLinkUptoRow : OpenClaim := { program := "ythjeegnmmeifbaa", sum := "d3d71bf340bdcf446d64c08ddfd106c43c76a30743732a0a1060989f80d490e2", func := "loop.example/g00202/laws.FnExactReadLink", spec := "fnExactReadLink", apart := false, narrowed := true }
def FnExactReadLinkUptoSaid : Prop := fnExactReadLinkUptoRow.holds Try.pinned (OpenSpec.upto fnExactReadLinkSpec)

/-- 'laws.FnSums', WHERE WHAT IT READS IS OF BULK AT MOST 1048576: true; the input reads as it did. -/
def fnSumsUptoRow : OpenClaim := { program := "ythjeegnmmeifbaa", sum := "d3d71bf340bdcf446d64c08ddfd106c43c76a30743732a0a1060989f80d490e2", func := "loop.example/g00202/laws.FnSums", spec := "fnSums", apart := false, narrowed := true }
def FnSumsUptoSaid : Prop := fnSumsUptoRow.holds Try.pinned (OpenSpec.upto fnSumsSpec)

/-- 'laws.FnExactArpBytes', WHERE WHAT IT READS IS OF BULK AT MOST 1048576: true; the input reads as it did. -/
def fnExactArpBytesUptoRow : OpenClaim := { program := "ythjeegnmmeifbaa", sum := "d3d71bf340bdcf446d64c08ddfd106c43c76a30743732a0a1060989f80d490e2", func := "loop.example/g00202/laws.FnExactArpBytes", spec := "fnExactArpBytes", apart := false, narrowed := true }
def FnExactArpBytesUptoSaid : Prop := fnExactArpBytesUptoRow.holds Try.pinned (OpenSpec.upto fnExactArpBytesSpec)

end Rows
end Go.Proofs.Ythjeegnmmeifbaa

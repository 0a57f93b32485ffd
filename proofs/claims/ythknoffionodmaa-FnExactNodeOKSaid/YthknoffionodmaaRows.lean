/-
  NARROWER THAN 'FOR EVERY INPUT', by the rows' own cells (each row's printed sentence says how): FnExactTrieOK: loops · FnExactTrieRoutes: loops · FnExactNodeOK: loops.
  DERIVED. THE GIVEN ROWS OF THIS SEAT. 12 by the template 'for every input the law returns true; each argument reads behind the call as it read before'; 0 by the template 'total and deterministic' (their statements: YthknoffionodmaaTotals.lean).
  GIVEN WITH THE SEED: the statements are not yours to turn. If you find one false, say at which input.
  Laid BY PROGRAM, IN A SANDBOX (cutbox-rows.mjs): the forced cells as the released guide's own fill.sh prints them over the translation 9c887549961acf19… (all of the seat's roots in one cut). By AI agents, Wed Nov 11 2026. No macro, syntax, notation, axiom, sorry.
-/
import Derived.Test.YthknoffionodmaaChecked
import GoSem.Claim
import GoSem.ClaimJoined
import GoSem.ClaimMapViews
import Derived.JoinedTies
import Derived.KernelRfl
namespace Go.Proofs.Ythknoffionodmaa
/- THE CELL 'sum', in the pinned program and in every row, IS THE sha256 OF THE DUMP (.gsa) THAT YthknoffionodmaaProg.lean LOADS. Nothing in Lean hashes anything: it is a label: what it is worth is what the hold of that sum in a sandbox is worth. -/
noncomputable def Try.pinned : Pinned := { name := "ythknoffionodmaa", sum := "9c887549961acf19b86cf70e84a2c4378eca495f5067befbb9765eb9b114ad08", checked := Try.checked }
namespace Rows
def none {H : Type} : Left H := { results := [], args := [] }

/-- 'laws.FnExactQueuesOK': WHATEVER THE INPUT: true; the input reads as it did. -/
def fnExactQueuesOKSpec : ChangeSpec := { name := "fnExactQueuesOK", fn := fun _ => fun
  | [d] => { results := [.lit (.bool true)], args := [d] }
  | _ => none }
def fnExactQueuesOKRow : OpenClaim := { program := "ythknoffionodmaa", sum := "9c887549961acf19b86cf70e84a2c4378eca495f5067befbb9765eb9b114ad08", func := "loop.example/g00202/laws.FnExactQueuesOK", spec := "fnExactQueuesOK", apart := false }
def FnExactQueuesOKSaid : Prop := fnExactQueuesOKRow.holds Try.pinned (OpenSpec.ofChange fnExactQueuesOKSpec)

/-- ITS FALSE NEIGHBOUR: 'it returns false'. Refute it at one input. -/
def fnExactQueuesOKWrong : ChangeSpec := { name := "fnExactQueuesOK", fn := fun _ => fun
  | [d] => { results := [.lit (.bool false)], args := [d] }
  | _ => none }
def FnExactQueuesOKWrongFalsely : Prop := fnExactQueuesOKRow.holds Try.pinned (OpenSpec.ofChange fnExactQueuesOKWrong)

/-- 'laws.FnExactNewArea': WHATEVER THE INPUT: true; the input reads as it did. -/
def fnExactNewAreaSpec : ChangeSpec := { name := "fnExactNewArea", fn := fun _ => fun
  | [d1, d2] => { results := [.lit (.bool true)], args := [d1, d2] }
  | _ => none }
def fnExactNewAreaRow : OpenClaim := { program := "ythknoffionodmaa", sum := "9c887549961acf19b86cf70e84a2c4378eca495f5067befbb9765eb9b114ad08", func := "loop.example/g00202/laws.FnExactNewArea", spec := "fnExactNewArea", apart := false }
def FnExactNewAreaSaid : Prop := fnExactNewAreaRow.holds Try.pinned (OpenSpec.ofChange fnExactNewAreaSpec)

/-- ITS FALSE NEIGHBOUR: 'it returns false'. Refute it at one input. -/
def fnExactNewAreaWrong : ChangeSpec := { name := "fnExactNewArea", fn := fun _ => fun
  | [d1, d2] => { results := [.lit (.bool false)], args := [d1, d2] }
  | _ => none }
def FnExactNewAreaWrongFalsely : Prop := fnExactNewAreaRow.holds Try.pinned (OpenSpec.ofChange fnExactNewAreaWrong)

/-- 'laws.FnExactAreaOK': WHATEVER THE INPUT: true; the input reads as it did. -/
def fnExactAreaOKSpec : ChangeSpec := { name := "fnExactAreaOK", fn := fun _ => fun
  | [d] => { results := [.lit (.bool true)], args := [d] }
  | _ => none }
def fnExactAreaOKRow : OpenClaim := { program := "ythknoffionodmaa", sum := "9c887549961acf19b86cf70e84a2c4378eca495f5067befbb9765eb9b114ad08", func := "loop.example/g00202/laws.FnExactAreaOK", spec := "fnExactAreaOK", unfollowed := true, recurses := true, apart := false }
def FnExactAreaOKSaid : Prop := fnExactAreaOKRow.holds Try.pinned (OpenSpec.ofChange fnExactAreaOKSpec)

/-- ITS FALSE NEIGHBOUR: 'it returns false'. Refute it at one input. -/
def fnExactAreaOKWrong : ChangeSpec := { name := "fnExactAreaOK", fn := fun _ => fun
  | [d] => { results := [.lit (.bool false)], args := [d] }
  | _ => none }
def FnExactAreaOKWrongFalsely : Prop := fnExactAreaOKRow.holds Try.pinned (OpenSpec.ofChange fnExactAreaOKWrong)

/-- 'laws.FnExactAdvert': WHATEVER THE INPUT: true; the input reads as it did. -/
def fnExactAdvertSpec : ChangeSpec := { name := "fnExactAdvert", fn := fun _ => fun
  | [d1, d2, d3] => { results := [.lit (.bool true)], args := [d1, d2, d3] }
  | _ => none }
def fnExactAdvertRow : OpenClaim := { program := "ythknoffionodmaa", sum := "9c887549961acf19b86cf70e84a2c4378eca495f5067befbb9765eb9b114ad08", func := "loop.example/g00202/laws.FnExactAdvert", spec := "fnExactAdvert", unfollowed := true, recurses := true, apart := false }
def FnExactAdvertSaid : Prop := fnExactAdvertRow.holds Try.pinned (OpenSpec.ofChange fnExactAdvertSpec)

/-- ITS FALSE NEIGHBOUR: 'it returns false'. Refute it at one input. -/
def fnExactAdvertWrong : ChangeSpec := { name := "fnExactAdvert", fn := fun _ => fun
  | [d1, d2, d3] => { results := [.lit (.bool false)], args := [d1, d2, d3] }
  | _ => none }
def FnExactAdvertWrongFalsely : Prop := fnExactAdvertRow.holds Try.pinned (OpenSpec.ofChange fnExactAdvertWrong)

/-- 'laws.FnExactDistances': WHATEVER THE INPUT: true; the input reads as it did. -/
def fnExactDistancesSpec : ChangeSpec := { name := "fnExactDistances", fn := fun _ => fun
  | [d] => { results := [.lit (.bool true)], args := [d] }
  | _ => none }
def fnExactDistancesRow : OpenClaim := { program := "ythknoffionodmaa", sum := "9c887549961acf19b86cf70e84a2c4378eca495f5067befbb9765eb9b114ad08", func := "loop.example/g00202/laws.FnExactDistances", spec := "fnExactDistances", unfollowed := true, recurses := true, apart := false }
def FnExactDistancesSaid : Prop := fnExactDistancesRow.holds Try.pinned (OpenSpec.ofChange fnExactDistancesSpec)

/-- ITS FALSE NEIGHBOUR: 'it returns false'. Refute it at one input. -/
def fnExactDistancesWrong : ChangeSpec := { name := "fnExactDistances", fn := fun _ => fun
  | [d] => { results := [.lit (.bool false)], args := [d] }
  | _ => none }
def FnExactDistancesWrongFalsely : Prop := fnExactDistancesRow.holds Try.pinned (OpenSpec.ofChange fnExactDistancesWrong)

/-- 'laws.FnDistances': WHATEVER THE INPUT: true; the input reads as it did. -/
def fnDistancesSpec : ChangeSpec := { name := "fnDistances", fn := fun _ => fun
  | [d] => { results := [.lit (.bool true)], args := [d] }
  | _ => none }
def fnDistancesRow : OpenClaim := { program := "ythknoffionodmaa", sum := "9c887549961acf19b86cf70e84a2c4378eca495f5067befbb9765eb9b114ad08", func := "loop.example/g00202/laws.FnDistances", spec := "fnDistances", unfollowed := true, recurses := true, apart := false }
def FnDistancesSaid : Prop := fnDistancesRow.holds Try.pinned (OpenSpec.ofChange fnDistancesSpec)

/-- ITS FALSE NEIGHBOUR: 'it returns false'. Refute it at one input. -/
def fnDistancesWrong : ChangeSpec := { name := "fnDistances", fn := fun _ => fun
  | [d] => { results := [.lit (.bool false)], args := [d] }
  | _ => none }
def FnDistancesWrongFalsely : Prop := fnDistancesRow.holds Try.pinned (OpenSpec.ofChange fnDistancesWrong)

/-- 'laws.FnExactExpire': WHATEVER THE INPUT: true; the input reads as it did. -/
def fnExactExpireSpec : ChangeSpec := { name := "fnExactExpire", fn := fun _ => fun
  | [d1, d2] => { results := [.lit (.bool true)], args := [d1, d2] }
  | _ => none }
def fnExactExpireRow : OpenClaim := { program := "ythknoffionodmaa", sum := "9c887549961acf19b86cf70e84a2c4378eca495f5067befbb9765eb9b114ad08", func := "loop.example/g00202/laws.FnExactExpire", spec := "fnExactExpire", apart := false }
def FnExactExpireSaid : Prop := fnExactExpireRow.holds Try.pinned (OpenSpec.ofChange fnExactExpireSpec)

/-- ITS FALSE NEIGHBOUR: 'it returns false'. Refute it at one input. -/
def fnExactExpireWrong : ChangeSpec := { name := "fnExactExpire", fn := fun _ => fun
  | [d1, d2] => { results := [.lit (.bool false)], args := [d1, d2] }
  | _ => none }
def FnExactExpireWrongFalsely : Prop := fnExactExpireRow.holds Try.pinned (OpenSpec.ofChange fnExactExpireWrong)

/-- 'laws.FnExpires': WHATEVER THE INPUT: true; the input reads as it did. -/
def fnExpiresSpec : ChangeSpec := { name := "fnExpires", fn := fun _ => fun
  | [d1, d2] => { results := [.lit (.bool true)], args := [d1, d2] }
  | _ => none }
def fnExpiresRow : OpenClaim := { program := "ythknoffionodmaa", sum := "9c887549961acf19b86cf70e84a2c4378eca495f5067befbb9765eb9b114ad08", func := "loop.example/g00202/laws.FnExpires", spec := "fnExpires", apart := false }
def FnExpiresSaid : Prop := fnExpiresRow.holds Try.pinned (OpenSpec.ofChange fnExpiresSpec)

/-- ITS FALSE NEIGHBOUR: 'it returns false'. Refute it at one input. -/
def fnExpiresWrong : ChangeSpec := { name := "fnExpires", fn := fun _ => fun
  | [d1, d2] => { results := [.lit (.bool false)], args := [d1, d2] }
  | _ => none }
def FnExpiresWrongFalsely : Prop := fnExpiresRow.holds Try.pinned (OpenSpec.ofChange fnExpiresWrong)

/-- 'laws.FnExactTrieOK': WHATEVER THE INPUT: true; the input reads as it did. -/
def fnExactTrieOKSpec : ChangeSpec := { name := "fnExactTrieOK", fn := fun _ => fun
  | [d] => { results := [.lit (.bool true)], args := [d] }
  | _ => none }
def fnExactTrieOKRow : OpenClaim := { program := "ythknoffionodmaa", sum := "9c887549961acf19b86cf70e84a2c4378eca495f5067befbb9765eb9b114ad08", func := "loop.example/g00202/laws.FnExactTrieOK", spec := "fnExactTrieOK", recurses := true, loops := true, apart := false }
def FnExactTrieOKSaid : Prop := fnExactTrieOKRow.holds Try.pinned (OpenSpec.ofChange fnExactTrieOKSpec)

/-- ITS FALSE NEIGHBOUR: 'it returns false'. Refute it at one input. -/
def fnExactTrieOKWrong : ChangeSpec := { name := "fnExactTrieOK", fn := fun _ => fun
  | [d] => { results := [.lit (.bool false)], args := [d] }
  | _ => none }
def FnExactTrieOKWrongFalsely : Prop := fnExactTrieOKRow.holds Try.pinned (OpenSpec.ofChange fnExactTrieOKWrong)

/-- 'laws.FnExactTrieRoutes': WHATEVER THE INPUT: true; the input reads as it did. -/
def fnExactTrieRoutesSpec : ChangeSpec := { name := "fnExactTrieRoutes", fn := fun _ => fun
  | [d] => { results := [.lit (.bool true)], args := [d] }
  | _ => none }
def fnExactTrieRoutesRow : OpenClaim := { program := "ythknoffionodmaa", sum := "9c887549961acf19b86cf70e84a2c4378eca495f5067befbb9765eb9b114ad08", func := "loop.example/g00202/laws.FnExactTrieRoutes", spec := "fnExactTrieRoutes", recurses := true, loops := true, apart := false }
def FnExactTrieRoutesSaid : Prop := fnExactTrieRoutesRow.holds Try.pinned (OpenSpec.ofChange fnExactTrieRoutesSpec)

/-- ITS FALSE NEIGHBOUR: 'it returns false'. Refute it at one input. -/
def fnExactTrieRoutesWrong : ChangeSpec := { name := "fnExactTrieRoutes", fn := fun _ => fun
  | [d] => { results := [.lit (.bool false)], args := [d] }
  | _ => none }
def FnExactTrieRoutesWrongFalsely : Prop := fnExactTrieRoutesRow.holds Try.pinned (OpenSpec.ofChange fnExactTrieRoutesWrong)

/-- 'laws.FnErrors': WHATEVER THE INPUT: true; the input reads as it did. -/
def fnErrorsSpec : ChangeSpec := { name := "fnErrors", fn := fun _ => fun
  | [d1, d2] => { results := [.lit (.bool true)], args := [d1, d2] }
  | _ => none }
def fnErrorsRow : OpenClaim := { program := "ythknoffionodmaa", sum := "9c887549961acf19b86cf70e84a2c4378eca495f5067befbb9765eb9b114ad08", func := "loop.example/g00202/laws.FnErrors", spec := "fnErrors", unfollowed := true, recurses := true, apart := false }
def FnErrorsSaid : Prop := fnErrorsRow.holds Try.pinned (OpenSpec.ofChange fnErrorsSpec)

/-- ITS FALSE NEIGHBOUR: 'it returns false'. Refute it at one input. -/
def fnErrorsWrong : ChangeSpec := { name := "fnErrors", fn := fun _ => fun
  | [d1, d2] => { results := [.lit (.bool false)], args := [d1, d2] }
  | _ => none }
def FnErrorsWrongFalsely : Prop := fnErrorsRow.holds Try.pinned (OpenSpec.ofChange fnErrorsWrong)

/-- 'laws.FnExactNodeOK': WHATEVER THE INPUT: true; the input reads as it did. -/
def fnExactNodeOKSpec : ChangeSpec := { name := "fnExactNodeOK", fn := fun _ => fun
  | [d] => { results := [.lit (.bool true)], args := [d] }
  | _ => none }
def fnExactNodeOKRow : OpenClaim := { program := "ythknoffionodmaa", sum := "9c887549961acf19b86cf70e84a2c4378eca495f5067befbb9765eb9b114ad08", func := "loop.example/g00202/laws.FnExactNodeOK", spec := "fnExactNodeOK", recurses := true, loops := true, apart := false }
def FnExactNodeOKSaid : Prop := fnExactNodeOKRow.holds Try.pinned (OpenSpec.ofChange fnExactNodeOKSpec)

/-- ITS FALSE NEIGHBOUR: 'it returns false'. Refute it at one input. -/
def fnExactNodeOKWrong : ChangeSpec := { name := "fnExactNodeOK", fn := fun _ => fun
  | [d] => { results := [.lit (.bool false)], args := [d] }
  | _ => none }
def FnExactNodeOKWrongFalsely : Prop := fnExactNodeOKRow.holds Try.pinned (OpenSpec.ofChange fnExactNodeOKWrong)

/- THE SECOND FORM. 'bulk': how many values and letters a reading holds, each counted each time it is reached (what is shared counts as often as it is met; a slice's spare places count too). A statement '..UptoSaid' is the law's where the arguments, and the package variables that the reading takes, are together of bulk at most 1048576: NARROWER than '..Said'. Prove '..Said' where nothing that the law and all that it calls make is longer than what came in: it says more and counts as full. Else prove '..UptoSaid'. A law counts once. -/
mutual
def uptoBulk {H : Type} : DataW H → Nat
  | .lit (.string bytes) => bytes.length + 1
  | .lit _ => 1
  | .nil => 1
  | .ptr d => uptoBulk d + 1
  | .slice elems spare => uptoBulkAll elems + uptoBulkAll spare + 1
  | .agg parts => uptoBulkAll parts + 1
  | .iface _ d => uptoBulk d + 1
  | .map entries => uptoBulkEntries entries + 1
  | .held _ => 1
def uptoBulkAll {H : Type} : List (DataW H) → Nat
  | [] => 0
  | d :: r => uptoBulk d + uptoBulkAll r
def uptoBulkEntries {H : Type} : List (Lit × DataW H) → Nat
  | [] => 0
  | x :: r => uptoBulkEntry x + uptoBulkEntries r
def uptoBulkEntry {H : Type} : Lit × DataW H → Nat
  | (.string bytes, d) => bytes.length + uptoBulk d + 1
  | (_, d) => uptoBulk d + 1
 end
def uptoSmall : (H : Type) → List (DataW H) → Bool := fun _ ds => decide (uptoBulkAll ds ≤ 1048576)
def OpenSpec.upto (s : _root_.Go.ChangeSpec) : _root_.Go.OpenSpec := { _root_.Go.OpenSpec.ofChange s with cond := some uptoSmall }

/-- 'laws.FnExactQueuesOK', WHERE WHAT IT READS IS OF BULK AT MOST 1048576: true; the input reads as it did. -/
def fnExactQueuesOKUptoRow : OpenClaim := { program := "ythknoffionodmaa", sum := "9c887549961acf19b86cf70e84a2c4378eca495f5067befbb9765eb9b114ad08", func := "loop.example/g00202/laws.FnExactQueuesOK", spec := "fnExactQueuesOK", apart := false, narrowed := true }
def FnExactQueuesOKUptoSaid : Prop := fnExactQueuesOKUptoRow.holds Try.pinned (OpenSpec.upto fnExactQueuesOKSpec)

/-- 'laws.FnExactNewArea', WHERE WHAT IT READS IS OF BULK AT MOST 1048576: true; the input reads as it did. -/
def fnExactNewAreaUptoRow : OpenClaim := { program := "ythknoffionodmaa", sum := "9c887549961acf19b86cf70e84a2c4378eca495f5067befbb9765eb9b114ad08", func := "loop.example/g00202/laws.FnExactNewArea", spec := "fnExactNewArea", apart := false, narrowed := true }
def FnExactNewAreaUptoSaid : Prop := fnExactNewAreaUptoRow.holds Try.pinned (OpenSpec.upto fnExactNewAreaSpec)

/-- 'laws.FnExactAreaOK', WHERE WHAT IT READS IS OF BULK AT MOST 1048576: true; the input reads as it did. -/
def fnExactAreaOKUptoRow : OpenClaim := { program := "ythknoffionodmaa", sum := "9c887549961acf19b86cf70e84a2c4378eca495f5067befbb9765eb9b114ad08", func := "loop.example/g00202/laws.FnExactAreaOK", spec := "fnExactAreaOK", unfollowed := true, recurses := true, apart := false, narrowed := true }
def FnExactAreaOKUptoSaid : Prop := fnExactAreaOKUptoRow.holds Try.pinned (OpenSpec.upto fnExactAreaOKSpec)

/-- 'laws.FnExactAdvert', WHERE WHAT IT READS IS OF BULK AT MOST 1048576: true; the input reads as it did. -/
def fnExactAdvertUptoRow : OpenClaim := { program := "ythknoffionodmaa", sum := "9c887549961acf19b86cf70e84a2c4378eca495f5067befbb9765eb9b114ad08", func := "loop.example/g00202/laws.FnExactAdvert", spec := "fnExactAdvert", unfollowed := true, recurses := true, apart := false, narrowed := true }
def FnExactAdvertUptoSaid : Prop := fnExactAdvertUptoRow.holds Try.pinned (OpenSpec.upto fnExactAdvertSpec)

/-- 'laws.FnExactDistances', WHERE WHAT IT READS IS OF BULK AT MOST 1048576: true; the input reads as it did. -/
def fnExactDistancesUptoRow : OpenClaim := { program := "ythknoffionodmaa", sum := "9c887549961acf19b86cf70e84a2c4378eca495f5067befbb9765eb9b114ad08", func := "loop.example/g00202/laws.FnExactDistances", spec := "fnExactDistances", unfollowed := true, recurses := true, apart := false, narrowed := true }
def FnExactDistancesUptoSaid : Prop := fnExactDistancesUptoRow.holds Try.pinned (OpenSpec.upto fnExactDistancesSpec)

/-- 'laws.FnDistances', WHERE WHAT IT READS IS OF BULK AT MOST 1048576: true; the input reads as it did. -/
def fnDistancesUptoRow : OpenClaim := { program := "ythknoffionodmaa", sum := "9c887549961acf19b86cf70e84a2c4378eca495f5067befbb9765eb9b114ad08", func := "loop.example/g00202/laws.FnDistances", spec := "fnDistances", unfollowed := true, recurses := true, apart := false, narrowed := true }
def FnDistancesUptoSaid : Prop := fnDistancesUptoRow.holds Try.pinned (OpenSpec.upto fnDistancesSpec)

/-- 'laws.FnExactExpire', WHERE WHAT IT READS IS OF BULK AT MOST 1048576: true; the input reads as it did. -/
def fnExactExpireUptoRow : OpenClaim := { program := "ythknoffionodmaa", sum := "9c887549961acf19b86cf70e84a2c4378eca495f5067befbb9765eb9b114ad08", func := "loop.example/g00202/laws.FnExactExpire", spec := "fnExactExpire", apart := false, narrowed := true }
def FnExactExpireUptoSaid : Prop := fnExactExpireUptoRow.holds Try.pinned (OpenSpec.upto fnExactExpireSpec)

/-- 'laws.FnExpires', WHERE WHAT IT READS IS OF BULK AT MOST 1048576: true; the input reads as it did. -/
def fnExpiresUptoRow : OpenClaim := { program := "ythknoffionodmaa", sum := "9c887549961acf19b86cf70e84a2c4378eca495f5067befbb9765eb9b114ad08", func := "loop.example/g00202/laws.FnExpires", spec := "fnExpires", apart := false, narrowed := true }
def FnExpiresUptoSaid : Prop := fnExpiresUptoRow.holds Try.pinned (OpenSpec.upto fnExpiresSpec)

/-- 'laws.FnExactTrieOK', WHERE WHAT IT READS IS OF BULK AT MOST 1048576: true; the input reads as it did. -/
def fnExactTrieOKUptoRow : OpenClaim := { program := "ythknoffionodmaa", sum := "9c887549961acf19b86cf70e84a2c4378eca495f5067befbb9765eb9b114ad08", func := "loop.example/g00202/laws.FnExactTrieOK", spec := "fnExactTrieOK", recurses := true, loops := true, apart := false, narrowed := true }
def FnExactTrieOKUptoSaid : Prop := fnExactTrieOKUptoRow.holds Try.pinned (OpenSpec.upto fnExactTrieOKSpec)

/-- 'laws.FnExactTrieRoutes', WHERE WHAT IT READS IS OF BULK AT MOST 1048576: true; the input reads as it did. -/
def fnExactTrieRoutesUptoRow : OpenClaim := { program := "ythknoffionodmaa", sum := "9c887549961acf19b86cf70e84a2c4378eca495f5067befbb9765eb9b114ad08", func := "loop.example/g00202/laws.FnExactTrieRoutes", spec := "fnExactTrieRoutes", recurses := true, loops := true, apart := false, narrowed := true }
def FnExactTrieRoutesUptoSaid : Prop := fnExactTrieRoutesUptoRow.holds Try.pinned (OpenSpec.upto fnExactTrieRoutesSpec)

/-- 'laws.FnErrors', WHERE WHAT IT READS IS OF BULK AT MOST 1048576: true; the input reads as it did. -/
def fnErrorsUptoRow : OpenClaim := { program := "ythknoffionodmaa", sum := "9c887549961acf19b86cf70e84a2c4378eca495f5067befbb9765eb9b114ad08", func := "loop.example/g00202/laws.FnErrors", spec := "fnErrors", unfollowed := true, recurses := true, apart := false, narrowed := true }
def FnErrorsUptoSaid : Prop := fnErrorsUptoRow.holds Try.pinned (OpenSpec.upto fnErrorsSpec)

/-- 'laws.FnExactNodeOK', WHERE WHAT IT READS IS OF BULK AT MOST 1048576: true; the input reads as it did. -/
def fnExactNodeOKUptoRow : OpenClaim := { program := "ythknoffionodmaa", sum := "9c887549961acf19b86cf70e84a2c4378eca495f5067befbb9765eb9b114ad08", func := "loop.example/g00202/laws.FnExactNodeOK", spec := "fnExactNodeOK", recurses := true, loops := true, apart := false, narrowed := true }
def FnExactNodeOKUptoSaid : Prop := fnExactNodeOKUptoRow.holds Try.pinned (OpenSpec.upto fnExactNodeOKSpec)

end Rows
end Go.Proofs.Ythknoffionodmaa

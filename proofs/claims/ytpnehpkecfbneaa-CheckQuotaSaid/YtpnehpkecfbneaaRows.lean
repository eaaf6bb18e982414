/-
  No cell of these rows narrows 'for every input' (looked for: loops, veiled, ifaces, maps, wideKeys, modest, calm, conditions, laid).
  DERIVED. THE GIVEN ROWS OF THIS SEAT. 5 by the template 'for every input the law returns true; each argument reads behind the call as it read before'; 0 by the template 'total and deterministic' (their statements: YtpnehpkecfbneaaTotals.lean).
  GIVEN WITH THE SEED: the statements are not yours to turn. If you find one false, say at which input.
  Laid BY PROGRAM, IN A SANDBOX (cutbox-rows.mjs): the forced cells as the released guide's own fill.sh prints them over the translation 1082c205bc3f077b… (all of the seat's roots in one cut). By AI agents, Wed Nov 11 2026. No macro, syntax, notation, axiom, sorry.
-/
import Derived.Test.YtpnehpkecfbneaaChecked
import GoSem.Claim
import GoSem.ClaimJoined
import GoSem.ClaimMapViews
import Derived.JoinedTies
import Derived.KernelRfl
namespace Go.Proofs.Ytpnehpkecfbneaa
/- THE CELL 'sum', in the pinned program and in every row, IS THE sha256 OF THE DUMP (.gsa) THAT YtpnehpkecfbneaaProg.lean LOADS. Nothing in Lean hashes anything: it is a label: what it is worth is what the hold of that sum in a sandbox is worth. -/
noncomputable def Try.pinned : Pinned := { name := "ytpnehpkecfbneaa", sum := "1082c205bc3f077bf1e7ee648c939760d7840b848c3438130611cda440f46c71", checked := Try.checked }
namespace Rows
def none {H : Type} : Left H := { results := [], args := [] }

/-- 'lodgerlaw04.CheckTells': WHATEVER THE INPUT: true; the input reads as it did. -/
def checkTellsSpec : ChangeSpec := { name := "checkTells", fn := fun _ => fun
  | [d1, d2, d3] => { results := [.lit (.bool true)], args := [d1, d2, d3] }
  | _ => none }
def checkTellsRow : OpenClaim := { program := "ytpnehpkecfbneaa", sum := "1082c205bc3f077bf1e7ee648c939760d7840b848c3438130611cda440f46c71", func := "lodger/lodgerlaw04.CheckTells", spec := "checkTells", inPlace := ["math.Float64bits", "math.Float64frombits", "math.archFloor", "math.archTrunc"], unfollowed := true, recurses := true, apart := false }
def CheckTellsSaid : Prop := checkTellsRow.holds Try.pinned (OpenSpec.ofChange checkTellsSpec)

/-- ITS FALSE NEIGHBOUR: 'it returns false'. Refute it at one input. -/
def checkTellsWrong : ChangeSpec := { name := "checkTells", fn := fun _ => fun
  | [d1, d2, d3] => { results := [.lit (.bool false)], args := [d1, d2, d3] }
  | _ => none }
def CheckTellsWrongFalsely : Prop := checkTellsRow.holds Try.pinned (OpenSpec.ofChange checkTellsWrong)

/-- 'lodgerlaw04.CheckParts': WHATEVER THE INPUT: true; the input reads as it did. -/
def checkPartsSpec : ChangeSpec := { name := "checkParts", fn := fun _ => fun
  | [d1, d2, d3] => { results := [.lit (.bool true)], args := [d1, d2, d3] }
  | _ => none }
def checkPartsRow : OpenClaim := { program := "ytpnehpkecfbneaa", sum := "1082c205bc3f077bf1e7ee648c939760d7840b848c3438130611cda440f46c71", func := "lodger/lodgerlaw04.CheckParts", spec := "checkParts", inPlace := ["math.Float64frombits", "math.Float64bits", "math.archFloor", "math.archTrunc"], unfollowed := true, recurses := true, apart := false }
def CheckPartsSaid : Prop := checkPartsRow.holds Try.pinned (OpenSpec.ofChange checkPartsSpec)

/-- ITS FALSE NEIGHBOUR: 'it returns false'. Refute it at one input. -/
def checkPartsWrong : ChangeSpec := { name := "checkParts", fn := fun _ => fun
  | [d1, d2, d3] => { results := [.lit (.bool false)], args := [d1, d2, d3] }
  | _ => none }
def CheckPartsWrongFalsely : Prop := checkPartsRow.holds Try.pinned (OpenSpec.ofChange checkPartsWrong)

/-- 'lodgerlaw04.CheckQuota': WHATEVER THE INPUT: true; the input reads as it did. -/
def checkQuotaSpec : ChangeSpec := { name := "checkQuota", fn := fun _ => fun
  | [d1, d2] => { results := [.lit (.bool true)], args := [d1, d2] }
  | _ => none }
def checkQuotaRow : OpenClaim := { program := "ytpnehpkecfbneaa", sum := "1082c205bc3f077bf1e7ee648c939760d7840b848c3438130611cda440f46c71", func := "lodger/lodgerlaw04.CheckQuota", spec := "checkQuota", inPlace := ["math.Float64bits", "math.Float64frombits", "math.archFloor", "math.archTrunc"], unfollowed := true, recurses := true, apart := false }
def CheckQuotaSaid : Prop := checkQuotaRow.holds Try.pinned (OpenSpec.ofChange checkQuotaSpec)

/-- ITS FALSE NEIGHBOUR: 'it returns false'. Refute it at one input. -/
def checkQuotaWrong : ChangeSpec := { name := "checkQuota", fn := fun _ => fun
  | [d1, d2] => { results := [.lit (.bool false)], args := [d1, d2] }
  | _ => none }
def CheckQuotaWrongFalsely : Prop := checkQuotaRow.holds Try.pinned (OpenSpec.ofChange checkQuotaWrong)

/-- 'lodgerlaw04.CheckEach': WHATEVER THE INPUT: true; the input reads as it did. -/
def checkEachSpec : ChangeSpec := { name := "checkEach", fn := fun _ => fun
  | [d1, d2, d3] => { results := [.lit (.bool true)], args := [d1, d2, d3] }
  | _ => none }
def checkEachRow : OpenClaim := { program := "ytpnehpkecfbneaa", sum := "1082c205bc3f077bf1e7ee648c939760d7840b848c3438130611cda440f46c71", func := "lodger/lodgerlaw04.CheckEach", spec := "checkEach", inPlace := ["math.Float64bits", "math.Float64frombits", "math.archFloor", "math.archTrunc"], unfollowed := true, recurses := true, apart := false }
def CheckEachSaid : Prop := checkEachRow.holds Try.pinned (OpenSpec.ofChange checkEachSpec)

/-- ITS FALSE NEIGHBOUR: 'it returns false'. Refute it at one input. -/
def checkEachWrong : ChangeSpec := { name := "checkEach", fn := fun _ => fun
  | [d1, d2, d3] => { results := [.lit (.bool false)], args := [d1, d2, d3] }
  | _ => none }
def CheckEachWrongFalsely : Prop := checkEachRow.holds Try.pinned (OpenSpec.ofChange checkEachWrong)

/-- 'lodgerlaw04.CheckBytes': WHATEVER THE INPUT: true; the input reads as it did. -/
def checkBytesSpec : ChangeSpec := { name := "checkBytes", fn := fun _ => fun
  | [d] => { results := [.lit (.bool true)], args := [d] }
  | _ => none }
def checkBytesRow : OpenClaim := { program := "ytpnehpkecfbneaa", sum := "1082c205bc3f077bf1e7ee648c939760d7840b848c3438130611cda440f46c71", func := "lodger/lodgerlaw04.CheckBytes", spec := "checkBytes", inPlace := ["math.Float64frombits", "math.Float64bits", "math.archFloor", "math.archTrunc"], unfollowed := true, recurses := true, apart := false }
def CheckBytesSaid : Prop := checkBytesRow.holds Try.pinned (OpenSpec.ofChange checkBytesSpec)

/-- ITS FALSE NEIGHBOUR: 'it returns false'. Refute it at one input. -/
def checkBytesWrong : ChangeSpec := { name := "checkBytes", fn := fun _ => fun
  | [d] => { results := [.lit (.bool false)], args := [d] }
  | _ => none }
def CheckBytesWrongFalsely : Prop := checkBytesRow.holds Try.pinned (OpenSpec.ofChange checkBytesWrong)

/- THE SECOND FORM. 'bulk': how many values and letters a reading holds, each counted each time it is reached (what is shared counts as often as it is met; a slice's spare places count too). A statement '..UptoSaid' is the law's where the arguments, and the package variables that the reading takes, are together of bulk at most 1048576: NARROWER than '..Said'. Prove '..Said' where nothing that the law and all that it calls make is longer than what came in: it says more and counts as full. Else prove '..UptoSaid'. A law counts once. -/
mutual
def uptoBulk {H : Type} : DataW H → Nat
  | .lit (.string bytes) => bytes.length + 1
  | .lit _ => 1
  | .nil => 1
  | .ptr d => uptoBulk d + 1
  | .slice elems spare => uptoBulkAll elems + uptoBulkAll spare + 1
  | .agg parts => uptoBulkAll parts + 1
  | .iface _ d => uptoBulk d + 1
  | .map entries => uptoBulkEntries entries + 1
  | .held _ => 1
def uptoBulkAll {H : Type} : List (DataW H) → Nat
  | [] => 0
  | d :: r => uptoBulk d + uptoBulkAll r
def uptoBulkEntries {H : Type} : List (Lit × DataW H) → Nat
  | [] => 0
  | x :: r => uptoBulkEntry x + uptoBulkEntries r
def uptoBulkEntry {H : Type} : Lit × DataW H → Nat
  | (.string bytes, d) => bytes.length + uptoBulk d + 1
  | (_, d) => uptoBulk d + 1
 end
def uptoSmall : (H : Type) → List (DataW H) → Bool := fun _ ds => decide (uptoBulkAll ds ≤ 1048576)
def OpenSpec.upto (s : _root_.Go.ChangeSpec) : _root_.Go.OpenSpec := { _root_.Go.OpenSpec.ofChange s with cond := some uptoSmall }

/-- 'lodgerlaw04.CheckTells', WHERE WHAT IT READS IS OF BULK AT MOST 1048576: true; the input reads as it did. -/
def checkTellsUptoRow : OpenClaim := { program := "ytpnehpkecfbneaa", sum := "1082c205bc3f077bf1e7ee648c939760d7840b848c3438130611cda440f46c71", func := "lodger/lodgerlaw04.CheckTells", spec := "checkTells", inPlace := ["math.Float64bits", "math.Float64frombits", "math.archFloor", "math.archTrunc"], unfollowed := true, recurses := true, apart := false, narrowed := true }
def CheckTellsUptoSaid : Prop := checkTellsUptoRow.holds Try.pinned (OpenSpec.upto checkTellsSpec)

/-- 'lodgerlaw04.CheckParts', WHERE WHAT IT READS IS OF BULK AT MOST 1048576: true; the input reads as it did. -/
def checkPartsUptoRow : OpenClaim := { program := "ytpnehpkecfbneaa", sum := "1082c205bc3f077bf1e7ee648c939760d7840b848c3438130611cda440f46c71", func := "lodger/lodgerlaw04.CheckParts", spec := "checkParts", inPlace := ["math.Float64frombits", "math.Float64bits", "math.archFloor", "math.archTrunc"], unfollowed := true, recurses := true, apart := false, narrowed := true }
def CheckPartsUptoSaid : Prop := checkPartsUptoRow.holds Try.pinned (OpenSpec.upto checkPartsSpec)

/-- 'lodgerlaw04.CheckQuota', WHERE WHAT IT READS IS OF BULK AT MOST 1048576: true; the input reads as it did. -/
def checkQuotaUptoRow : OpenClaim := { program := "ytpnehpkecfbneaa", sum := "1082c205bc3f077bf1e7ee648c939760d7840b848c3438130611cda440f46c71", func := "lodger/lodgerlaw04.CheckQuota", spec := "checkQuota", inPlace := ["math.Float64bits", "math.Float64frombits", "math.archFloor", "math.archTrunc"], unfollowed := true, recurses := true, apart := false, narrowed := true }
def CheckQuotaUptoSaid : Prop := checkQuotaUptoRow.holds Try.pinned (OpenSpec.upto checkQuotaSpec)

/-- 'lodgerlaw04.CheckEach', WHERE WHAT IT READS IS OF BULK AT MOST 1048576: true; the input reads as it did. -/
def checkEachUptoRow : OpenClaim := { program := "ytpnehpkecfbneaa", sum := "1082c205bc3f077bf1e7ee648c939760d7840b848c3438130611cda440f46c71", func := "lodger/lodgerlaw04.CheckEach", spec := "checkEach", inPlace := ["math.Float64bits", "math.Float64frombits", "math.archFloor", "math.archTrunc"], unfollowed := true, recurses := true, apart := false, narrowed := true }
def CheckEachUptoSaid : Prop := checkEachUptoRow.holds Try.pinned (OpenSpec.upto checkEachSpec)

/-- 'lodgerlaw04.CheckBytes', WHERE WHAT IT READS IS OF BULK AT MOST 1048576: true; the input reads as it did. -/
def checkBytesUptoRow : OpenClaim := { program := "ytpnehpkecfbneaa", sum := "1082c205bc3f077bf1e7ee648c939760d7840b848c3438130611cda440f46c71", func := "lodger/lodgerlaw04.CheckBytes", spec := "checkBytes", inPlace := ["math.Float64frombits", "math.Float64bits", "math.archFloor", "math.archTrunc"], unfollowed := true, recurses := true, apart := false, narrowed := true }
def CheckBytesUptoSaid : Prop := checkBytesUptoRow.holds Try.pinned (OpenSpec.upto checkBytesSpec)

end Rows
end Go.Proofs.Ytpnehpkecfbneaa

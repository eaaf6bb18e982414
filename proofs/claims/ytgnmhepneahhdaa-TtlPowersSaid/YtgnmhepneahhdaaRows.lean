/-
  No cell of these rows narrows 'for every input' (looked for: loops, veiled, ifaces, maps, wideKeys, modest, calm, conditions, laid).
  DERIVED. THE GIVEN ROWS OF THIS SEAT. 7 by the template 'for every input the law returns true; each argument reads behind the call as it read before'; 0 by the template 'total and deterministic' (their statements: YtgnmhepneahhdaaTotals.lean).
  GIVEN WITH THE SEED: the statements are not yours to turn. If you find one false, say at which input.
  Laid BY PROGRAM, IN A SANDBOX (cutbox-rows.mjs): the forced cells as the released guide's own fill.sh prints them over the translation 9e2aee53d30f27da… (all of the seat's roots in one cut). By AI agents, Wed Nov 11 2026. No macro, syntax, notation, axiom, sorry.
-/
import Derived.Test.YtgnmhepneahhdaaChecked
import GoSem.Claim
import GoSem.ClaimJoined
import GoSem.ClaimMapViews
import Derived.JoinedTies
import Derived.KernelRfl
namespace Go.Proofs.Ytgnmhepneahhdaa
/- THE CELL 'sum', in the pinned program and in every row, IS THE sha256 OF THE DUMP (.gsa) THAT YtgnmhepneahhdaaProg.lean LOADS. Nothing in Lean hashes anything: it is a label: what it is worth is what the hold of that sum in a sandbox is worth. -/
noncomputable def Try.pinned : Pinned := { name := "ytgnmhepneahhdaa", sum := "9e2aee53d30f27da2283b239dd0e75aba03b89e7f6bfd52097f7814732248d60", checked := Try.checked }
namespace Rows
def none {H : Type} : Left H := { results := [], args := [] }

/-- 'lodgerlaw03.TtlTells': WHATEVER THE INPUT: true; the input reads as it did. -/
def ttlTellsSpec : ChangeSpec := { name := "ttlTells", fn := fun _ => fun
  | [d1, d2, d3] => { results := [.lit (.bool true)], args := [d1, d2, d3] }
  | _ => none }
def ttlTellsRow : OpenClaim := { program := "ytgnmhepneahhdaa", sum := "9e2aee53d30f27da2283b239dd0e75aba03b89e7f6bfd52097f7814732248d60", func := "lodger/lodgerlaw03.TtlTells", spec := "ttlTells", inPlace := ["math.Float64bits", "math.Float64frombits", "math.archFloor", "math.archTrunc", "math/bits.Add64"], apart := false }
def TtlTellsSaid : Prop := ttlTellsRow.holds Try.pinned (OpenSpec.ofChange ttlTellsSpec)

/-- ITS FALSE NEIGHBOUR: 'it returns false'. Refute it at one input. -/
def ttlTellsWrong : ChangeSpec := { name := "ttlTells", fn := fun _ => fun
  | [d1, d2, d3] => { results := [.lit (.bool false)], args := [d1, d2, d3] }
  | _ => none }
def TtlTellsWrongFalsely : Prop := ttlTellsRow.holds Try.pinned (OpenSpec.ofChange ttlTellsWrong)

/-- 'lodgerlaw03.TtlBits': WHATEVER THE INPUT: true; the input reads as it did. -/
def ttlBitsSpec : ChangeSpec := { name := "ttlBits", fn := fun _ => fun
  | [d] => { results := [.lit (.bool true)], args := [d] }
  | _ => none }
def ttlBitsRow : OpenClaim := { program := "ytgnmhepneahhdaa", sum := "9e2aee53d30f27da2283b239dd0e75aba03b89e7f6bfd52097f7814732248d60", func := "lodger/lodgerlaw03.TtlBits", spec := "ttlBits", inPlace := ["math.Float64frombits", "math.Float64bits", "math.archFloor", "math.archTrunc", "math/bits.Add64"], apart := false }
def TtlBitsSaid : Prop := ttlBitsRow.holds Try.pinned (OpenSpec.ofChange ttlBitsSpec)

/-- ITS FALSE NEIGHBOUR: 'it returns false'. Refute it at one input. -/
def ttlBitsWrong : ChangeSpec := { name := "ttlBits", fn := fun _ => fun
  | [d] => { results := [.lit (.bool false)], args := [d] }
  | _ => none }
def TtlBitsWrongFalsely : Prop := ttlBitsRow.holds Try.pinned (OpenSpec.ofChange ttlBitsWrong)

/-- 'lodgerlaw03.TtlGrows': WHATEVER THE INPUT: true; the input reads as it did. -/
def ttlGrowsSpec : ChangeSpec := { name := "ttlGrows", fn := fun _ => fun
  | [d1, d2, d3] => { results := [.lit (.bool true)], args := [d1, d2, d3] }
  | _ => none }
def ttlGrowsRow : OpenClaim := { program := "ytgnmhepneahhdaa", sum := "9e2aee53d30f27da2283b239dd0e75aba03b89e7f6bfd52097f7814732248d60", func := "lodger/lodgerlaw03.TtlGrows", spec := "ttlGrows", inPlace := ["math.Float64bits", "math.Float64frombits", "math.archFloor", "math.archTrunc", "math/bits.Add64"], apart := false }
def TtlGrowsSaid : Prop := ttlGrowsRow.holds Try.pinned (OpenSpec.ofChange ttlGrowsSpec)

/-- ITS FALSE NEIGHBOUR: 'it returns false'. Refute it at one input. -/
def ttlGrowsWrong : ChangeSpec := { name := "ttlGrows", fn := fun _ => fun
  | [d1, d2, d3] => { results := [.lit (.bool false)], args := [d1, d2, d3] }
  | _ => none }
def TtlGrowsWrongFalsely : Prop := ttlGrowsRow.holds Try.pinned (OpenSpec.ofChange ttlGrowsWrong)

/-- 'lodgerlaw03.TtlWhole': WHATEVER THE INPUT: true; the input reads as it did. -/
def ttlWholeSpec : ChangeSpec := { name := "ttlWhole", fn := fun _ => fun
  | [d1, d2] => { results := [.lit (.bool true)], args := [d1, d2] }
  | _ => none }
def ttlWholeRow : OpenClaim := { program := "ytgnmhepneahhdaa", sum := "9e2aee53d30f27da2283b239dd0e75aba03b89e7f6bfd52097f7814732248d60", func := "lodger/lodgerlaw03.TtlWhole", spec := "ttlWhole", inPlace := ["math.Float64bits", "math.Float64frombits", "math.archFloor", "math.archTrunc", "math/bits.Add64"], apart := false }
def TtlWholeSaid : Prop := ttlWholeRow.holds Try.pinned (OpenSpec.ofChange ttlWholeSpec)

/-- ITS FALSE NEIGHBOUR: 'it returns false'. Refute it at one input. -/
def ttlWholeWrong : ChangeSpec := { name := "ttlWhole", fn := fun _ => fun
  | [d1, d2] => { results := [.lit (.bool false)], args := [d1, d2] }
  | _ => none }
def TtlWholeWrongFalsely : Prop := ttlWholeRow.holds Try.pinned (OpenSpec.ofChange ttlWholeWrong)

/-- 'lodgerlaw03.TtlLater': WHATEVER THE INPUT: true; the input reads as it did. -/
def ttlLaterSpec : ChangeSpec := { name := "ttlLater", fn := fun _ => fun
  | [d1, d2, d3] => { results := [.lit (.bool true)], args := [d1, d2, d3] }
  | _ => none }
def ttlLaterRow : OpenClaim := { program := "ytgnmhepneahhdaa", sum := "9e2aee53d30f27da2283b239dd0e75aba03b89e7f6bfd52097f7814732248d60", func := "lodger/lodgerlaw03.TtlLater", spec := "ttlLater", inPlace := ["math/bits.Add64", "math.Float64bits", "math.Float64frombits", "math.archFloor", "math.archTrunc"], apart := false }
def TtlLaterSaid : Prop := ttlLaterRow.holds Try.pinned (OpenSpec.ofChange ttlLaterSpec)

/-- ITS FALSE NEIGHBOUR: 'it returns false'. Refute it at one input. -/
def ttlLaterWrong : ChangeSpec := { name := "ttlLater", fn := fun _ => fun
  | [d1, d2, d3] => { results := [.lit (.bool false)], args := [d1, d2, d3] }
  | _ => none }
def TtlLaterWrongFalsely : Prop := ttlLaterRow.holds Try.pinned (OpenSpec.ofChange ttlLaterWrong)

/-- 'lodgerlaw03.TtlLeast': WHATEVER THE INPUT: true; the input reads as it did. -/
def ttlLeastSpec : ChangeSpec := { name := "ttlLeast", fn := fun _ => fun
  | [d1, d2] => { results := [.lit (.bool true)], args := [d1, d2] }
  | _ => none }
def ttlLeastRow : OpenClaim := { program := "ytgnmhepneahhdaa", sum := "9e2aee53d30f27da2283b239dd0e75aba03b89e7f6bfd52097f7814732248d60", func := "lodger/lodgerlaw03.TtlLeast", spec := "ttlLeast", inPlace := ["math.Float64bits", "math.Float64frombits", "math.archFloor", "math.archTrunc", "math/bits.Add64"], apart := false }
def TtlLeastSaid : Prop := ttlLeastRow.holds Try.pinned (OpenSpec.ofChange ttlLeastSpec)

/-- ITS FALSE NEIGHBOUR: 'it returns false'. Refute it at one input. -/
def ttlLeastWrong : ChangeSpec := { name := "ttlLeast", fn := fun _ => fun
  | [d1, d2] => { results := [.lit (.bool false)], args := [d1, d2] }
  | _ => none }
def TtlLeastWrongFalsely : Prop := ttlLeastRow.holds Try.pinned (OpenSpec.ofChange ttlLeastWrong)

/-- 'lodgerlaw03.TtlPowers': WHATEVER THE INPUT: true; the input reads as it did. -/
def ttlPowersSpec : ChangeSpec := { name := "ttlPowers", fn := fun _ => fun
  | [d] => { results := [.lit (.bool true)], args := [d] }
  | _ => none }
def ttlPowersRow : OpenClaim := { program := "ytgnmhepneahhdaa", sum := "9e2aee53d30f27da2283b239dd0e75aba03b89e7f6bfd52097f7814732248d60", func := "lodger/lodgerlaw03.TtlPowers", spec := "ttlPowers", inPlace := ["math.Float64frombits", "math.Float64bits", "math.archFloor", "math.archTrunc", "math/bits.Add64"], apart := false }
def TtlPowersSaid : Prop := ttlPowersRow.holds Try.pinned (OpenSpec.ofChange ttlPowersSpec)

/-- ITS FALSE NEIGHBOUR: 'it returns false'. Refute it at one input. -/
def ttlPowersWrong : ChangeSpec := { name := "ttlPowers", fn := fun _ => fun
  | [d] => { results := [.lit (.bool false)], args := [d] }
  | _ => none }
def TtlPowersWrongFalsely : Prop := ttlPowersRow.holds Try.pinned (OpenSpec.ofChange ttlPowersWrong)

/- THE SECOND FORM. 'bulk': how many values and letters a reading holds, each counted each time it is reached (what is shared counts as often as it is met; a slice's spare places count too). A statement '..UptoSaid' is the law's where the arguments, and the package variables that the reading takes, are together of bulk at most 1048576: NARROWER than '..Said'. Prove '..Said' where nothing that the law and all that it calls make is longer than what came in: it says more and counts as full. Else prove '..UptoSaid'. A law counts once. -/
mutual
def uptoBulk {H : Type} : DataW H → Nat
  | .lit (.string bytes) => bytes.length + 1
  | .lit _ => 1
  | .nil => 1
  | .ptr d => uptoBulk d + 1
  | .slice elems spare => uptoBulkAll elems + uptoBulkAll spare + 1
  | .agg parts => uptoBulkAll parts + 1
  | .iface _ d => uptoBulk d + 1
  | .map entries => uptoBulkEntries entries + 1
  | .held _ => 1
def uptoBulkAll {H : Type} : List (DataW H) → Nat
  | [] => 0
  | d :: r => uptoBulk d + uptoBulkAll r
def uptoBulkEntries {H : Type} : List (Lit × DataW H) → Nat
  | [] => 0
  | x :: r => uptoBulkEntry x + uptoBulkEntries r
def uptoBulkEntry {H : Type} : Lit × DataW H → Nat
  | (.string bytes, d) => bytes.length + uptoBulk d + 1
  | (_, d) => uptoBulk d + 1
 end
def uptoSmall : (H : Type) → List (DataW H) → Bool := fun _ ds => decide (uptoBulkAll ds ≤ 1048576)
def OpenSpec.upto (s : _root_.Go.ChangeSpec) : _root_.Go.OpenSpec := { _root_.Go.OpenSpec.ofChange s with cond := some uptoSmall }

/-- 'lodgerlaw03.TtlTells', WHERE WHAT IT READS IS OF BULK AT MOST 1048576: true; the input reads as it did. -/
def ttlTellsUptoRow : OpenClaim := { program := "ytgnmhepneahhdaa", sum := "9e2aee53d30f27da2283b239dd0e75aba03b89e7f6bfd52097f7814732248d60", func := "lodger/lodgerlaw03.TtlTells", spec := "ttlTells", inPlace := ["math.Float64bits", "math.Float64frombits", "math.archFloor", "math.archTrunc", "math/bits.Add64"], apart := false, narrowed := true }
def TtlTellsUptoSaid : Prop := ttlTellsUptoRow.holds Try.pinned (OpenSpec.upto ttlTellsSpec)

/-- 'lodgerlaw03.TtlBits', WHERE WHAT IT READS IS OF BULK AT MOST 1048576: true; the input reads as it did. -/
def ttlBitsUptoRow : OpenClaim := { program := "ytgnmhepneahhdaa", sum := "9e2aee53d30f27da2283b239dd0e75aba03b89e7f6bfd52097f7814732248d60", func := "lodger/lodgerlaw03.TtlBits", spec := "ttlBits", inPlace := ["math.Float64frombits", "math.Float64bits", "math.archFloor", "math.archTrunc", "math/bits.Add64"], apart := false, narrowed := true }
def TtlBitsUptoSaid : Prop := ttlBitsUptoRow.holds Try.pinned (OpenSpec.upto ttlBitsSpec)

/-- 'lodgerlaw03.TtlGrows', WHERE WHAT IT READS IS OF BULK AT MOST 1048576: true; the input reads as it did. -/
def ttlGrowsUptoRow : OpenClaim := { program := "ytgnmhepneahhdaa", sum := "9e2aee53d30f27da2283b239dd0e75aba03b89e7f6bfd52097f7814732248d60", func := "lodger/lodgerlaw03.TtlGrows", spec := "ttlGrows", inPlace := ["math.Float64bits", "math.Float64frombits", "math.archFloor", "math.archTrunc", "math/bits.Add64"], apart := false, narrowed := true }
def TtlGrowsUptoSaid : Prop := ttlGrowsUptoRow.holds Try.pinned (OpenSpec.upto ttlGrowsSpec)

/-- 'lodgerlaw03.TtlWhole', WHERE WHAT IT READS IS OF BULK AT MOST 1048576: true; the input reads as it did. -/
def ttlWholeUptoRow : OpenClaim := { program := "ytgnmhepneahhdaa", sum := "9e2aee53d30f27da2283b239dd0e75aba03b89e7f6bfd52097f7814732248d60", func := "lodger/lodgerlaw03.TtlWhole", spec := "ttlWhole", inPlace := ["math.Float64bits", "math.Float64frombits", "math.archFloor", "math.archTrunc", "math/bits.Add64"], apart := false, narrowed := true }
def TtlWholeUptoSaid : Prop := ttlWholeUptoRow.holds Try.pinned (OpenSpec.upto ttlWholeSpec)

/-- 'lodgerlaw03.TtlLater', WHERE WHAT IT READS IS OF BULK AT MOST 1048576: true; the input reads as it did. -/
def ttlLaterUptoRow : OpenClaim := { program := "ytgnmhepneahhdaa", sum := "9e2aee53d30f27da2283b239dd0e75aba03b89e7f6bfd52097f7814732248d60", func := "lodger/lodgerlaw03.TtlLater", spec := "ttlLater", inPlace := ["math/bits.Add64", "math.Float64bits", "math.Float64frombits", "math.archFloor", "math.archTrunc"], apart := false, narrowed := true }
def TtlLaterUptoSaid : Prop := ttlLaterUptoRow.holds Try.pinned (OpenSpec.upto ttlLaterSpec)

/-- 'lodgerlaw03.TtlLeast', WHERE WHAT IT READS IS OF BULK AT MOST 1048576: true; the input reads as it did. -/
def ttlLeastUptoRow : OpenClaim := { program := "ytgnmhepneahhdaa", sum := "9e2aee53d30f27da2283b239dd0e75aba03b89e7f6bfd52097f7814732248d60", func := "lodger/lodgerlaw03.TtlLeast", spec := "ttlLeast", inPlace := ["math.Float64bits", "math.Float64frombits", "math.archFloor", "math.archTrunc", "math/bits.Add64"], apart := false, narrowed := true }
def TtlLeastUptoSaid : Prop := ttlLeastUptoRow.holds Try.pinned (OpenSpec.upto ttlLeastSpec)

/-- 'lodgerlaw03.TtlPowers', WHERE WHAT IT READS IS OF BULK AT MOST 1048576: true; the input reads as it did. -/
def ttlPowersUptoRow : OpenClaim := { program := "ytgnmhepneahhdaa", sum := "9e2aee53d30f27da2283b239dd0e75aba03b89e7f6bfd52097f7814732248d60", func := "lodger/lodgerlaw03.TtlPowers", spec := "ttlPowers", inPlace := ["math.Float64frombits", "math.Float64bits", "math.archFloor", "math.archTrunc", "math/bits.Add64"], apart := false, narrowed := true }
def TtlPowersUptoSaid : Prop := ttlPowersUptoRow.holds Try.pinned (OpenSpec.upto ttlPowersSpec)

end Rows
end Go.Proofs.Ytgnmhepneahhdaa

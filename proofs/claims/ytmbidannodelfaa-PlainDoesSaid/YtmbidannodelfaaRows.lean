/-
  No cell of these rows narrows 'for every input' (looked for: loops, veiled, ifaces, maps, wideKeys, modest, calm, conditions, laid).
  DERIVED. THE GIVEN ROWS OF THIS SEAT. 6 by the template 'for every input the law returns true; each argument reads behind the call as it read before'; 0 by the template 'total and deterministic' (their statements: YtmbidannodelfaaTotals.lean).
  GIVEN WITH THE SEED: the statements are not yours to turn. If you find one false, say at which input.
  Laid BY PROGRAM, IN A SANDBOX (cutbox-rows.mjs): the forced cells as the released guide's own fill.sh prints them over the translation 7c774b744324fe7a… (all of the seat's roots in one cut). By AI agents, Wed Nov 11 2026. No macro, syntax, notation, axiom, sorry.
-/
import Derived.Test.YtmbidannodelfaaChecked
import GoSem.Claim
import GoSem.ClaimJoined
import GoSem.ClaimMapViews
import Derived.JoinedTies
import Derived.KernelRfl
namespace Go.Proofs.Ytmbidannodelfaa
/- THE CELL 'sum', in the pinned program and in every row, IS THE sha256 OF THE DUMP (.gsa) THAT YtmbidannodelfaaProg.lean LOADS. Nothing in Lean hashes anything: it is a label: what it is worth is what the hold of that sum in a sandbox is worth. -/
noncomputable def Try.pinned : Pinned := { name := "ytmbidannodelfaa", sum := "7c774b744324fe7a4ea54fca6bdd66b7efbebc8e0ffaf022b63a260230fb5b4f", checked := Try.checked }
namespace Rows
def none {H : Type} : Left H := { results := [], args := [] }

/-- 'lodgerlaw17.PlainDoes': WHATEVER THE INPUT: true; the input reads as it did. -/
def plainDoesSpec : ChangeSpec := { name := "plainDoes", fn := fun _ => fun
  | [d1, d2, d3] => { results := [.lit (.bool true)], args := [d1, d2, d3] }
  | _ => none }
def plainDoesRow : OpenClaim := { program := "ytmbidannodelfaa", sum := "7c774b744324fe7a4ea54fca6bdd66b7efbebc8e0ffaf022b63a260230fb5b4f", func := "lodger/lodgerlaw17.PlainDoes", spec := "plainDoes", inPlace := ["math/bits.Add64", "math.Float64bits", "math.Float64frombits", "math.archFloor", "math.archTrunc"], unfollowed := true, recurses := true, apart := false }
def PlainDoesSaid : Prop := plainDoesRow.holds Try.pinned (OpenSpec.ofChange plainDoesSpec)

/-- ITS FALSE NEIGHBOUR: 'it returns false'. Refute it at one input. -/
def plainDoesWrong : ChangeSpec := { name := "plainDoes", fn := fun _ => fun
  | [d1, d2, d3] => { results := [.lit (.bool false)], args := [d1, d2, d3] }
  | _ => none }
def PlainDoesWrongFalsely : Prop := plainDoesRow.holds Try.pinned (OpenSpec.ofChange plainDoesWrong)

/-- 'lodgerlaw17.PlainErrors': WHATEVER THE INPUT: true; the input reads as it did. -/
def plainErrorsSpec : ChangeSpec := { name := "plainErrors", fn := fun _ => fun
  | [d1, d2, d3] => { results := [.lit (.bool true)], args := [d1, d2, d3] }
  | _ => none }
def plainErrorsRow : OpenClaim := { program := "ytmbidannodelfaa", sum := "7c774b744324fe7a4ea54fca6bdd66b7efbebc8e0ffaf022b63a260230fb5b4f", func := "lodger/lodgerlaw17.PlainErrors", spec := "plainErrors", inPlace := ["math/bits.Add64", "math.Float64bits", "math.Float64frombits", "math.archFloor", "math.archTrunc"], unfollowed := true, recurses := true, apart := false }
def PlainErrorsSaid : Prop := plainErrorsRow.holds Try.pinned (OpenSpec.ofChange plainErrorsSpec)

/-- ITS FALSE NEIGHBOUR: 'it returns false'. Refute it at one input. -/
def plainErrorsWrong : ChangeSpec := { name := "plainErrors", fn := fun _ => fun
  | [d1, d2, d3] => { results := [.lit (.bool false)], args := [d1, d2, d3] }
  | _ => none }
def PlainErrorsWrongFalsely : Prop := plainErrorsRow.holds Try.pinned (OpenSpec.ofChange plainErrorsWrong)

/-- 'lodgerlaw17.PlainLives': WHATEVER THE INPUT: true; the input reads as it did. -/
def plainLivesSpec : ChangeSpec := { name := "plainLives", fn := fun _ => fun
  | [d1, d2, d3] => { results := [.lit (.bool true)], args := [d1, d2, d3] }
  | _ => none }
def plainLivesRow : OpenClaim := { program := "ytmbidannodelfaa", sum := "7c774b744324fe7a4ea54fca6bdd66b7efbebc8e0ffaf022b63a260230fb5b4f", func := "lodger/lodgerlaw17.PlainLives", spec := "plainLives", inPlace := ["math.Float64bits", "math.Float64frombits", "math.archFloor", "math.archTrunc", "math/bits.Add64"], unfollowed := true, recurses := true, apart := false }
def PlainLivesSaid : Prop := plainLivesRow.holds Try.pinned (OpenSpec.ofChange plainLivesSpec)

/-- ITS FALSE NEIGHBOUR: 'it returns false'. Refute it at one input. -/
def plainLivesWrong : ChangeSpec := { name := "plainLives", fn := fun _ => fun
  | [d1, d2, d3] => { results := [.lit (.bool false)], args := [d1, d2, d3] }
  | _ => none }
def PlainLivesWrongFalsely : Prop := plainLivesRow.holds Try.pinned (OpenSpec.ofChange plainLivesWrong)

/-- 'lodgerlaw17.PlainQuota': WHATEVER THE INPUT: true; the input reads as it did. -/
def plainQuotaSpec : ChangeSpec := { name := "plainQuota", fn := fun _ => fun
  | [d1, d2] => { results := [.lit (.bool true)], args := [d1, d2] }
  | _ => none }
def plainQuotaRow : OpenClaim := { program := "ytmbidannodelfaa", sum := "7c774b744324fe7a4ea54fca6bdd66b7efbebc8e0ffaf022b63a260230fb5b4f", func := "lodger/lodgerlaw17.PlainQuota", spec := "plainQuota", inPlace := ["math.Float64bits", "math.Float64frombits", "math.archFloor", "math.archTrunc", "math/bits.Add64"], unfollowed := true, recurses := true, apart := false }
def PlainQuotaSaid : Prop := plainQuotaRow.holds Try.pinned (OpenSpec.ofChange plainQuotaSpec)

/-- ITS FALSE NEIGHBOUR: 'it returns false'. Refute it at one input. -/
def plainQuotaWrong : ChangeSpec := { name := "plainQuota", fn := fun _ => fun
  | [d1, d2] => { results := [.lit (.bool false)], args := [d1, d2] }
  | _ => none }
def PlainQuotaWrongFalsely : Prop := plainQuotaRow.holds Try.pinned (OpenSpec.ofChange plainQuotaWrong)

/-- 'lodgerlaw17.PlainOrder': WHATEVER THE INPUT: true; the input reads as it did. -/
def plainOrderSpec : ChangeSpec := { name := "plainOrder", fn := fun _ => fun
  | [d1, d2, d3] => { results := [.lit (.bool true)], args := [d1, d2, d3] }
  | _ => none }
def plainOrderRow : OpenClaim := { program := "ytmbidannodelfaa", sum := "7c774b744324fe7a4ea54fca6bdd66b7efbebc8e0ffaf022b63a260230fb5b4f", func := "lodger/lodgerlaw17.PlainOrder", spec := "plainOrder", inPlace := ["math.Float64bits", "math.Float64frombits", "math.archFloor", "math.archTrunc", "math/bits.Add64"], unfollowed := true, recurses := true, apart := false }
def PlainOrderSaid : Prop := plainOrderRow.holds Try.pinned (OpenSpec.ofChange plainOrderSpec)

/-- ITS FALSE NEIGHBOUR: 'it returns false'. Refute it at one input. -/
def plainOrderWrong : ChangeSpec := { name := "plainOrder", fn := fun _ => fun
  | [d1, d2, d3] => { results := [.lit (.bool false)], args := [d1, d2, d3] }
  | _ => none }
def PlainOrderWrongFalsely : Prop := plainOrderRow.holds Try.pinned (OpenSpec.ofChange plainOrderWrong)

/-- 'lodgerlaw17.PlainTicks': WHATEVER THE INPUT: true; the input reads as it did. -/
def plainTicksSpec : ChangeSpec := { name := "plainTicks", fn := fun _ => fun
  | [d1, d2, d3] => { results := [.lit (.bool true)], args := [d1, d2, d3] }
  | _ => none }
def plainTicksRow : OpenClaim := { program := "ytmbidannodelfaa", sum := "7c774b744324fe7a4ea54fca6bdd66b7efbebc8e0ffaf022b63a260230fb5b4f", func := "lodger/lodgerlaw17.PlainTicks", spec := "plainTicks", inPlace := ["math.Float64bits", "math.Float64frombits", "math.archFloor", "math.archTrunc", "math/bits.Add64"], unfollowed := true, recurses := true, apart := false }
def PlainTicksSaid : Prop := plainTicksRow.holds Try.pinned (OpenSpec.ofChange plainTicksSpec)

/-- ITS FALSE NEIGHBOUR: 'it returns false'. Refute it at one input. -/
def plainTicksWrong : ChangeSpec := { name := "plainTicks", fn := fun _ => fun
  | [d1, d2, d3] => { results := [.lit (.bool false)], args := [d1, d2, d3] }
  | _ => none }
def PlainTicksWrongFalsely : Prop := plainTicksRow.holds Try.pinned (OpenSpec.ofChange plainTicksWrong)

/- THE SECOND FORM. 'bulk': how many values and letters a reading holds, each counted each time it is reached (what is shared counts as often as it is met; a slice's spare places count too). A statement '..UptoSaid' is the law's where the arguments, and the package variables that the reading takes, are together of bulk at most 1048576: NARROWER than '..Said'. Prove '..Said' where nothing that the law and all that it calls make is longer than what came in: it says more and counts as full. Else prove '..UptoSaid'. A law counts once. -/
mutual
def uptoBulk {H : Type} : DataW H → Nat
  | .lit (.string bytes) => bytes.length + 1
  | .lit _ => 1
  | .nil => 1
  | .ptr d => uptoBulk d + 1
  | .slice elems spare => uptoBulkAll elems + uptoBulkAll spare + 1
  | .agg parts => uptoBulkAll parts + 1
  | .iface _ d => uptoBulk d + 1
  | .map entries => uptoBulkEntries entries + 1
  | .held _ => 1
def uptoBulkAll {H : Type} : List (DataW H) → Nat
  | [] => 0
  | d :: r => uptoBulk d + uptoBulkAll r
def uptoBulkEntries {H : Type} : List (Lit × DataW H) → Nat
  | [] => 0
  | x :: r => uptoBulkEntry x + uptoBulkEntries r
def uptoBulkEntry {H : Type} : Lit × DataW H → Nat
  | (.string bytes, d) => bytes.length + uptoBulk d + 1
  | (_, d) => uptoBulk d + 1
 end
def uptoSmall : (H : Type) → List (DataW H) → Bool := fun _ ds => decide (uptoBulkAll ds ≤ 1048576)
def OpenSpec.upto (s : _root_.Go.ChangeSpec) : _root_.Go.OpenSpec := { _root_.Go.OpenSpec.ofChange s with cond := some uptoSmall }

/-- 'lodgerlaw17.PlainDoes', WHERE WHAT IT READS IS OF BULK AT MOST 1048576: true; the input reads as it did. -/
def plainDoesUptoRow : OpenClaim := { program := "ytmbidannodelfaa", sum := "7c774b744324fe7a4ea54fca6bdd66b7efbebc8e0ffaf022b63a260230fb5b4f", func := "lodger/lodgerlaw17.PlainDoes", spec := "plainDoes", inPlace := ["math/bits.Add64", "math.Float64bits", "math.Float64frombits", "math.archFloor", "math.archTrunc"], unfollowed := true, recurses := true, apart := false, narrowed := true }
def PlainDoesUptoSaid : Prop := plainDoesUptoRow.holds Try.pinned (OpenSpec.upto plainDoesSpec)

/-- 'lodgerlaw17.PlainErrors', WHERE WHAT IT READS IS OF BULK AT MOST 1048576: true; the input reads as it did. -/
def plainErrorsUptoRow : OpenClaim := { program := "ytmbidannodelfaa", sum := "7c774b744324fe7a4ea54fca6bdd66b7efbebc8e0ffaf022b63a260230fb5b4f", func := "lodger/lodgerlaw17.PlainErrors", spec := "plainErrors", inPlace := ["math/bits.Add64", "math.Float64bits", "math.Float64frombits", "math.archFloor", "math.archTrunc"], unfollowed := true, recurses := true, apart := false, narrowed := true }
def PlainErrorsUptoSaid : Prop := plainErrorsUptoRow.holds Try.pinned (OpenSpec.upto plainErrorsSpec)

/-- 'lodgerlaw17.PlainLives', WHERE WHAT IT READS IS OF BULK AT MOST 1048576: true; the input reads as it did. -/
def plainLivesUptoRow : OpenClaim := { program := "ytmbidannodelfaa", sum := "7c774b744324fe7a4ea54fca6bdd66b7efbebc8e0ffaf022b63a260230fb5b4f", func := "lodger/lodgerlaw17.PlainLives", spec := "plainLives", inPlace := ["math.Float64bits", "math.Float64frombits", "math.archFloor", "math.archTrunc", "math/bits.Add64"], unfollowed := true, recurses := true, apart := false, narrowed := true }
def PlainLivesUptoSaid : Prop := plainLivesUptoRow.holds Try.pinned (OpenSpec.upto plainLivesSpec)

/-- 'lodgerlaw17.PlainQuota', WHERE WHAT IT READS IS OF BULK AT MOST 1048576: true; the input reads as it did. -/
def plainQuotaUptoRow : OpenClaim := { program := "ytmbidannodelfaa", sum := "7c774b744324fe7a4ea54fca6bdd66b7efbebc8e0ffaf022b63a260230fb5b4f", func := "lodger/lodgerlaw17.PlainQuota", spec := "plainQuota", inPlace := ["math.Float64bits", "math.Float64frombits", "math.archFloor", "math.archTrunc", "math/bits.Add64"], unfollowed := true, recurses := true, apart := false, narrowed := true }
def PlainQuotaUptoSaid : Prop := plainQuotaUptoRow.holds Try.pinned (OpenSpec.upto plainQuotaSpec)

/-- 'lodgerlaw17.PlainOrder', WHERE WHAT IT READS IS OF BULK AT MOST 1048576: true; the input reads as it did. -/
def plainOrderUptoRow : OpenClaim := { program := "ytmbidannodelfaa", sum := "7c774b744324fe7a4ea54fca6bdd66b7efbebc8e0ffaf022b63a260230fb5b4f", func := "lodger/lodgerlaw17.PlainOrder", spec := "plainOrder", inPlace := ["math.Float64bits", "math.Float64frombits", "math.archFloor", "math.archTrunc", "math/bits.Add64"], unfollowed := true, recurses := true, apart := false, narrowed := true }
def PlainOrderUptoSaid : Prop := plainOrderUptoRow.holds Try.pinned (OpenSpec.upto plainOrderSpec)

/-- 'lodgerlaw17.PlainTicks', WHERE WHAT IT READS IS OF BULK AT MOST 1048576: true; the input reads as it did. -/
def plainTicksUptoRow : OpenClaim := { program := "ytmbidannodelfaa", sum := "7c774b744324fe7a4ea54fca6bdd66b7efbebc8e0ffaf022b63a260230fb5b4f", func := "lodger/lodgerlaw17.PlainTicks", spec := "plainTicks", inPlace := ["math.Float64bits", "math.Float64frombits", "math.archFloor", "math.archTrunc", "math/bits.Add64"], unfollowed := true, recurses := true, apart := false, narrowed := true }
def PlainTicksUptoSaid : Prop := plainTicksUptoRow.holds Try.pinned (OpenSpec.upto plainTicksSpec)

end Rows
end Go.Proofs.Ytmbidannodelfaa

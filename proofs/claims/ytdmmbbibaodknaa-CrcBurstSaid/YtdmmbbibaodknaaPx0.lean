-- Written by a program of this session (the kit's print, with contracts of this session).
import Derived.Test.YtdmmbbibaodknaaProg
import Derived.Below
import Derived.Deep.Draws
import Derived.Deep.AppendLies
import Derived.Maps.AppendAt
import Derived.OwnWalk
import Derived.Laws.BytesArg
import Derived.Laws.MakeOwn
import Derived.Laws.OwnMore
import Derived.Deep.OwnRows
import Derived.Tactics
import Derived.Lib.ConvBytes
import Derived.Laws.Slices
import Derived.WalkKit
import Derived.KernelRfl
import Derived.RowKit3
import Derived.Deep.LoopGhost
import Derived.Deep.QuietTactic
import Derived.BigQuiet
import Derived.WideLaws
import Derived.Deep.DeepCutAuto
import Derived.Deep.CutBlock
import Derived.Deep.RegionHeld3
import Derived.Laws.Rows
import Derived.Lib.AppendStr
import Derived.ArgAppend
import Derived.Laws.IdiomCopy
import Derived.OrdersHeld
import Derived.Laws.BitsLemmas
import Derived.RowKit
import Derived.Test.YtdmmbbibaodknaaGCrc
import Derived.Test.YtdmmbbibaodknaaWWords
import Derived.Test.YtdmmbbibaodknaaWLast
import Derived.Test.YtdmmbbibaodknaaWTab
import Derived.Test.YtdmmbbibaodknaaWFour
import Derived.Test.YtdmmbbibaodknaaWQPut
import Derived.Test.YtdmmbbibaodknaaWApart
import Derived.Test.YtdmmbbibaodknaaWArr
import Derived.Test.YtdmmbbibaodknaaWZeros
import Derived.Test.YtdmmbbibaodknaaWFoot
import Derived.Test.YtdmmbbibaodknaaWKept
import Derived.Test.YtdmmbbibaodknaaWShare
import Derived.Test.YtdmmbbibaodknaaWN
import Derived.Test.YtdmmbbibaodknaaWFootNe
import Derived.Test.YtdmmbbibaodknaaWAt
import Derived.Test.YtdmmbbibaodknaaWEqStruct
import Derived.Test.YtdmmbbibaodknaaWRepsOne
import Derived.Test.YtdmmbbibaodknaaWInv
import Derived.Test.YtdmmbbibaodknaaWInvWords
import Derived.Test.YtdmmbbibaodknaaWGuard
import Derived.Test.YtdmmbbibaodknaaWNEv
import Derived.Test.YtdmmbbibaodknaaWMore
namespace Go.Proofs.Ytdmmbbibaodknaa.P
open Go.RowKit Go.Proofs.Ytdmmbbibaodknaa.G Go.Proofs.YtdmmbbibaodknaaW.PrintWords Go.Proofs.YtdmmbbibaodknaaW.PrintLast Go.Proofs.YtdmmbbibaodknaaW.PrintMore
attribute [local go_sem] max2_int min2_int max_two min_two max_three min_three max_four min_four   -- for this text's walks alone
set_option linter.unusedVariables false
set_option linter.unusedSimpArgs false



def errW : Option Int → Value
  | none => .nilIface
  | some c => .iface 0 (.int .i64 c)
theorem errW_none : errW none = .nilIface := rfl
theorem errW_some (c : Int) : errW (some c) = .iface 0 (.int .i64 c) := rfl

theorem info5 : (Try.prog.info? 5).map (fun i => (i.zero, i.size, i.bytes)) = some (some (.int .u8 0), 1, 1) := by kernel_rfl
-- the values' own types

end Go.Proofs.Ytdmmbbibaodknaa.P

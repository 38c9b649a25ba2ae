-- Written by a program of this session (patch_print.py) over the contracts that its own texts prove; not a print of print.sh.
import Derived.Test.YtbhnhbpamndldaaProg
import Derived.Below
import Derived.Deep.Draws
import Derived.Deep.AppendLies
import Derived.Maps.AppendAt
import Derived.OwnWalk
import Derived.Laws.BytesArg
import Derived.Laws.MakeOwn
import Derived.Laws.OwnMore
import Derived.Deep.OwnRows
import Derived.Tactics
import Derived.Lib.ConvBytes
import Derived.Laws.Slices
import Derived.WalkKit
import Derived.KernelRfl
import Derived.RowKit3
import Derived.Deep.LoopGhost
import Derived.Deep.QuietTactic
import Derived.BigQuiet
import Derived.WideLaws
import Derived.Deep.DeepCutAuto
import Derived.Deep.CutBlock
import Derived.Deep.RegionHeld3
import Derived.Laws.Rows
import Derived.Lib.AppendStr
import Derived.ArgAppend
import Derived.Laws.IdiomCopy
import Derived.OrdersHeld
import Derived.Laws.BitsLemmas
import Derived.RowKit
import Derived.Test.YtbhnhbpamndldaaBits
import Derived.Test.YtbhnhbpamndldaaWWords
import Derived.Test.YtbhnhbpamndldaaWLast
import Derived.Test.YtbhnhbpamndldaaWTab
import Derived.Test.YtbhnhbpamndldaaWFour
import Derived.Test.YtbhnhbpamndldaaWQPut
import Derived.Test.YtbhnhbpamndldaaWApart
import Derived.Test.YtbhnhbpamndldaaWArr
import Derived.Test.YtbhnhbpamndldaaWZeros
import Derived.Test.YtbhnhbpamndldaaWFoot
import Derived.Test.YtbhnhbpamndldaaWKept
import Derived.Test.YtbhnhbpamndldaaWShare
import Derived.Test.YtbhnhbpamndldaaWN
import Derived.Test.YtbhnhbpamndldaaWFootNe
import Derived.Test.YtbhnhbpamndldaaWAt
import Derived.Test.YtbhnhbpamndldaaWEqStruct
import Derived.Test.YtbhnhbpamndldaaWRepsOne
import Derived.Test.YtbhnhbpamndldaaWInv
import Derived.Test.YtbhnhbpamndldaaWInvWords
import Derived.Test.YtbhnhbpamndldaaWGuard
import Derived.Test.YtbhnhbpamndldaaWNEv
import Derived.Test.YtbhnhbpamndldaaWMore
namespace Go.Proofs.Ytbhnhbpamndldaa.PBitsRow
open Go.RowKit Go.Proofs.YtbhnhbpamndldaaW.PrintWords Go.Proofs.YtbhnhbpamndldaaW.PrintLast Go.Proofs.YtbhnhbpamndldaaW.PrintMore Go.Proofs.Ytbhnhbpamndldaa.Bits
attribute [local go_sem] max2_int min2_int max_two min_two max_three min_three max_four min_four   -- for this text's walks alone
set_option linter.unusedVariables false
set_option linter.unusedSimpArgs false



def errW : Option Int → Value
  | none => .nilIface
  | some c => .iface 0 (.int .i64 c)
theorem errW_none : errW none = .nilIface := rfl
theorem errW_some (c : Int) : errW (some c) = .iface 0 (.int .i64 c) := rfl

theorem info5 : (Try.prog.info? 5).map (fun i => (i.zero, i.size, i.bytes)) = some (some (.int .u8 0), 1, 1) := by kernel_rfl
-- the values' own types

end Go.Proofs.Ytbhnhbpamndldaa.PBitsRow

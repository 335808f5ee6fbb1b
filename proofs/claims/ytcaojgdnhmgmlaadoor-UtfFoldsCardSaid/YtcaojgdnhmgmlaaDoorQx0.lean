/- Functions of the seat as plain Lean functions, and that the calls do what these say; conditions stand in each theorem. (Written by a program of this seat's prover, by the kit's printer; Lean checks it.) -/
import Derived.Test.YtcaojgdnhmgmlaaDoorProg
import Derived.Below
import Derived.Deep.Draws
import Derived.Deep.AppendLies
import Derived.Maps.AppendAt
import Derived.OwnWalk
import Derived.Laws.BytesArg
import Derived.Laws.MakeOwn
import Derived.Laws.OwnMore
import Derived.Deep.OwnRows
import Derived.Tactics
import Derived.Lib.ConvBytes
import Derived.Laws.Slices
import Derived.WalkKit
import Derived.KernelRfl
import Derived.RowKit3
import Derived.Deep.LoopGhost
import Derived.Deep.QuietTactic
import Derived.BigQuiet
import Derived.WideLaws
import Derived.Deep.DeepCutAuto
import Derived.Deep.CutBlock
import Derived.Deep.RegionHeld3
import Derived.Laws.Rows
import Derived.Lib.AppendStr
import Derived.ArgAppend
import Derived.Laws.IdiomCopy
import Derived.OrdersHeld
import Derived.Laws.BitsLemmas
import Derived.RowKit
import Derived.Test.YtcaojgdnhmgmlaaDoorWWords
import Derived.Test.YtcaojgdnhmgmlaaDoorWLast
import Derived.Test.YtcaojgdnhmgmlaaDoorWTab
import Derived.Test.YtcaojgdnhmgmlaaDoorWFour
import Derived.Test.YtcaojgdnhmgmlaaDoorWQPut
import Derived.Test.YtcaojgdnhmgmlaaDoorWApart
import Derived.Test.YtcaojgdnhmgmlaaDoorWArr
import Derived.Test.YtcaojgdnhmgmlaaDoorWZeros
import Derived.Test.YtcaojgdnhmgmlaaDoorWFoot
import Derived.Test.YtcaojgdnhmgmlaaDoorWKept
import Derived.Test.YtcaojgdnhmgmlaaDoorWShare
import Derived.Test.YtcaojgdnhmgmlaaDoorWN
import Derived.Test.YtcaojgdnhmgmlaaDoorWFootNe
import Derived.Test.YtcaojgdnhmgmlaaDoorWAt
import Derived.Test.YtcaojgdnhmgmlaaDoorWEqStruct
import Derived.Test.YtcaojgdnhmgmlaaDoorWRepsOne
import Derived.Test.YtcaojgdnhmgmlaaDoorWInv
import Derived.Test.YtcaojgdnhmgmlaaDoorWInvWords
import Derived.Test.YtcaojgdnhmgmlaaDoorWGuard
import Derived.Test.YtcaojgdnhmgmlaaDoorWNEv
import Derived.Test.YtcaojgdnhmgmlaaDoorWMore
namespace Go.Proofs.YtcaojgdnhmgmlaaDoor.Q
open Go.RowKit Go.Proofs.YtcaojgdnhmgmlaaDoorW.PrintWords Go.Proofs.YtcaojgdnhmgmlaaDoorW.PrintLast Go.Proofs.YtcaojgdnhmgmlaaDoorW.PrintMore
attribute [local go_sem] max2_int min2_int max_two min_two max_three min_three max_four min_four   -- for this text's walks alone
set_option linter.unusedVariables false
set_option linter.unusedSimpArgs false



def errW : Option Int → Value
  | none => .nilIface
  | some c => .iface 0 (.int .i64 c)
theorem errW_none : errW none = .nilIface := rfl
theorem errW_some (c : Int) : errW (some c) = .iface 0 (.int .i64 c) := rfl

theorem info5 : (Tryd.prog.info? 5).map (fun i => (i.zero, i.size, i.bytes)) = some (some (.int .u8 0), 1, 1) := by kernel_rfl
theorem info9 : (Tryd.prog.info? 9).map (fun i => (i.zero, i.size, i.bytes)) = some (some (.string ⟨#[]⟩), 1, 16) := by kernel_rfl
theorem info21 : (Tryd.prog.info? 21).map (fun i => (i.zero, i.size, i.bytes)) = some (some (.int .i32 0), 1, 4) := by kernel_rfl
-- the values' own types

end Go.Proofs.YtcaojgdnhmgmlaaDoor.Q

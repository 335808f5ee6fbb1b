/- Functions of the seat as plain Lean functions, and that the calls do what these say; conditions stand in each theorem. (Written by a program of this seat's prover, by the kit's printer; Lean checks it.) -/
import Derived.Test.YtbodefikbonjaaaProg
import Derived.Below
import Derived.Deep.Draws
import Derived.Deep.AppendLies
import Derived.Maps.AppendAt
import Derived.OwnWalk
import Derived.Laws.BytesArg
import Derived.Laws.MakeOwn
import Derived.Laws.OwnMore
import Derived.Deep.OwnRows
import Derived.Tactics
import Derived.Lib.ConvBytes
import Derived.Laws.Slices
import Derived.WalkKit
import Derived.KernelRfl
import Derived.RowKit3
import Derived.Deep.LoopGhost
import Derived.Deep.QuietTactic
import Derived.BigQuiet
import Derived.WideLaws
import Derived.Deep.DeepCutAuto
import Derived.Deep.CutBlock
import Derived.Deep.RegionHeld3
import Derived.Laws.Rows
import Derived.Lib.AppendStr
import Derived.ArgAppend
import Derived.Laws.IdiomCopy
import Derived.OrdersHeld
import Derived.Laws.BitsLemmas
import Derived.RowKit
import Derived.Test.YtbodefikbonjaaaWWords
import Derived.Test.YtbodefikbonjaaaWLast
import Derived.Test.YtbodefikbonjaaaWTab
import Derived.Test.YtbodefikbonjaaaWFour
import Derived.Test.YtbodefikbonjaaaWQPut
import Derived.Test.YtbodefikbonjaaaWApart
import Derived.Test.YtbodefikbonjaaaWArr
import Derived.Test.YtbodefikbonjaaaWZeros
import Derived.Test.YtbodefikbonjaaaWFoot
import Derived.Test.YtbodefikbonjaaaWKept
import Derived.Test.YtbodefikbonjaaaWShare
import Derived.Test.YtbodefikbonjaaaWN
import Derived.Test.YtbodefikbonjaaaWFootNe
import Derived.Test.YtbodefikbonjaaaWAt
import Derived.Test.YtbodefikbonjaaaWEqStruct
import Derived.Test.YtbodefikbonjaaaWRepsOne
import Derived.Test.YtbodefikbonjaaaWInv
import Derived.Test.YtbodefikbonjaaaWInvWords
import Derived.Test.YtbodefikbonjaaaWGuard
import Derived.Test.YtbodefikbonjaaaWNEv
import Derived.Test.YtbodefikbonjaaaWMore
namespace Go.Proofs.Ytbodefikbonjaaa.Q
open Go.RowKit Go.Proofs.YtbodefikbonjaaaW.PrintWords Go.Proofs.YtbodefikbonjaaaW.PrintLast Go.Proofs.YtbodefikbonjaaaW.PrintMore
attribute [local go_sem] max2_int min2_int max_two min_two max_three min_three max_four min_four   -- for this text's walks alone
set_option linter.unusedVariables false
set_option linter.unusedSimpArgs false



def errW : Option Int → Value
  | none => .nilIface
  | some c => .iface 0 (.int .i64 c)
theorem errW_none : errW none = .nilIface := rfl
theorem errW_some (c : Int) : errW (some c) = .iface 0 (.int .i64 c) := rfl

theorem info5 : (Try.prog.info? 5).map (fun i => (i.zero, i.size, i.bytes)) = some (some (.int .u8 0), 1, 1) := by kernel_rfl
-- the values' own types

end Go.Proofs.Ytbodefikbonjaaa.Q

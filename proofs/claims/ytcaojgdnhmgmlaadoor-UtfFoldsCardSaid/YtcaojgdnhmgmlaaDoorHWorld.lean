/- Worlds in which tables of Go's library lie as their initialisers lay them; and what a row's condition on them gives the walks. -/
import Derived.Test.YtcaojgdnhmgmlaaDoorRows
import Derived.Test.YtcaojgdnhmgmlaaDoorHLaid
import Derived.Lib.LaidIn
import Derived.Lib.LaidU8T
import Derived.Lib.LaidTab
import Derived.Stop.LaidErr
import Derived.MakeChecks
import Derived.ProofKit
import Derived.KernelRfl
namespace Go.Proofs.YtcaojgdnhmgmlaaDoor
open Go.RowKit Go.Shelf Q
set_option linter.unusedVariables false

/-- A datum's cells: an array of numbers, or of structs of numbers. -/
def cell1 : DataW Unit → List Value
  | .lit (.int k n) => [Value.int k n]
  | .agg l => l.flatMap fun
    | .lit (.int k n) => [Value.int k n]
    | _ => []
  | _ => []
def cells2 : DataW Unit → List Value
  | .agg l => l.flatMap cell1
  | _ => []
def put (h : Array Obj) (g : Nat) (cs : List Value) : Array Obj := h.modify g fun
  | .cells _ t frozen => .cells cs.toArray t frozen
  | o => o

noncomputable def worldN (os : Os) : World :=
  let w0 := World.holding Tryd.prog os ⟨#[], #[], []⟩
  { w0 with heap := put (put (put w0.heap 4 (cells2 Rows.laid_math_bits_deBruijn32tab)) 5 (cells2 Rows.laid_math_bits_deBruijn64tab)) 3 (cells2 Rows.laid_internal_strconv_uint64pow10) }
theorem met_N (os : Os) (args : Array Value) : laidMetH Tryd.prog Rows.numDigitsRow.laid ((worldN os).forCall (fun _ _ => 0) ⟨#[], args, []⟩).memory := by
  rw [MakeChecks.laidMetH_plain _ _ _ (by kernel_rfl)]
  exact (LaidIn.of_run (l := Rows.numDigitsRow.laid) [4, 5, 3] 8 (by kernel_rfl) (by kernel_rfl) (by kernel_rfl) (by kernel_rfl)).met
theorem laidN_of {W : World} (h : laidMetH Tryd.prog Rows.numDigitsRow.laid W) : LaidN W := by
  rw [MakeChecks.laidMetH_plain _ _ _ (by kernel_rfl)] at h
  have h3 := h.tail.tail
  exact ⟨Lib.tabIs_of_head (g := 3) (t := 159) (e := 51) (n := 20) (by kernel_rfl) (by kernel_rfl) Tryd.underlying159 Tryd.underlying51 (by kernel_rfl) (by kernel_rfl) h3⟩
end Go.Proofs.YtcaojgdnhmgmlaaDoor

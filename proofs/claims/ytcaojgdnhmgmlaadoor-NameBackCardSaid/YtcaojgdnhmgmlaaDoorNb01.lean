import Derived.Test.YtcaojgdnhmgmlaaDoorProg
import Derived.Below
import Derived.Deep.Draws
import Derived.Deep.AppendLies
import Derived.Maps.AppendAt
import Derived.OwnWalk
import Derived.Laws.BytesArg
import Derived.Laws.MakeOwn
import Derived.Laws.OwnMore
import Derived.Deep.OwnRows
import Derived.Tactics
import Derived.Lib.ConvBytes
import Derived.Laws.Slices
import Derived.WalkKit
import Derived.KernelRfl
import Derived.RowKit3
import Derived.Deep.LoopGhost
import Derived.Deep.QuietTactic
import Derived.BigQuiet
import Derived.WideLaws
import Derived.Deep.DeepCutAuto
import Derived.Deep.CutBlock
import Derived.Deep.RegionHeld3
import Derived.Laws.Rows
import Derived.Lib.AppendStr
import Derived.ArgAppend
import Derived.Laws.IdiomCopy
import Derived.OrdersHeld
import Derived.Laws.BitsLemmas
import Derived.RowKit
import Derived.Test.YtcaojgdnhmgmlaaDoorWWords
import Derived.Test.YtcaojgdnhmgmlaaDoorWLast
import Derived.Test.YtcaojgdnhmgmlaaDoorWTab
import Derived.Test.YtcaojgdnhmgmlaaDoorWFour
import Derived.Test.YtcaojgdnhmgmlaaDoorWQPut
import Derived.Test.YtcaojgdnhmgmlaaDoorWApart
import Derived.Test.YtcaojgdnhmgmlaaDoorWArr
import Derived.Test.YtcaojgdnhmgmlaaDoorWZeros
import Derived.Test.YtcaojgdnhmgmlaaDoorWFoot
import Derived.Test.YtcaojgdnhmgmlaaDoorWKept
import Derived.Test.YtcaojgdnhmgmlaaDoorWShare
import Derived.Test.YtcaojgdnhmgmlaaDoorWN
import Derived.Test.YtcaojgdnhmgmlaaDoorWFootNe
import Derived.Test.YtcaojgdnhmgmlaaDoorWAt
import Derived.Test.YtcaojgdnhmgmlaaDoorWEqStruct
import Derived.Test.YtcaojgdnhmgmlaaDoorWRepsOne
import Derived.Test.YtcaojgdnhmgmlaaDoorWInv
import Derived.Test.YtcaojgdnhmgmlaaDoorWInvWords
import Derived.Test.YtcaojgdnhmgmlaaDoorWGuard
import Derived.Test.YtcaojgdnhmgmlaaDoorWNEv
import Derived.Test.YtcaojgdnhmgmlaaDoorWMore
import Derived.Shelf.Unicode.DecodeAny
import Derived.Shelf.Strconv.Itoa3
import Derived.Test.YtcaojgdnhmgmlaaDoorRows
import Derived.Lib.LaidIn
import Derived.Lib.LaidU8T
import Derived.Lib.LaidTab
import Derived.Stop.LaidErr
import Derived.MakeChecks
import Derived.ProofKit
import Derived.Shelf.Unicode.ValidAny
section
/- Functions of the seat as plain Lean functions, and that the calls do what these say; conditions stand in each theorem. (Written by a program of this seat's prover, by the kit's printer; Lean checks it.) -/
namespace Go.Proofs.YtcaojgdnhmgmlaaDoor.Q
open Go.RowKit Go.Proofs.YtcaojgdnhmgmlaaDoorW.PrintWords Go.Proofs.YtcaojgdnhmgmlaaDoorW.PrintLast Go.Proofs.YtcaojgdnhmgmlaaDoorW.PrintMore
attribute [local go_sem] max2_int min2_int max_two min_two max_three min_three max_four min_four   -- for this text's walks alone
set_option linter.unusedVariables false
set_option linter.unusedSimpArgs false



def errW : Option Int → Value
  | none => .nilIface
  | some c => .iface 0 (.int .i64 c)
theorem errW_none : errW none = .nilIface := rfl
theorem errW_some (c : Int) : errW (some c) = .iface 0 (.int .i64 c) := rfl

theorem info5 : (Tryd.prog.info? 5).map (fun i => (i.zero, i.size, i.bytes)) = some (some (.int .u8 0), 1, 1) := by kernel_rfl
theorem info9 : (Tryd.prog.info? 9).map (fun i => (i.zero, i.size, i.bytes)) = some (some (.string ⟨#[]⟩), 1, 16) := by kernel_rfl
theorem info21 : (Tryd.prog.info? 21).map (fun i => (i.zero, i.size, i.bytes)) = some (some (.int .i32 0), 1, 4) := by kernel_rfl
-- the values' own types

end Go.Proofs.YtcaojgdnhmgmlaaDoor.Q
end
section
/- What a call may lean on: that tables of Go's library hold what their initialisers lay; it lasts over all that leaves old memory alone. -/
namespace Go.Proofs.YtcaojgdnhmgmlaaDoor.Q
open Go.RowKit Go.Shelf

/-- The powers of ten. -/
structure LaidN (w : World) : Prop where
  tab : Lib.TabIs Tryd.prog w "internal/strconv.uint64pow10" .u64 Lib.pow10Tab
theorem tabIs_below {n : String} {k : IntKind} {zs : List Int} {w W : World} (h : Lib.TabIs Tryd.prog w n k zs) (hb : Below w.heap.size w W) : Lib.TabIs Tryd.prog W n k zs := by
  unfold Lib.TabIs World.var? at h ⊢
  cases hg : Tryd.prog.globalNamed n with
  | none => rw [hg] at h; cases h
  | some g =>
    rw [hg] at h
    simp only [Option.bind_some] at h ⊢
    have hlt : g < w.heap.size := by
      rcases Nat.lt_or_ge g w.heap.size with h' | h'
      · exact h'
      · rw [Array.getElem?_eq_none h'] at h; cases h
    rw [hb.block g hlt]
    exact h
theorem LaidN.below {w W : World} (h : LaidN w) (hb : Below w.heap.size w W) : LaidN W := ⟨tabIs_below h.tab hb⟩

/-- The two tables of package unicode/utf8. -/
structure LaidU (w : World) : Prop where
  tabs : Lib.Utf8Tabs 0 1 w
theorem LaidU.below {w W : World} (h : LaidU w) (hb : Below w.heap.size w W) : LaidU W := ⟨Utf8Tabs_below h.tabs hb⟩
end Go.Proofs.YtcaojgdnhmgmlaaDoor.Q
end
section
/- Worlds in which tables of Go's library lie as their initialisers lay them; and what a row's condition on them gives the walks. -/
namespace Go.Proofs.YtcaojgdnhmgmlaaDoor
open Go.RowKit Go.Shelf Q
set_option linter.unusedVariables false

/-- A datum's cells: an array of numbers, or of structs of numbers. -/
def cell1 : DataW Unit → List Value
  | .lit (.int k n) => [Value.int k n]
  | .agg l => l.flatMap fun
    | .lit (.int k n) => [Value.int k n]
    | _ => []
  | _ => []
def cells2 : DataW Unit → List Value
  | .agg l => l.flatMap cell1
  | _ => []
def put (h : Array Obj) (g : Nat) (cs : List Value) : Array Obj := h.modify g fun
  | .cells _ t frozen => .cells cs.toArray t frozen
  | o => o

noncomputable def worldN (os : Os) : World :=
  let w0 := World.holding Tryd.prog os ⟨#[], #[], []⟩
  { w0 with heap := put (put (put w0.heap 4 (cells2 Rows.laid_math_bits_deBruijn32tab)) 5 (cells2 Rows.laid_math_bits_deBruijn64tab)) 3 (cells2 Rows.laid_internal_strconv_uint64pow10) }
theorem met_N (os : Os) (args : Array Value) : laidMetH Tryd.prog Rows.numDigitsRow.laid ((worldN os).forCall (fun _ _ => 0) ⟨#[], args, []⟩).memory := by
  rw [MakeChecks.laidMetH_plain _ _ _ (by kernel_rfl)]
  exact (LaidIn.of_run (l := Rows.numDigitsRow.laid) [4, 5, 3] 8 (by kernel_rfl) (by kernel_rfl) (by kernel_rfl) (by kernel_rfl)).met
theorem laidN_of {W : World} (h : laidMetH Tryd.prog Rows.numDigitsRow.laid W) : LaidN W := by
  rw [MakeChecks.laidMetH_plain _ _ _ (by kernel_rfl)] at h
  have h3 := h.tail.tail
  exact ⟨Lib.tabIs_of_head (g := 3) (t := 159) (e := 51) (n := 20) (by kernel_rfl) (by kernel_rfl) Tryd.underlying159 Tryd.underlying51 (by kernel_rfl) (by kernel_rfl) h3⟩
end Go.Proofs.YtcaojgdnhmgmlaaDoor
end
section
/-
  DERIVED: THE SHELF's CONTRACTS AT THIS DUMP, IN PLAIN WORDS (tools/lay-plain.mjs out of 'YtcaojgdnhmgmlaaDoorShValid.lean', which tools/lay-shelf.mjs wrote): THE SAME DECLARATIONS UNDER THE SAME NAMES: 'import', 'namespace', 'open', 'def', 'theorem' AND NOTHING ELSE: no command of the shelf's: FOR A HAND-IN. Each laying: the table of numbers ('.._ren') and one theorem, a field a fact of the dump's own or the kernel's comparison; each contract: ONE APPLICATION.
-/
namespace Go.Proofs
open Go.Shelf
def Tryd.laysValid_ren : Go.Shelf.Ren := ⟨fun | 196 => 71 | 259 => 106 | n => n, fun | 9 => 9 | 4 => 4 | 3 => 3 | 5 => 5 | 12 => 12 | 119 => 117 | 0 => 0 | 46 => 94 | 139 => 120 | 138 => 119 | 53 => 51 | n => n, fun | 3 => 0 | 4 => 1 | n => n⟩
theorem Tryd.laysValid : Go.Proofs.Lays.n196 Tryd.prog Tryd.laysValid_ren := {
  mixed := by kernel_rfl
  f196 := Tryd.func71.trans (congrArg some (by kernel_rfl))
  f259 := Tryd.func106.trans (congrArg some (by kernel_rfl))
  t0 := Tryd.underlying0
  a0 := Tryd.isAgg0
  z0 := Tryd.sizeOf0
  v0 := Tryd.zeroValue0
  t3 := Tryd.underlying3
  a3 := Tryd.isAgg3
  z3 := Tryd.sizeOf3
  v3 := Tryd.zeroValue3
  t4 := Tryd.underlying4
  a4 := Tryd.isAgg4
  z4 := Tryd.sizeOf4
  v4 := Tryd.zeroValue4
  t5 := Tryd.underlying5
  a5 := Tryd.isAgg5
  z5 := Tryd.sizeOf5
  v5 := Tryd.zeroValue5
  t9 := Tryd.underlying9
  a9 := Tryd.isAgg9
  z9 := Tryd.sizeOf9
  v9 := Tryd.zeroValue9
  t12 := Tryd.underlying12
  a12 := Tryd.isAgg12
  z12 := Tryd.sizeOf12
  v12 := Tryd.zeroValue12
  t46 := Tryd.underlying94
  a46 := Tryd.isAgg94
  z46 := Tryd.sizeOf94
  v46 := Tryd.zeroValue94
  t53 := Tryd.underlying51
  a53 := Tryd.isAgg51
  z53 := Tryd.sizeOf51
  v53 := Tryd.zeroValue51
  t119 := Tryd.underlying117
  a119 := Tryd.isAgg117
  z119 := Tryd.sizeOf117
  t138 := Tryd.underlying119
  a138 := Tryd.isAgg119
  z138 := Tryd.sizeOf119
  v138 := Tryd.zeroValue119
  t139 := Tryd.underlying120
  a139 := Tryd.isAgg120
  z139 := Tryd.sizeOf120
  v139 := Tryd.zeroValue120
  g3 := by kernel_rfl
  g4 := by kernel_rfl }
open Go.RowKit Go.Lib in
theorem Tryd.utf8_ValidString (s : ByteArray) (w : World) (hs : s.size ≤ 9223372036854775807) (hT : Lib.Utf8Tabs 0 1 w) :
    Calls Tryd.prog 71 #[.string s] w fun e w' => e = .returned (.bool (Lib.validD s.data.toList)) ∧ Below w.heap.size w w' := Any.utf8_ValidString Tryd.laysValid s w hs hT
end Go.Proofs
end

/- Functions of the seat as plain Lean functions, and that the calls do what these say; conditions stand in each theorem. (Written by a program of this seat's prover, by the kit's printer; Lean checks it.) · What a call may lean on: that tables of Go's library hold what their initialisers lay; it lasts over all that leaves old memory alone. · Worlds in which tables of Go's library lie as their initialisers lay them; and what a row's condition on them gives the walks. · term: what a table's memory says, and whether ids are there. -/
import Derived.Test.YtcaojgdnhmgmlaaDoorProg
import Derived.Below
import Derived.Deep.Draws
import Derived.Deep.AppendLies
import Derived.Maps.AppendAt
import Derived.OwnWalk
import Derived.Laws.BytesArg
import Derived.Laws.MakeOwn
import Derived.Laws.OwnMore
import Derived.Deep.OwnRows
import Derived.Tactics
import Derived.Lib.ConvBytes
import Derived.Laws.Slices
import Derived.WalkKit
import Derived.KernelRfl
import Derived.RowKit3
import Derived.Deep.LoopGhost
import Derived.Deep.QuietTactic
import Derived.BigQuiet
import Derived.WideLaws
import Derived.Deep.DeepCutAuto
import Derived.Deep.CutBlock
import Derived.Deep.RegionHeld3
import Derived.Laws.Rows
import Derived.Lib.AppendStr
import Derived.ArgAppend
import Derived.Laws.IdiomCopy
import Derived.OrdersHeld
import Derived.Laws.BitsLemmas
import Derived.RowKit
import Derived.Test.YtcaojgdnhmgmlaaDoorWWords
import Derived.Test.YtcaojgdnhmgmlaaDoorWLast
import Derived.Test.YtcaojgdnhmgmlaaDoorWTab
import Derived.Test.YtcaojgdnhmgmlaaDoorWFour
import Derived.Test.YtcaojgdnhmgmlaaDoorWQPut
import Derived.Test.YtcaojgdnhmgmlaaDoorWApart
import Derived.Test.YtcaojgdnhmgmlaaDoorWArr
import Derived.Test.YtcaojgdnhmgmlaaDoorWZeros
import Derived.Test.YtcaojgdnhmgmlaaDoorWFoot
import Derived.Test.YtcaojgdnhmgmlaaDoorWKept
import Derived.Test.YtcaojgdnhmgmlaaDoorWShare
import Derived.Test.YtcaojgdnhmgmlaaDoorWN
import Derived.Test.YtcaojgdnhmgmlaaDoorWFootNe
import Derived.Test.YtcaojgdnhmgmlaaDoorWAt
import Derived.Test.YtcaojgdnhmgmlaaDoorWEqStruct
import Derived.Test.YtcaojgdnhmgmlaaDoorWRepsOne
import Derived.Test.YtcaojgdnhmgmlaaDoorWInv
import Derived.Test.YtcaojgdnhmgmlaaDoorWInvWords
import Derived.Test.YtcaojgdnhmgmlaaDoorWGuard
import Derived.Test.YtcaojgdnhmgmlaaDoorWNEv
import Derived.Test.YtcaojgdnhmgmlaaDoorWMore
import Derived.Shelf.Unicode.DecodeAny
import Derived.Shelf.Strconv.Itoa3
import Derived.Test.YtcaojgdnhmgmlaaDoorRows
import Derived.Lib.LaidIn
import Derived.Lib.LaidU8T
import Derived.Lib.LaidTab
import Derived.Stop.LaidErr
import Derived.MakeChecks
import Derived.ProofKit
import Derived.Test.YtcaojgdnhmgmlaaDoorPTermPlaysx0
set_option linter.unusedVariables false
set_option linter.unusedSimpArgs false
section
namespace Go.Proofs.YtcaojgdnhmgmlaaDoor.Q
open Go.RowKit Go.Proofs.YtcaojgdnhmgmlaaDoorW.PrintWords Go.Proofs.YtcaojgdnhmgmlaaDoorW.PrintLast Go.Proofs.YtcaojgdnhmgmlaaDoorW.PrintMore
attribute [local go_sem] max2_int min2_int max_two min_two max_three min_three max_four min_four   -- for this text's walks alone
set_option linter.unusedVariables false
set_option linter.unusedSimpArgs false



def errW : Option Int → Value
  | none => .nilIface
  | some c => .iface 0 (.int .i64 c)
theorem errW_none : errW none = .nilIface := rfl
theorem errW_some (c : Int) : errW (some c) = .iface 0 (.int .i64 c) := rfl

theorem info5 : (Tryd.prog.info? 5).map (fun i => (i.zero, i.size, i.bytes)) = some (some (.int .u8 0), 1, 1) := by kernel_rfl
theorem info9 : (Tryd.prog.info? 9).map (fun i => (i.zero, i.size, i.bytes)) = some (some (.string ⟨#[]⟩), 1, 16) := by kernel_rfl
theorem info21 : (Tryd.prog.info? 21).map (fun i => (i.zero, i.size, i.bytes)) = some (some (.int .i32 0), 1, 4) := by kernel_rfl
-- the values' own types

end Go.Proofs.YtcaojgdnhmgmlaaDoor.Q
end
section
namespace Go.Proofs.YtcaojgdnhmgmlaaDoor.Q
open Go.RowKit Go.Shelf

/-- The powers of ten. -/
structure LaidN (w : World) : Prop where
  tab : Lib.TabIs Tryd.prog w "internal/strconv.uint64pow10" .u64 Lib.pow10Tab
theorem tabIs_below {n : String} {k : IntKind} {zs : List Int} {w W : World} (h : Lib.TabIs Tryd.prog w n k zs) (hb : Below w.heap.size w W) : Lib.TabIs Tryd.prog W n k zs := by
  unfold Lib.TabIs World.var? at h ⊢
  cases hg : Tryd.prog.globalNamed n with
  | none => rw [hg] at h; cases h
  | some g =>
    rw [hg] at h
    simp only [Option.bind_some] at h ⊢
    have hlt : g < w.heap.size := by
      rcases Nat.lt_or_ge g w.heap.size with h' | h'
      · exact h'
      · rw [Array.getElem?_eq_none h'] at h; cases h
    rw [hb.block g hlt]
    exact h
theorem LaidN.below {w W : World} (h : LaidN w) (hb : Below w.heap.size w W) : LaidN W := ⟨tabIs_below h.tab hb⟩

/-- The two tables of package unicode/utf8. -/
structure LaidU (w : World) : Prop where
  tabs : Lib.Utf8Tabs 0 1 w
theorem LaidU.below {w W : World} (h : LaidU w) (hb : Below w.heap.size w W) : LaidU W := ⟨Utf8Tabs_below h.tabs hb⟩
end Go.Proofs.YtcaojgdnhmgmlaaDoor.Q
end
section
namespace Go.Proofs.YtcaojgdnhmgmlaaDoor
open Go.RowKit Go.Shelf Q
set_option linter.unusedVariables false

/-- A datum's cells: an array of numbers, or of structs of numbers. -/
def cell1 : DataW Unit → List Value
  | .lit (.int k n) => [Value.int k n]
  | .agg l => l.flatMap fun
    | .lit (.int k n) => [Value.int k n]
    | _ => []
  | _ => []
def cells2 : DataW Unit → List Value
  | .agg l => l.flatMap cell1
  | _ => []
def put (h : Array Obj) (g : Nat) (cs : List Value) : Array Obj := h.modify g fun
  | .cells _ t frozen => .cells cs.toArray t frozen
  | o => o

noncomputable def worldN (os : Os) : World :=
  let w0 := World.holding Tryd.prog os ⟨#[], #[], []⟩
  { w0 with heap := put (put (put w0.heap 4 (cells2 Rows.laid_math_bits_deBruijn32tab)) 5 (cells2 Rows.laid_math_bits_deBruijn64tab)) 3 (cells2 Rows.laid_internal_strconv_uint64pow10) }
theorem met_N (os : Os) (args : Array Value) : laidMetH Tryd.prog Rows.numDigitsRow.laid ((worldN os).forCall (fun _ _ => 0) ⟨#[], args, []⟩).memory := by
  rw [MakeChecks.laidMetH_plain _ _ _ (by kernel_rfl)]
  exact (LaidIn.of_run (l := Rows.numDigitsRow.laid) [4, 5, 3] 8 (by kernel_rfl) (by kernel_rfl) (by kernel_rfl) (by kernel_rfl)).met
theorem laidN_of {W : World} (h : laidMetH Tryd.prog Rows.numDigitsRow.laid W) : LaidN W := by
  rw [MakeChecks.laidMetH_plain _ _ _ (by kernel_rfl)] at h
  have h3 := h.tail.tail
  exact ⟨Lib.tabIs_of_head (g := 3) (t := 159) (e := 51) (n := 20) (by kernel_rfl) (by kernel_rfl) Tryd.underlying159 Tryd.underlying51 (by kernel_rfl) (by kernel_rfl) h3⟩
end Go.Proofs.YtcaojgdnhmgmlaaDoor
end
section
namespace Go.Proofs.YtcaojgdnhmgmlaaDoor.T
open Go.RowKit Go.Proofs.YtcaojgdnhmgmlaaDoor.PTermPlays Go.Proofs.YtcaojgdnhmgmlaaDoorW.PrintWords Go.Proofs.YtcaojgdnhmgmlaaDoorW.PrintLast Go.Proofs.YtcaojgdnhmgmlaaDoorW.PrintMore
set_option linter.unusedVariables false

/-- The program's value of a term. -/
def nodeV (x : S104) : Value :=
  if x.f0 = 1 then .iface 123 (.agg #[.int .i64 x.f4]) else if x.f0 = 2 then .iface 125 (.agg #[.string x.f3]) else if x.f0 = 3 then .iface 134 (.agg #[.int .i64 x.f1, .string x.f3])
  else if x.f0 = 4 then .iface 136 (.agg #[.int .i64 x.f1, .int .i64 x.f2]) else .iface 131 (.agg #[.int .i64 x.f1, .int .i64 x.f2])
theorem nodeV_one (x : S104) : (nodeV x).oneCell' = true := by
  unfold nodeV; split; rfl; split; rfl; split; rfl; split <;> rfl
def nodeK : Kd S104 := Kd.scalar nodeV nodeV_one
def great : Int := 1073741824
def szNode (ss : List Int) (x : S104) : Int :=
  if x.f0 = 1 ∨ x.f0 = 2 then 1 else if x.f0 = 3 then min (1 + rdOf 0 ss (x.f1 - 1)) great else min (min (1 + rdOf 0 ss (x.f1 - 1)) great + rdOf 0 ss (x.f2 - 1)) great
def szs (xs : List S104) : List Int := xs.foldl (fun ss x => ss ++ [szNode ss x]) []
def keyV (x : S104) : Value := .agg #[.int .i64 x.f0, .int .i64 x.f1, .int .i64 x.f2, .string x.f3]
/-- What the map holds, from the place i on. -/
def pairs : List S104 → Nat → List (Value × Value)
  | [], _ => []
  | x :: t, i => if x.f0 = 1 then pairs t (i + 1) else (keyV x, .int .i64 ((i : Int) + 1)) :: pairs t (i + 1)
def atomsN (xs : List S104) : Int := (xs.filter fun x => x.f0 == 1).length
structure TabR (base : Nat) (F : Nat → Prop) (W : World) (tb mp : Nat) (A B : Value) (xs : List S104) : Prop where
  cells : W.heap[tb]? = some (.cells #[A, B, .map (some mp), .int .i64 (atomsN xs)] 100 (0, 0))
  ft : F tb
  fm : F mp
  bt : base ≤ tb
  bm : base ≤ mp
  la : nodeK.R 20 W base (fun k => F k ∧ k ≠ tb ∧ k ≠ mp) A xs
  lb : (Kd.int .i64).R 3 W base (fun k => F k ∧ k ≠ tb ∧ k ≠ mp ∧ some k ≠ A.ownBlock) B (szs xs)
  map : ∃ es clk, W.heap[mp]? = some (.map es clk) ∧ es.toList.map (fun e => (e.key, e.val)) = pairs xs 0
theorem TabR.step {base : Nat} {F : Nat → Prop} {W W' : World} {tb mp : Nat} {A B : Value} {xs : List S104} (h : TabR base F W tb mp A B xs) (hm : ∀ k, F k → k < W.heap.size → W'.heap[k]? = W.heap[k]?) : TabR base F W' tb mp A B xs := by
  obtain ⟨es, clk, h1, h2⟩ := h.map
  exact ⟨(hm tb h.ft (Array.getElem?_eq_some_iff.1 h.cells).1).trans h.cells, h.ft, h.fm, h.bt, h.bm, Kd.R_step h.la (fun k hk hl => hm k hk.1 hl), Kd.R_step h.lb (fun k hk hl => hm k hk.1 hl), es, clk, (hm mp h.fm (Array.getElem?_eq_some_iff.1 h1).1).trans h1, h2⟩
theorem TabR.below {base : Nat} {F : Nat → Prop} {W W' : World} {tb mp : Nat} {A B : Value} {xs : List S104} (h : TabR base F W tb mp A B xs) (hb : Below W.heap.size W W') : TabR base F W' tb mp A B xs := h.step (fun k _ hl => hb.block k hl)
def thereB (n : Nat) (id : Int) : Bool := decide (1 ≤ id) && decide (id ≤ (n : Int))

theorem there1_calls (w : World) (bx tb : Nat) (id : Int) (A0 : Option Addr) (n c : Nat) (hb : w.cell? ⟨bx, 0, none⟩ = some (.pointer (some ⟨tb, 0, none⟩))) (ht : w.cell? ⟨tb, 0, none⟩ = some (.slice A0 n c)) :
    Calls Tryd.prog 125 #[.int .i64 id, .pointer (some ⟨bx, 0, none⟩)] w fun e w' => e = .returned (.bool (!thereB n id)) ∧ w = w' := by
  unfold thereB
  by_cases h1 : id < 1
  · have e1 : decide (id < 1) = true := decide_eq_true h1
    rw [decide_eq_false (show ¬ 1 ≤ id by omega)]
    go_enter Tryd.func125, Tryd.ntmps125
    go_wp2_with fail
    go_ret
    exact ⟨rfl, rfl⟩
  · have e1 : decide (id < 1) = false := decide_eq_false h1
    rw [decide_eq_true (show 1 ≤ id by omega)]
    by_cases h2 : id ≤ n
    · have e2 : decide (id > (n : Int)) = false := decide_eq_false (by omega)
      have e3 : decide ((n : Int) < id) = false := decide_eq_false (by omega)
      rw [decide_eq_true h2]
      clear h1 h2
      go_enter Tryd.func125, Tryd.ntmps125
      go_wp2_with fail
      go_ret
      exact ⟨rfl, rfl⟩
    · have e2 : decide (id > (n : Int)) = true := decide_eq_true (by omega)
      have e3 : decide ((n : Int) < id) = true := decide_eq_true (by omega)
      rw [decide_eq_false h2]
      clear h1 h2
      go_enter Tryd.func125, Tryd.ntmps125
      go_wp2_with fail
      go_ret
      exact ⟨rfl, rfl⟩
end Go.Proofs.YtcaojgdnhmgmlaaDoor.T
end

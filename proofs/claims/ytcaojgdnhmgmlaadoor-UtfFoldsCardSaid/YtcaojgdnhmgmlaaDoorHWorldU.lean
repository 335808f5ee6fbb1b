/- Worlds in which the two tables of unicode/utf8 lie as their initialisers lay them; and what a row's condition on them gives the walks. -/
import Derived.Test.YtcaojgdnhmgmlaaDoorHWorld
import Derived.Test.YtcaojgdnhmgmlaaDoorShValid
namespace Go.Proofs.YtcaojgdnhmgmlaaDoor
open Go.RowKit Go.Shelf Q
set_option linter.unusedVariables false

noncomputable def worldU (os : Os) : World :=
  let w0 := World.holding Tryd.prog os ⟨#[], #[], []⟩
  { w0 with heap := put (put w0.heap 0 (cell1 Rows.laid_unicode_utf8_first)) 1 (cells2 Rows.laid_unicode_utf8_acceptRanges) }
theorem met_U (os : Os) (args : Array Value) : laidMetH Tryd.prog Rows.utfRunesRow.laid ((worldU os).forCall (fun _ _ => 0) ⟨#[], args, []⟩).memory := by
  rw [MakeChecks.laidMetH_plain _ _ _ (by kernel_rfl)]
  exact (LaidIn.of_run (l := Rows.utfRunesRow.laid) [1, 0] 8 (by kernel_rfl) (by kernel_rfl) (by kernel_rfl) (by kernel_rfl)).met
theorem laidU_of {W : World} (h : laidMetH Tryd.prog Rows.utfRunesRow.laid W) : LaidU W := by
  rw [MakeChecks.laidMetH_plain _ _ _ (by kernel_rfl)] at h
  have e1 : (Rows.laid_unicode_utf8_acceptRanges : DataW Unit) = Lib.acceptData := by kernel_rfl
  have e2 : Rows.laid_unicode_utf8_first = Lib.firstData := by kernel_rfl
  have ha := Lib.laidMet.reads h (.head _)
  have hf := Lib.laidMet.reads h (.tail _ (.head _))
  rw [e1] at ha
  rw [e2] at hf
  exact ⟨utf8Tabs_of_readsT (U8Types.of196 Tryd.laysValid) ⟨by kernel_rfl, by kernel_rfl, by kernel_rfl, by kernel_rfl, by kernel_rfl, by kernel_rfl, by kernel_rfl⟩ hf ha⟩
end Go.Proofs.YtcaojgdnhmgmlaaDoor

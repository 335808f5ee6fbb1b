/- What a call may lean on: that tables of Go's library hold what their initialisers lay; it lasts over all that leaves old memory alone. -/
import Derived.Test.YtcaojgdnhmgmlaaDoorQx0
import Derived.Shelf.Unicode.DecodeAny
import Derived.Shelf.Strconv.Itoa3
namespace Go.Proofs.YtcaojgdnhmgmlaaDoor.Q
open Go.RowKit Go.Shelf

/-- The powers of ten. -/
structure LaidN (w : World) : Prop where
  tab : Lib.TabIs Tryd.prog w "internal/strconv.uint64pow10" .u64 Lib.pow10Tab
theorem tabIs_below {n : String} {k : IntKind} {zs : List Int} {w W : World} (h : Lib.TabIs Tryd.prog w n k zs) (hb : Below w.heap.size w W) : Lib.TabIs Tryd.prog W n k zs := by
  unfold Lib.TabIs World.var? at h ⊢
  cases hg : Tryd.prog.globalNamed n with
  | none => rw [hg] at h; cases h
  | some g =>
    rw [hg] at h
    simp only [Option.bind_some] at h ⊢
    have hlt : g < w.heap.size := by
      rcases Nat.lt_or_ge g w.heap.size with h' | h'
      · exact h'
      · rw [Array.getElem?_eq_none h'] at h; cases h
    rw [hb.block g hlt]
    exact h
theorem LaidN.below {w W : World} (h : LaidN w) (hb : Below w.heap.size w W) : LaidN W := ⟨tabIs_below h.tab hb⟩

/-- The two tables of package unicode/utf8. -/
structure LaidU (w : World) : Prop where
  tabs : Lib.Utf8Tabs 0 1 w
theorem LaidU.below {w W : World} (h : LaidU w) (hb : Below w.heap.size w W) : LaidU W := ⟨Utf8Tabs_below h.tabs hb⟩
end Go.Proofs.YtcaojgdnhmgmlaaDoor.Q

/- A text is valid where its runes stop nowhere. -/
import Derived.Test.YtcaojgdnhmgmlaaDoorUtfDefs
import Derived.Lib.ValidU
import Derived.Lib.TrimUEq
namespace Go.Proofs.YtcaojgdnhmgmlaaDoor.Q
open Go.RowKit Go.Lib
set_option linter.unusedVariables false

theorem validGo_scan (s : ByteArray) : ∀ k p, validGoD k (s.data.toList.drop p) = (scan s k p).2.isNone
  | 0, p => rfl
  | k + 1, p => by
    have hsz : s.data.toList.length = s.size := by cases s; simp [ByteArray.size]
    unfold validGoD
    by_cases hp : p < s.size
    · rw [if_neg (by intro h; have := congrArg List.length h; rw [List.length_drop, hsz] at this; simp at this; omega), decodeL_drop]
      have hw := wid_pos s p
      cases hb : brk s p
      · rw [scan_next s k p hp hb, if_neg (by intro h; simp [brk, h.1, h.2] at hb), List.drop_drop, validGo_scan s k _]
      · rw [scan_brk s k p hp hb, if_pos (by simp [brk] at hb; omega)]; rfl
    · rw [if_pos (List.drop_of_length_le (by omega)), scan_end s _ p hp]; rfl
theorem valid_runes (s : ByteArray) : validD s.data.toList = (runesOf s).2.isNone := by
  have hsz : s.data.toList.length = s.size := by cases s; simp [ByteArray.size]
  unfold validD runesOf
  rw [hsz]
  have := validGo_scan s s.size 0
  rwa [List.drop_zero] at this
end Go.Proofs.YtcaojgdnhmgmlaaDoor.Q

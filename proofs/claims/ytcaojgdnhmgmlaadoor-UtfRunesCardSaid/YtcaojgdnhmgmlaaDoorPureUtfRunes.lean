/- UtfRunes: the runes of a text are the document's, and the text of runes. -/
import Derived.Test.YtcaojgdnhmgmlaaDoorQx23
import Derived.Test.YtcaojgdnhmgmlaaDoorUtfRef2
set_option linter.unusedVariables false
set_option linter.unusedSimpArgs false
namespace Go.Proofs.YtcaojgdnhmgmlaaDoor.Pure
open Go.RowKit Go.Proofs.YtcaojgdnhmgmlaaDoor.Q Go.Proofs.YtcaojgdnhmgmlaaDoorW.PrintWords Go.Proofs.YtcaojgdnhmgmlaaDoorW.PrintLast
open Go.Lib (encodeRune encodeRuneZ)

theorem UtfRunes : oubliettelaw02_UtfRunes.Pure := by
  intro s l _ _ _ _
  refine ⟨s.size + l.length + 20, ?_⟩
  unfold oubliettelaw02_UtfRunes.f
  have ht : ∀ k, oubliettelaw02_UtfRunes.j0 (k + 1) s l true = some true := fun k => by
    rw [oubliettelaw02_UtfRunes.j0, if_pos rfl, alive_eq]; rfl
  split
  · exact ht _
  · rename_i hs
    by_cases hl : (l.length : Int) > 100
    · rw [decide_eq_true hl]; exact ht _
    · rw [decide_eq_false hl, show s.size + l.length + 20 = (s.size + l.length + 19) + 1 by omega, oubliettelaw02_UtfRunes.j0, if_neg (by simp)]
      have hq := runes_len s
      have hsame : oubliettelaw02_same.f (s.size + l.length + 19) (runesR (runesOf s)).1 (runesR (runesOf s)).1 = some true := by
        apply same_eq
        · unfold runesR; split <;> simp <;> omega
        · unfold runesR; split <;> simp <;> omega
      rw [utf_Runes.f, if_pos (by omega), Option.bind_some, runes_eq s (by omega) _ (by omega), Option.bind_some, utf_Text.f, if_pos (by omega), Option.bind_some, text_eq l (by omega) _ (by omega), Option.bind_some, hsame, Option.bind_some,
        if_pos rfl, if_pos rfl, if_pos rfl, if_pos rfl, if_pos rfl, if_pos rfl, alive_eq]
      rfl
end Go.Proofs.YtcaojgdnhmgmlaaDoor.Pure

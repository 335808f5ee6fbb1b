/- NumDigits: the digits of any number, and the number of any digits, or why they are none, are the document's. -/
import Derived.Test.YtcaojgdnhmgmlaaDoorQx7
import Derived.Test.YtcaojgdnhmgmlaaDoorDigits
set_option linter.unusedVariables false
namespace Go.Proofs.YtcaojgdnhmgmlaaDoor.Pure
open Go.RowKit Go.Proofs.YtcaojgdnhmgmlaaDoor.Q Go.Proofs.YtcaojgdnhmgmlaaDoorW.PrintWords Go.Proofs.YtcaojgdnhmgmlaaDoorW.PrintLast

theorem NumDigits : oubliettelaw01_NumDigits.Pure := by
  intro a0 a1 a2 h0 _ h2
  obtain ⟨h0, h0'⟩ := i64_of h0
  refine ⟨20, ?_⟩
  unfold oubliettelaw01_NumDigits.f
  by_cases hbig : (a1.size : Int) > 100
  · rw [if_pos hbig, num_alive]
    rfl
  · rw [if_neg hbig, parse_some, Option.bind_some, refparse_ev a1 a2 20 (by omega), Option.bind_some, print_some a0 h0 h0', Option.bind_some, refprint_ev a0 h0' 20 (by omega), Option.bind_some, if_pos rfl, if_pos rfl, if_pos rfl, num_alive]
    rfl
end Go.Proofs.YtcaojgdnhmgmlaaDoor.Pure

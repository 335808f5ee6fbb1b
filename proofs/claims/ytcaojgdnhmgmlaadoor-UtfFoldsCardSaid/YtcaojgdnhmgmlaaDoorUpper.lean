/- utf.Upper in plain words, and Fold's function, by hand. -/
import Derived.Test.YtcaojgdnhmgmlaaDoorUtfDefs
import Derived.Test.YtcaojgdnhmgmlaaDoorQx30
namespace Go.Proofs.YtcaojgdnhmgmlaaDoor.Q
open Go.RowKit Go.Sort Go.Proofs.YtcaojgdnhmgmlaaDoorW.PrintWords Go.Proofs.YtcaojgdnhmgmlaaDoorW.PrintLast Go.Proofs.YtcaojgdnhmgmlaaDoorW.PrintMore
set_option linter.unusedVariables false
set_option linter.unusedSimpArgs false
theorem upper_eq (a : Int) : utf_Upper.f a = some (upr a) := by
  unfold utf_Upper.f upr
  by_cases h1 : 65 ≤ a <;> by_cases h2 : a ≤ 90 <;> by_cases h3 : 192 ≤ a <;> by_cases h4 : a ≤ 222 <;> simp [h1, h2, h3, h4, bne] <;> first | omega | (by_cases h5 : a = 215 <;> simp [h5])
theorem small_calls (a : Int) (w : World) (h0 : 0 ≤ a) (h1 : a ≤ 1114111) :
    Calls Tryd.prog 72 #[.int .i32 a] w fun e w' => e = .returned (.int .i32 (sml a)) ∧ Drawn0 w w' := by
  have hw : wrap32 (a + 32) = a + 32 := by unfold wrap32; omega
  have HU := Aside0.mk (utf_Upper.calls a (upr a) w (upper_eq a))
  cases hu : upr a
  · have hs : sml a = a := by rw [sml, hu]; rfl
    rw [hs]
    go_enter Tryd.func72, Tryd.ntmps72
    go_wp2_with fail
    refine HU.out.mono ?_
    rw [hu]
    rintro e w1 ⟨rfl, hb⟩
    go_wp2_with fail
    go_ret
    exact ⟨rfl, hb⟩
  · have hs : sml a = a + 32 := by rw [sml, hu]; rfl
    rw [hs]
    go_enter Tryd.func72, Tryd.ntmps72
    go_wp2_with fail
    refine HU.out.mono ?_
    rw [hu]
    rintro e w1 ⟨rfl, hb⟩
    go_wp2_with fail
    go_ret
    exact ⟨rfl, hb⟩
end Go.Proofs.YtcaojgdnhmgmlaaDoor.Q

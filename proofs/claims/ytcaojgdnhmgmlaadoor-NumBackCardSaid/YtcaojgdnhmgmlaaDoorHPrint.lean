/- num.Print, by hand: the digits of a number, none below 0; where the library's powers of ten are laid. -/
import Derived.Test.YtcaojgdnhmgmlaaDoorHLaid
import Derived.Test.YtcaojgdnhmgmlaaDoorShItoa
namespace Go.Proofs.YtcaojgdnhmgmlaaDoor.Q
open Go.RowKit Go.Sort Go.Proofs.YtcaojgdnhmgmlaaDoorW.PrintWords Go.Proofs.YtcaojgdnhmgmlaaDoorW.PrintLast Go.Proofs.YtcaojgdnhmgmlaaDoorW.PrintMore
set_option linter.unusedVariables false

def num_Print.f (a0 : Int) : Option (ByteArray) := if -9223372036854775808 ≤ a0 ∧ a0 ≤ 9223372036854775807 then some (if a0 < 0 then ⟨#[]⟩ else ⟨(Lib.itoa a0).toArray⟩) else none

theorem below_grown_drewN (w : World) (k : Nat) (os : Array Obj) : Below w.heap.size w (grow (w.drewN k) os) :=
  ⟨rfl, rfl, rfl, by simp [grow, World.drewN], fun i hi => by simp [grow, World.drewN, Array.getElem?_append_left hi]⟩
theorem num_Print.calls (a0 : Int) (r : ByteArray) (w : World) (hlaidN : LaidN w) (h : num_Print.f a0 = some r) :
    Calls Tryd.prog 39 #[.int .i64 a0] w fun e w' => e = .returned (.string r) ∧ Below w.heap.size w w' := by
  unfold num_Print.f at h
  split at h
  case isFalse => cases h
  rename_i hb
  obtain rfl := Option.some.inj h
  clear h
  by_cases hn : a0 < 0
  · rw [if_pos hn]
    have e1 : decide (a0 < 0) = true := decide_eq_true hn
    clear hb hlaidN
    go_enter Tryd.func39, Tryd.ntmps39
    go_wp2_with fail
    go_ret
    exact ⟨rfl, Below.refl _ _⟩
  · rw [if_neg hn]
    have e1 : decide (a0 < 0) = false := decide_eq_false hn
    have HI := Aside0.mk (Tryd.strconv_Itoa a0 hb.1 hb.2 w hlaidN.tab)
    clear hb hlaidN
    go_enter Tryd.func39, Tryd.ntmps39
    go_wp2_with fail
    refine HI.out.mono ?_
    rintro e w' ⟨rfl, k, os, hw⟩
    have HB := Aside0.mk (show Below w.heap.size w w' by rw [hw]; exact below_grown_drewN w k os)
    clear hw
    go_wp2_with fail
    go_ret
    exact ⟨rfl, HB.out⟩
end Go.Proofs.YtcaojgdnhmgmlaaDoor.Q

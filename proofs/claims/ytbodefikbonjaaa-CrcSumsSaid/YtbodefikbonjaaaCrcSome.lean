/- What the sums' functions hand back at bytes, plainly. -/
import Derived.Test.YtbodefikbonjaaaQx1
import Derived.Test.YtbodefikbonjaaaCrcPlain
namespace Go.Proofs.Ytbodefikbonjaaa.Pure
open Go.RowKit Go.Proofs.Ytbodefikbonjaaa.Q Go.Proofs.YtbodefikbonjaaaW.PrintWords Go.Proofs.YtbodefikbonjaaaW.PrintLast

theorem more_some (s : Int) (l : List Int) (h : ∀ x ∈ l, (Lit.int .u8 x).wf = true) : crc_More.f s l = some (crcMore s l) := by
  unfold crc_More.f
  rw [if_pos h]
theorem of_some (l : List Int) (h : ∀ x ∈ l, (Lit.int .u8 x).wf = true) : crc_Of.f l = some (crcMore 0 l) := by
  unfold crc_Of.f
  rw [more_some 0 l h]
  rfl
theorem alive_some : oubliettelaw06_alive.f = some true := by
  unfold oubliettelaw06_alive.f
  rw [of_some _ alive_wf, alive_sum]
  rfl

end Go.Proofs.Ytbodefikbonjaaa.Pure

/- NumBytes: the bytes of any number, and the number of any bytes, are the document's; no condition. -/
import Derived.Test.YtbodefikbonjaaaQx3
import Derived.Test.YtbodefikbonjaaaNumPlain
set_option linter.unusedVariables false
namespace Go.Proofs.Ytbodefikbonjaaa.Pure
open Go.RowKit Go.Proofs.Ytbodefikbonjaaa.Q Go.Proofs.YtbodefikbonjaaaW.PrintWords Go.Proofs.YtbodefikbonjaaaW.PrintLast

theorem put_len (n size : Int) : (if size < 1 ∨ 8 < size then [] else putL n size.toNat).length ≤ 8 := by
  split
  · simp
  · rw [putL_len]; omega
theorem NumBytes : oubliettelaw01_NumBytes.Pure := by
  intro a0 a1 l2 h0 h1 _ _ hw
  obtain ⟨h0, h0'⟩ := u64_of h0
  by_cases hbig : (l2.length : Int) > 100
  · refine ⟨0, ?_⟩
    unfold oubliettelaw01_NumBytes.f
    rw [if_pos hbig, num_alive]
    rfl
  · obtain ⟨K1, g1⟩ := get_ev l2 hw
    obtain ⟨K2, g2⟩ := refget_ev l2 hw
    obtain ⟨K3, g3⟩ := put_ev a0 a1 h0 h0'
    have hl := put_len a0 a1
    obtain ⟨b, hb⟩ : ∃ b, b = (if a1 < 1 ∨ 8 < a1 then [] else putL a0 a1.toNat) := ⟨_, rfl⟩
    obtain ⟨K4, g4⟩ := same_ev b b (by rw [hb]; omega)
    refine ⟨K1 + K2 + K3 + K4, ?_⟩
    unfold oubliettelaw01_NumBytes.f
    rw [if_neg hbig, g1 _ (by omega), Option.bind_some, g2 _ (by omega), Option.bind_some, num_put_some a0 a1 h0 h0', Option.bind_some, g3 _ (by omega), Option.bind_some, ← hb, g4 _ (by omega), Option.bind_some,
      decide_eq_true rfl, if_pos rfl, if_pos rfl, if_pos rfl, num_alive]
    rfl
end Go.Proofs.Ytbodefikbonjaaa.Pure

/- CrcParts: the sum of two rows is the one that goes on from the first one's; no condition. -/
import Derived.Test.YtbodefikbonjaaaQx1
import Derived.Test.YtbodefikbonjaaaCrcPlain
namespace Go.Proofs.Ytbodefikbonjaaa.Pure
open Go.RowKit Go.Proofs.Ytbodefikbonjaaa.Q Go.Proofs.YtbodefikbonjaaaW.PrintWords Go.Proofs.YtbodefikbonjaaaW.PrintLast

theorem more_some (s : Int) (l : List Int) (h : ∀ x ∈ l, (Lit.int .u8 x).wf = true) : crc_More.f s l = some (crcMore s l) := by
  unfold crc_More.f
  rw [if_pos h]
theorem of_some (l : List Int) (h : ∀ x ∈ l, (Lit.int .u8 x).wf = true) : crc_Of.f l = some (crcMore 0 l) := by
  unfold crc_Of.f
  rw [more_some 0 l h]
  rfl
theorem alive_some : oubliettelaw06_alive.f = some true := by
  unfold oubliettelaw06_alive.f
  rw [of_some _ alive_wf, alive_sum]
  rfl

theorem CrcParts : oubliettelaw06_CrcParts.Pure := by
  intro l0 l1 _ _ hw0 _ _ hw1
  refine ⟨1, ?_⟩
  unfold oubliettelaw06_CrcParts.f
  split
  · simp only [oubliettelaw06_CrcParts.j0, if_true, alive_some, Option.bind_some]
  · rename_i h0
    simp only [oubliettelaw06_CrcParts.j0]
    split
    · rw [alive_some]; rfl
    · rename_i h1
      simp only [decide_eq_true_eq] at h1
      obtain ⟨m0, rfl, hm0⟩ := bytes_nat l0 hw0
      obtain ⟨m1, rfl, hm1⟩ := bytes_nat l1 hw1
      simp only [List.length_map] at h0 h1
      have hj : oublietteref01_Join.f (m0.map fun x : Nat => (x : Int)) (m1.map fun x : Nat => (x : Int)) = some ((m0 ++ m1).map fun x : Nat => (x : Int)) := by
        unfold oublietteref01_Join.f
        simp only [List.length_nil, List.length_map, Nat.zero_add, List.nil_append, Option.bind_some]
        rw [if_pos (by omega), if_pos (by omega), List.map_append]
      have hm : ∀ x ∈ m0 ++ m1, x < 256 := by
        intro x hx
        rcases List.mem_append.1 hx with h | h
        · exact hm0 x h
        · exact hm1 x h
      rw [hj, Option.bind_some, of_some _ (nat_wf _ hm), Option.bind_some, of_some _ hw0, Option.bind_some, more_some _ _ hw1, Option.bind_some]
      rw [show (0 : Int) = ((0 : Nat) : Int) from rfl, crcMore_nat 0 m0 (by omega) hm0, crcMore_nat 0 _ (by omega) hm, crcMore_nat _ m1 (moreN_lt 0 m0 (by omega) hm0) hm1, moreN_append]
      rw [if_pos rfl, alive_some]
      rfl
end Go.Proofs.Ytbodefikbonjaaa.Pure

/- CrcTurned: bytes of which one is turned have another sum; no condition. -/
import Derived.Test.YtbodefikbonjaaaQx1
import Derived.Test.YtbodefikbonjaaaCrcSome
namespace Go.Proofs.Ytbodefikbonjaaa.Pure
open Go.RowKit Go.Proofs.Ytbodefikbonjaaa.Q Go.Proofs.YtbodefikbonjaaaW.PrintWords Go.Proofs.YtbodefikbonjaaaW.PrintLast

theorem mod_some (a b : Int) (hb : 0 < b) (hb2 : b ≤ 1000) : ∃ i, oublietteref01_Mod.f a b = some i ∧ 0 ≤ i ∧ i < b := by
  unfold oublietteref01_Mod.f
  rw [if_neg (by omega), if_neg (by omega)]
  have h1 : Int.tmod a b < b := Int.tmod_lt_of_pos a hb
  have h2 : -b < Int.tmod a b := by
    have := Int.tmod_lt_of_pos (-a) hb
    rw [Int.neg_tmod] at this
    omega
  split
  · refine ⟨_, rfl, ?_⟩
    unfold wrap64
    omega
  · exact ⟨_, rfl, by omega, h1⟩

/-- Of rows of bytes of which one is another, the sums part. -/
theorem turned_parts (p q : List Nat) (x y : Nat) (hp : ∀ z ∈ p, z < 256) (hq : ∀ z ∈ q, z < 256) (hx : x < 256) (hy : y < 256) (hne : x ≠ y) : moreN 0 (p ++ x :: q) ≠ moreN 0 (p ++ y :: q) := by
  intro h
  unfold moreN at h
  have h := xor_cancel_right _ _ _ h
  unfold Q.runN at h
  rw [List.foldl_append, List.foldl_append, List.foldl_cons, List.foldl_cons] at h
  have hc : List.foldl byteN (0 ^^^ 4294967295) p < 4294967296 := runN_lt p _ (by decide) hp
  exact hne (byteN_inj2 _ _ _ hc hx hy (runN_inj q _ _ (byteN_lt _ _ hc hx) (byteN_lt _ _ hc hy) hq h))

theorem CrcTurned : oubliettelaw06_CrcTurned.Pure := by
  intro l0 a1 a2 _ _ hw0 _ hw2
  refine ⟨1, ?_⟩
  unfold oubliettelaw06_CrcTurned.f
  split
  · simp only [oubliettelaw06_CrcTurned.j0, if_true, alive_some, Option.bind_some]
  · rename_i h0
    split
    · simp only [oubliettelaw06_CrcTurned.j0, if_true, alive_some, Option.bind_some]
    · rename_i h1
      simp only [oubliettelaw06_CrcTurned.j0]
      split
      · rw [alive_some]; rfl
      · rename_i h2
        have hc : a2 ≠ 0 := by simpa using h2
        have hlen : (0 : Int) < (l0.length : Int) := by omega
        obtain ⟨i, hi, hi0, hi1⟩ := mod_some a1 (l0.length : Int) hlen (by omega)
        obtain ⟨i, rfl⟩ := Int.eq_ofNat_of_zero_le hi0
        simp only [Option.bind_some, List.length_nil, List.nil_append, Nat.zero_add, hi]
        rw [if_pos (by omega), if_pos hi0, if_pos hi1]
        have hil : i < l0.length := by omega
        obtain ⟨m, rfl, hm⟩ := bytes_nat l0 hw0
        rw [List.length_map] at hil
        obtain ⟨c, rfl⟩ : ∃ c : Nat, a2 = (c : Int) := ⟨a2.toNat, by simp [Lit.wf, IntKind.min, IntKind.max, IntKind.signed, IntKind.bits] at hw2; omega⟩
        have hc8 : c < 256 := by simp [Lit.wf, IntKind.min, IntKind.max, IntKind.signed, IntKind.bits] at hw2; omega
        have hc0 : c ≠ 0 := fun e => hc (by rw [e]; rfl)
        have hr : rd (m.map fun x : Nat => (x : Int)) (i : Int) = ((m[i]'hil : Nat) : Int) := by
          unfold rd
          simp [List.getD_eq_getElem?_getD, hil]
        have hmi := hm _ (List.getElem_mem hil)
        have hy : m[i]'hil ^^^ c < 256 := Nat.xor_lt_two_pow (n := 8) hmi hc8
        rw [hr, u8_xor_nat _ _ hmi hc8, Int.toNat_natCast]
        have hset : (m.map fun x : Nat => (x : Int)).set i ((m[i]'hil ^^^ c : Nat) : Int) = ((m.set i (m[i]'hil ^^^ c)).map fun x : Nat => (x : Int)) := by
          rw [List.map_set]
        have hms : ∀ z ∈ m.set i (m[i]'hil ^^^ c), z < 256 := by
          intro z hz
          rcases List.mem_or_eq_of_mem_set hz with h | h
          · exact hm z h
          · rw [h]; exact hy
        rw [hset, of_some _ (nat_wf _ hms), of_some _ hw0]
        simp only [Option.bind_some]
        rw [show (0 : Int) = ((0 : Nat) : Int) from rfl, crcMore_nat 0 _ (by omega) hms, crcMore_nat 0 m (by omega) hm]
        have e1 : m = m.take i ++ m[i]'hil :: m.drop (i + 1) := by
          rw [List.getElem_cons_drop, List.take_append_drop]
        have e2 : m.set i (m[i]'hil ^^^ c) = m.take i ++ (m[i]'hil ^^^ c) :: m.drop (i + 1) := by
          rw [List.set_eq_take_append_cons_drop, if_pos hil]
        have hpart := turned_parts (m.take i) (m.drop (i + 1)) (m[i]'hil ^^^ c) (m[i]'hil) (fun z hz => hm z (List.mem_of_mem_take hz)) (fun z hz => hm z (List.mem_of_mem_drop hz)) hy hmi
          (fun h => hc0 (xor_cancel_left c 0 (m[i]'hil) (by rw [h, Nat.xor_zero])))
        rw [← e2, ← e1] at hpart
        rw [if_neg (by intro h; exact hpart (by exact_mod_cast h)), alive_some]
        rfl
end Go.Proofs.Ytbodefikbonjaaa.Pure

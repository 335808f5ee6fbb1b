/- What is written of a field is read of it, plainly. -/
import Derived.Test.YtbodefikbonjaaaTakeRd
namespace Go.Proofs.Ytbodefikbonjaaa.Q
open Go.RowKit Go.Proofs.YtbodefikbonjaaaW.PrintWords Go.Proofs.YtbodefikbonjaaaW.PrintLast Go.Proofs.YtbodefikbonjaaaW.PrintMore
set_option linter.unusedVariables false

theorem putL_succ (n : Int) (s : Nat) : putL n (s + 1) = putL (n / 256) s ++ [n % 256] := by
  unfold putL
  rw [List.range_succ, List.map_append]
  congr 1
  · apply List.map_congr_left
    intro j hj
    have hj' := List.mem_range.1 hj
    rw [Int.ediv_ediv_of_nonneg (by omega)]
    rw [show s + 1 - 1 - j = (s - 1 - j) + 1 by omega, Nat.mul_add, Int.pow_add, Int.mul_comm]
    rfl
  · simp
theorem pow8 (s : Nat) : (0 : Int) < 2 ^ (8 * s) := Int.pow_pos (by omega)
theorem getV_putL (s : Nat) : ∀ n : Int, 0 ≤ n → Pure.getV (putL n s) = n % 2 ^ (8 * s) := by
  induction s with
  | zero => intro n h; simp [putL, Pure.getV]
  | succ s ih =>
    intro n h
    rw [putL_succ, Pure.getV_snoc, ih (n / 256) (by omega)]
    have hM := pow8 s
    rw [show 8 * (s + 1) = 8 * s + 8 by omega, Int.pow_add]
    rw [show (2 : Int) ^ 8 = 256 from rfl]
    generalize (2 : Int) ^ (8 * s) = M at hM ⊢
    have h1 := Int.emod_nonneg (n / 256) (show M ≠ 0 by omega)
    have h2 := Int.emod_lt_of_pos (n / 256) hM
    have h3 := Int.mul_ediv_add_emod (n / 256) M
    have h4 := Int.mul_ediv_add_emod n 256
    generalize n / 256 / M = d at h3
    generalize n / 256 % M = t at h1 h2 h3 ⊢
    have e : n = (t * 256 + n % 256) + M * 256 * d := by
      have : M * 256 * d = 256 * (M * d) := by rw [Int.mul_comm M 256, Int.mul_assoc]
      rw [this]; omega
    conv => rhs; rw [e]
    rw [Int.add_mul_emod_self_left]
    exact (Int.emod_eq_of_lt (by omega) (by omega)).symm

/-- The field as it is read again. -/
def backF (x : S47) : S47 := ⟨x.f0, x.f1, if x.f0 = 0 then x.f2 % 256 else if x.f0 = 1 ∧ x.f1 < 8 then x.f2 % 2 ^ (8 * x.f1.toNat) else x.f2, x.f3⟩
/-- The size that it is asked for. -/
def backS (x : S47) : Int := if x.f1 < (if x.f0 = 2 then 65535 else 0) then (if x.f0 = 2 then 65535 else 0) else x.f1
theorem backS_0 (x1 x2 : Int) (x3 : List Int) : backS ⟨0, x1, x2, x3⟩ = if x1 < 0 then 0 else x1 := rfl
theorem backS_1 (x1 x2 : Int) (x3 : List Int) : backS ⟨1, x1, x2, x3⟩ = if x1 < 0 then 0 else x1 := rfl
theorem backS_2 (x1 x2 : Int) (x3 : List Int) : backS ⟨2, x1, x2, x3⟩ = if x1 < 65535 then 65535 else x1 := rfl
theorem backF_0 (x1 x2 : Int) (x3 : List Int) : (backF ⟨0, x1, x2, x3⟩).f2 = x2 % 256 := rfl
theorem backF_2 (x1 x2 : Int) (x3 : List Int) : (backF ⟨2, x1, x2, x3⟩).f2 = x2 := rfl
theorem backF_1 (x1 x2 : Int) (x3 : List Int) : (backF ⟨1, x1, x2, x3⟩).f2 = if x1 < 8 then x2 % 2 ^ (8 * x1.toNat) else x2 := by
  by_cases h : x1 < 8
  · rw [if_pos h]; simp [backF, h]
  · rw [if_neg h]; simp [backF, h]
theorem bytesN_field (l R : List Int) (h : l.length ≤ 300) : bytesN (fieldB l ++ R) = l.length := by
  unfold bytesN fieldB
  rw [List.append_assoc, List.take_append_of_le_length (by rw [Pure.putL_len]; omega), List.take_of_length_le (by rw [Pure.putL_len]; omega), getV_putL 2 _ (by omega)]
  rw [show (2 : Int) ^ (8 * 2) = 65536 from rfl]
  omega
theorem back_read (x : S47) (R : List Int) (hx : ltF x) (h2 : 0 ≤ x.f2 ∧ x.f2 ≤ 18446744073709551615) (hk : ¬ (x.f0 = 1 ∧ (x.f1 < 1 ∨ 8 < x.f1))) :
    rdOk x.f0 (backS x) (wrB x ++ R) 0 (backF x) = true ∧ nxt x.f0 (backS x) (wrB x ++ R) 0 = (R, 0) := by
  unfold wrB
  by_cases k0 : x.f0 = 0
  · rw [if_pos k0]
    refine ⟨?_, ?_⟩
    · rw [rdOk, if_pos k0, valB, if_pos ⟨rfl, by simp⟩]
      simp [rd, backF, k0]
    · rw [nxt, if_neg (by decide), if_pos k0, if_pos (by simp)]; simp
  · rw [if_neg k0]
    by_cases k1 : x.f0 = 1
    · rw [if_pos k1, if_neg (fun h => hk ⟨k1, h⟩)]
      have hs : 1 ≤ x.f1 ∧ x.f1 ≤ 8 := by
        refine ⟨?_, ?_⟩ <;> (rcases Int.lt_or_le x.f1 1 with h | h <;> rcases Int.lt_or_le 8 x.f1 with h' | h' <;> first | omega | exact absurd ⟨k1, by omega⟩ hk)
      obtain ⟨s, hse⟩ := Int.eq_ofNat_of_zero_le (show 0 ≤ x.f1 by omega)
      have hb : backS x = x.f1 := by rw [backS, if_neg (show ¬ x.f0 = 2 by omega), if_neg (by omega)]
      rw [hb, hse, Int.toNat_natCast]
      have hl : (putL x.f2 s).length = s := Pure.putL_len _ _
      have hc : 1 ≤ (s : Int) ∧ (s : Int) ≤ 8 ∧ (s : Int) ≤ ((putL x.f2 s ++ R).length : Int) := ⟨by omega, by omega, by rw [List.length_append, hl]; omega⟩
      have ht : (putL x.f2 s ++ R).take s = putL x.f2 s := by rw [List.take_append_of_le_length (by omega), List.take_of_length_le (by omega)]
      refine ⟨?_, ?_⟩
      · rw [rdOk, if_neg k0, if_pos k1, valN, if_pos ⟨rfl, hc⟩, Int.toNat_natCast, ht, getV_putL s _ h2.1]
        simp only [backF, if_neg k0, hse, Int.toNat_natCast]
        by_cases h8 : (s : Int) < 8
        · rw [if_pos ⟨k1, h8⟩]; simp
        · rw [if_neg (fun h => h8 h.2)]
          obtain rfl : s = 8 := by omega
          rw [show (2 : Int) ^ (8 * 8) = 18446744073709551616 from rfl, Int.emod_eq_of_lt h2.1 (by omega)]; simp
      · rw [nxt, if_neg (by decide), if_neg k0, if_pos k1, if_pos hc, Int.toNat_natCast, List.drop_append_of_le_length (by omega), List.drop_of_length_le (by omega)]; rfl
    · rw [if_neg k1]
      have k2 : x.f0 = 2 := by have := hx.1; have := hx.2.1; omega
      rw [if_pos k2]
      have hl := hx.2.2
      have hn := bytesN_field x.f3 R hl
      have hb : (65535 : Int) ≤ backS x := by rw [backS, if_pos k2]; split <;> omega
      have hi : bytesIs (fieldB x.f3 ++ R) (backS x) := by
        refine ⟨?_, ?_, ?_⟩
        · simp [fieldB, Pure.putL_len]
        · rw [hn]; omega
        · rw [hn]; simp [fieldB, Pure.putL_len]; omega
      have hd : (fieldB x.f3 ++ R).drop 2 = x.f3 ++ R := by
        rw [fieldB, List.append_assoc, List.drop_append_of_le_length (by rw [Pure.putL_len]; omega), List.drop_of_length_le (by rw [Pure.putL_len]; omega)]; rfl
      refine ⟨?_, ?_⟩
      · rw [rdOk, if_neg k0, if_neg k1, valX, if_pos ⟨rfl, hi⟩, hn, hd, Int.toNat_natCast, List.take_append_of_le_length (Nat.le_refl _), List.take_of_length_le (Nat.le_refl _)]
        simp [backF]
      · rw [nxt, if_neg (by decide), if_neg k0, if_neg k1, if_pos hi, hn, Int.toNat_natCast, ← List.drop_drop, hd, List.drop_append_of_le_length (Nat.le_refl _), List.drop_of_length_le (Nat.le_refl _)]; rfl
/-- What the fields from k on write. -/
def restW (l : List S47) (k : Nat) : List Int := (l.drop k).flatMap wrB
theorem restW_step (l : List S47) (k : Nat) (h : k < l.length) : restW l k = wrB (rd_T47 l k) ++ restW l (k + 1) := by
  unfold restW
  rw [← List.getElem_cons_drop h, List.flatMap_cons, rd_T l k h]
theorem restW_end (l : List S47) : restW l l.length = [] := by simp [restW]
theorem restW_len (l : List S47) (hl : ∀ m : Nat, m < l.length → ltF (rd_T47 l m)) : ∀ d k, k + d = l.length → (restW l k).length ≤ 400 * d
  | 0, k, h => by obtain rfl : k = l.length := by omega
                  simp [restW]
  | d + 1, k, h => by
    have h1 := restW_len l hl d (k + 1) (by omega)
    have h2 := wrB_len _ (hl k (by omega))
    rw [restW_step l k (by omega), List.length_append]
    omega
theorem wrB_u8 (x : S47) (hx : ltF x) (hb : ∀ b ∈ x.f3, 0 ≤ b ∧ b < 256) : u8L (wrB x) := by
  have key : ∀ z : Int, 0 ≤ z → z < 256 → (Lit.int .u8 z).wf = true := fun z a b => by
    simp [Lit.wf, IntKind.min, IntKind.max, IntKind.signed, IntKind.bits]; omega
  have hp : ∀ (n : Int) (s : Nat), u8L (putL n s) := fun n s z hz => by
    obtain ⟨j, _, rfl⟩ := List.mem_map.1 hz
    exact key _ (by omega) (by omega)
  intro z hz
  unfold wrB at hz
  split at hz
  · obtain rfl := List.mem_singleton.1 hz; exact key _ (by omega) (by omega)
  · split at hz
    · split at hz
      · cases hz
      · exact hp _ _ z hz
    · split at hz
      · rcases List.mem_append.1 hz with h | h
        · exact hp _ _ z h
        · exact key z (hb z h).1 (hb z h).2
      · cases hz
theorem restW_u8 (l : List S47) (hl : ∀ m : Nat, m < l.length → ltF (rd_T47 l m)) (hb : ∀ m : Nat, m < l.length → okF (rd_T47 l m)) : ∀ k, u8L (restW l k) := by
  intro k z hz
  obtain ⟨x, hx, hzx⟩ := List.mem_flatMap.1 hz
  obtain ⟨m, hm, rfl⟩ := List.getElem_of_mem (List.mem_of_mem_drop hx)
  have := wrB_u8 _ (hl m hm) (hb m hm).2
  rw [rd_T l m hm] at this
  exact this z hzx
theorem flat_restW (l : List S47) : flat l l.length = restW l 0 := by simp [flat, restW]
end Go.Proofs.Ytbodefikbonjaaa.Q

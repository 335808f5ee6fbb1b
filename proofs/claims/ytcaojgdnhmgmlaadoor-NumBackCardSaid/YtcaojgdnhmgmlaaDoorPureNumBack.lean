/- NumBack: a number is read of its bytes, and of its digits, as it was, if it fits, and what is put over others twice is as it was. -/
import Derived.Test.YtcaojgdnhmgmlaaDoorQx12
import Derived.Test.YtcaojgdnhmgmlaaDoorGetPlain
import Derived.Test.YtcaojgdnhmgmlaaDoorHXor
set_option linter.unusedVariables false
namespace Go.Proofs.YtcaojgdnhmgmlaaDoor.Pure
open Go.RowKit Go.Proofs.YtcaojgdnhmgmlaaDoor.Q Go.Proofs.YtcaojgdnhmgmlaaDoorW.PrintWords Go.Proofs.YtcaojgdnhmgmlaaDoorW.PrintLast

/-! A number's digits, as numbers. -/
def digs (u : Nat) : List Int := (Lib.decDigits u).map fun b => (b.toNat : Int)
theorem digs_one (u : Nat) (h : u < 10) : digs u = [(48 + u : Int)] := by
  unfold digs
  rw [dec_one u h]
  have : (48 + u) % 256 = 48 + u := by omega
  simp [this]
theorem digs_more (u : Nat) (h : ¬ u < 10) : digs u = digs (u / 10) ++ [(48 + (u % 10 : Nat) : Int)] := by
  unfold digs
  rw [dec_more u h]
  have : (48 + u % 10) % 256 = 48 + u % 10 := by omega
  simp [this]
theorem bytesOf_digs (u : Nat) : bytesOf ⟨(Lib.decDigits u).toArray⟩ = digs u := by
  unfold bytesOf digs
  simp
theorem digs_all (u : Nat) : (digs u).all isDig = true ∧ decV (digs u) = u ∧ digs u ≠ [] ∧ (1 ≤ u → rd (digs u) 0 ≠ 48) := by
  induction u using Nat.strongRecOn with
  | ind u ih =>
    by_cases h : u < 10
    · rw [digs_one u h]
      refine ⟨by simp [isDig]; omega, by simp [decV]; omega, by simp, fun h1 => by simp [rd]; omega⟩
    · obtain ⟨h1, h2, h3, h4⟩ := ih (u / 10) (by omega)
      rw [digs_more u h]
      refine ⟨by rw [List.all_append, h1]; simp [isDig]; omega, by rw [decV_snoc, h2]; omega, by simp, fun _ => ?_⟩
      have h5 := h4 (by omega)
      cases hq : digs (u / 10) with
      | nil => exact absurd hq h3
      | cons x l =>
        rw [hq] at h5
        simpa [rd] using h5
theorem digs_len (k : Nat) : ∀ u, u < 10 ^ (k + 1) → (digs u).length ≤ k + 1 := by
  induction k with
  | zero => intro u h; rw [digs_one u (by omega)]; simp
  | succ k ih =>
    intro u h
    by_cases h10 : u < 10
    · rw [digs_one u h10]; simp
    · rw [digs_more u h10]
      have hp : 10 ^ (k + 2) = 10 * 10 ^ (k + 1) := by rw [Nat.pow_succ, Nat.mul_comm]
      have : u < 10 * 10 ^ (k + 1) := by rw [← hp]; exact h
      have := ih (u / 10) (by omega)
      simp; omega
theorem parse_back (u : Nat) (h : u < 10 ^ 18) : parseV (digs u) (u : Int) = ((u : Int), 0) := by
  obtain ⟨h1, h2, h3, h4⟩ := digs_all u
  have hl := digs_len 17 u h
  unfold parseV
  rw [if_neg, if_pos h1, h2, if_neg (by omega)]
  rintro (h5 | h5 | ⟨h5, h6⟩)
  · exact h3 h5
  · omega
  · by_cases hu : 1 ≤ u
    · exact h4 hu h5
    · rw [digs_one u (by omega)] at h6
      simp at h6

/-! Rows put over others. -/
theorem u8_inj : ∀ (a b : List Int), isU8 a → isU8 b → (strOfNums a).toList = (strOfNums b).toList → a = b := by
  intro a b ha hb h
  rw [ByteArray.toList_eq, ByteArray.toList_eq, strOfNums_data, strOfNums_data] at h
  induction a generalizing b with
  | nil => cases b with
    | nil => rfl
    | cons y b => simp at h
  | cons x a ih => cases b with
    | nil => simp at h
    | cons y b =>
      simp only [List.map_cons, List.cons.injEq] at h
      have hx := u8_of (ha x (by simp))
      have hy := u8_of (hb y (by simp))
      have e := congrArg UInt8.toNat h.1
      simp at e
      have : x = y := by omega
      rw [this, ih b (fun z hz => ha z (by simp [hz])) (fun z hz => hb z (by simp [hz])) h.2]
theorem same_self (a : List Int) : num_Same.f a a = some true := by
  unfold num_Same.f bytes_Equal.f
  simp
theorem xor_some (a b : List Int) (h : a.length ≤ 1000) : num_Xor.f a b = some (xorL a b) := by
  unfold num_Xor.f
  rw [if_pos (by omega)]
theorem xorL_len (a b : List Int) : (xorL a b).length = min a.length b.length := by simp [xorL]
theorem xorL_get (a b : List Int) (i : Nat) (h : i < (xorL a b).length) : (xorL a b)[i] = Go.bits .xor .u8 (rd a i) (rd b i) := by
  simp [xorL, xorAt]
theorem xor_xor (x y : Int) (h1 : 0 ≤ x) (h2 : x ≤ 255) (h3 : 0 ≤ y) (h4 : y ≤ 255) : Go.bits .xor .u8 (Go.bits .xor .u8 x y) y = x := by
  obtain ⟨x, rfl⟩ := Int.eq_ofNat_of_zero_le h1
  obtain ⟨y, rfl⟩ := Int.eq_ofNat_of_zero_le h3
  have hxy : x ^^^ y < 256 := Nat.xor_lt_two_pow (n := 8) (by omega) (by omega)
  rw [u8_xor_nat x y (by omega) (by omega), u8_xor_nat _ y hxy (by omega), Nat.xor_assoc, Nat.xor_self, Nat.xor_zero]
theorem xor_back (a b : List Int) (ha : isU8 a) (hb : isU8 b) (h : a.length ≤ b.length) : xorL (xorL a b) b = a := by
  refine List.ext_getElem (by rw [xorL_len, xorL_len]; omega) fun i h1 h2 => ?_
  have hib : i < b.length := by omega
  have hx : i < (xorL a b).length := by rw [xorL_len]; omega
  rw [xorL_get _ b i h1, rd_get _ i hx, xorL_get a b i hx, rd_get a i h2, rd_get b i hib]
  have h3 := u8_of (ha _ (List.getElem_mem h2))
  have h4 := u8_of (hb _ (List.getElem_mem hib))
  exact xor_xor _ _ h3.1 h3.2 h4.1 h4.2

theorem back_j3 (k : Nat) (a b : List Int) (ha : isU8 a) (hb : isU8 b) (la : a.length ≤ 300) (lb : b.length ≤ 300) : oubliettelaw01_NumBack.j3 (k + 1) a b = some true := by
  have hmin : ((xorL a b).length : Int) = mn (a.length : Int) (b.length : Int) := by
    rw [xorL_len]; unfold mn; split <;> omega
  rw [oubliettelaw01_NumBack.j3, xor_some a b (by omega), Option.bind_some]
  by_cases h : (a.length : Int) > (b.length : Int)
  · rw [if_pos h, if_pos hmin, num_alive]
    rfl
  · rw [if_neg h, xor_some _ b (by rw [xorL_len]; omega), Option.bind_some, xor_back a b ha hb (by omega), same_self, Option.bind_some, if_pos rfl, if_pos hmin, num_alive]
    rfl
theorem back_j2 (k : Nat) (n : Int) (a b : List Int) (ha : isU8 a) (hb : isU8 b) (la : a.length ≤ 300) (lb : b.length ≤ 300) (c : Bool) (hc : c = true → 0 ≤ n ∧ n < 288230376151711744) : oubliettelaw01_NumBack.j2 (k + 2) n a b c = some true := by
  rw [oubliettelaw01_NumBack.j2]
  cases c with
  | false => rw [if_neg (by simp), back_j3 k a b ha hb la lb]
  | true =>
    obtain ⟨h0, h1⟩ := hc rfl
    obtain ⟨u, rfl⟩ := Int.eq_ofNat_of_zero_le h0
    rw [if_pos rfl, print_some _ (by omega) (by omega), Option.bind_some, if_neg (by omega), Lib.itoa_nonneg, parse_some, bytesOf_digs, parse_back u (Nat.lt_trans (show u < 288230376151711744 by omega) (by decide)), Option.bind_some, if_pos rfl, if_pos rfl,
      back_j3 k a b ha hb la lb]
theorem p256_8 : (256 : Int) ^ 8 = 18446744073709551616 := by decide
theorem NumBack : oubliettelaw01_NumBack.Pure := by
  intro a0 a1 l2 l3 h0 h1 _ _ hw2 _ _ hw3
  obtain ⟨h0, h0'⟩ := u64_of h0
  obtain ⟨K, hK⟩ := get_ev (putL a0 8) (putL_u8 a0 8)
  refine ⟨K + 5, ?_⟩
  unfold oubliettelaw01_NumBack.f
  have halive : ∀ k, oubliettelaw01_NumBack.j0 (k + 1) a0 a1 l2 l3 true = some true := by
    intro k
    rw [oubliettelaw01_NumBack.j0, if_pos rfl, num_alive]
    rfl
  by_cases hb2 : (l2.length : Int) > 300
  · rw [if_pos hb2]
    exact halive _
  · rw [if_neg hb2]
    by_cases hb3 : (l3.length : Int) > 300
    · rw [decide_eq_true hb3]
      exact halive _
    · rw [decide_eq_false hb3, oubliettelaw01_NumBack.j0, if_neg (by simp)]
      have hput : num_Put.f a0 8 = some (putL a0 8) := by
        unfold num_Put.f
        rw [if_pos ⟨h0, h0'⟩, if_neg (by omega)]
        rfl
      have hget : getR (putL a0 8) = (a0, 0) := by
        unfold getR
        rw [if_neg (by rw [putL_len]; omega), getV_put 8 a0 h0 (by rw [p256_8]; omega)]
      rw [hput, Option.bind_some, hK _ (by omega), Option.bind_some, hget, if_pos rfl, oubliettelaw01_NumBack.j1, if_neg (by simp)]
      by_cases hn : a1 ≥ 0
      · rw [if_pos hn]
        exact back_j2 (K + 1) a1 l2 l3 hw2 hw3 (by omega) (by omega) _ (fun h => ⟨hn, of_decide_eq_true h⟩)
      · rw [if_neg hn]
        exact back_j2 (K + 1) a1 l2 l3 hw2 hw3 (by omega) (by omega) _ (fun h => by cases h)
end Go.Proofs.YtcaojgdnhmgmlaaDoor.Pure

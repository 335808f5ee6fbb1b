/- What the references' Same and Put hand back, plainly. -/
import Derived.Test.YtbodefikbonjaaaQw1
import Derived.Test.YtbodefikbonjaaaHPut
set_option linter.unusedVariables false
namespace Go.Proofs.Ytbodefikbonjaaa.Pure
open Go.RowKit Go.Proofs.Ytbodefikbonjaaa.Q Go.Proofs.YtbodefikbonjaaaW.PrintWords Go.Proofs.YtbodefikbonjaaaW.PrintLast

theorem wrap_small (x : Int) (h : -9223372036854775808 ≤ x) (h2 : x ≤ 9223372036854775807) : wrap64 x = x := by
  unfold wrap64
  omega
theorem rd_get (l : List Int) (i : Nat) (h : i < l.length) : rd l (i : Int) = l[i] := by
  simp [rd, List.getD_eq_getElem?_getD, h]

theorem same_l0 (a b : List Int) (hl : a.length = b.length) (hm : a.length ≤ 9223372036854775806) (d : Nat) : ∀ (k i : Nat), i + d = a.length → oublietteref01_Same.l0 (k + d + 1) a b (i : Int) = some (decide (a.drop i = b.drop i)) := by
  induction d with
  | zero =>
    intro k i hi
    simp only [oublietteref01_Same.l0]
    rw [if_neg (by omega), List.drop_of_length_le (by omega), List.drop_of_length_le (by omega)]
    simp
  | succ d ih =>
    intro k i hi
    have h1 : i < a.length := by omega
    have h2 : i < b.length := by omega
    rw [show k + (d + 1) + 1 = (k + d + 1) + 1 from by omega]
    rw [oublietteref01_Same.l0]
    rw [if_pos (by omega), if_pos (by omega), if_pos (by omega), rd_get a i h1, rd_get b i h2, ← List.getElem_cons_drop h1, ← List.getElem_cons_drop h2]
    by_cases he : a[i] = b[i]
    · rw [if_pos he, wrap_small _ (by omega) (by omega), show ((i : Int) + 1) = ((i + 1 : Nat) : Int) from by omega, ih k (i + 1) (by omega), he]
      congr 1
      exact decide_eq_decide.2 ⟨fun h => by rw [h], fun h => (List.cons.inj h).2⟩
    · rw [if_neg he]
      exact congrArg some (decide_eq_false (fun h => he (List.cons.inj h).1)).symm
theorem same_ev (a b : List Int) (hm : a.length ≤ 9223372036854775806) : ∃ K, ∀ k, K ≤ k → oublietteref01_Same.f k a b = some (decide (a = b)) := by
  refine ⟨a.length + 1, fun k hk => ?_⟩
  unfold oublietteref01_Same.f
  by_cases hl : a.length = b.length
  · rw [if_pos (by omega)]
    have := same_l0 a b hl hm a.length (k - a.length - 1) 0 (by omega)
    rw [show k - a.length - 1 + a.length + 1 = k from by omega] at this
    simpa using this
  · rw [if_neg (by omega)]
    have : a ≠ b := fun e => hl (by rw [e])
    simp [this]

/-! Put: its loop, from the last place down. -/
def putTo (n : Int) (s j : Nat) : List Int := List.replicate (s - j) 0 ++ (putL n s).drop (s - j)
theorem putL_len (n : Int) (s : Nat) : (putL n s).length = s := by simp [putL]
theorem putTo_len (n : Int) (s j : Nat) (h : j ≤ s) : (putTo n s j).length = s := by simp [putTo, putL_len]
theorem putTo_set (n : Int) (s j : Nat) (h : j < s) : (putTo n s j).set (s - 1 - j) (n / 2 ^ (8 * j) % 256) = putTo n s (j + 1) := by
  unfold putTo
  rw [List.set_append_left _ _ (by simp; omega)]
  have e : s - j = (s - (j + 1)) + 1 := by omega
  rw [e, List.replicate_succ', List.set_append_right _ _ (by simp; omega)]
  simp only [List.length_replicate]
  rw [show s - 1 - j - (s - (j + 1)) = 0 from by omega, List.set_cons_zero, List.append_assoc]
  congr 1
  have hi : s - (j + 1) < (putL n s).length := by rw [putL_len]; omega
  rw [List.singleton_append, ← List.getElem_cons_drop hi]
  congr 1
  simp only [putL, List.getElem_map, List.getElem_range]
  rw [show s - 1 - (s - (j + 1)) = j from by omega]
theorem put_l0 (n : Int) (h0 : 0 ≤ n) (h1 : n ≤ 18446744073709551615) (s : Nat) (hs : s ≤ 8) (d : Nat) : ∀ (k j : Nat), j + d = s → oublietteref01_Put.l0 (k + d + 1) (n / 2 ^ (8 * j)) (putTo n s j) ((s : Int) - 1 - j) = some (putL n s) := by
  induction d with
  | zero =>
    intro k j hj
    simp only [oublietteref01_Put.l0]
    rw [if_neg (by omega)]
    have : s = j := by omega
    subst this
    simp [putTo]
  | succ d ih =>
    intro k j hj
    rw [show k + (d + 1) + 1 = (k + d + 1) + 1 from by omega]
    rw [oublietteref01_Put.l0]
    have hp : 0 ≤ n / 2 ^ (8 * j) := Int.ediv_nonneg h0 (Int.le_of_lt (Int.pow_pos (by omega)))
    have hq : n / 2 ^ (8 * j) ≤ 18446744073709551615 := Int.le_trans (Int.ediv_le_self _ h0) h1
    rw [if_pos (by omega), if_pos (by omega), putTo_len n s j (by omega), if_pos (by omega), wrap_small _ (by omega) (by omega)]
    rw [Int.tdiv_eq_ediv_of_nonneg hp, Int.tmod_eq_emod_of_nonneg hp]
    have e1 : IntKind.u64.wrap (n / 2 ^ (8 * j) / 256) = n / 2 ^ (8 * (j + 1)) := by
      rw [IntKind.wrap_u64, Int.emod_eq_of_lt (by omega) (by omega), Int.ediv_ediv_of_nonneg (Int.le_of_lt (Int.pow_pos (by omega))), show 8 * (j + 1) = 8 * j + 8 from by omega, Int.pow_add]
      rfl
    rw [e1, Int.emod_emod_of_dvd _ (Int.dvd_refl 256), show ((s : Int) - 1 - j).toNat = s - 1 - j from by omega, putTo_set n s j (by omega)]
    have := ih k (j + 1) (by omega)
    rw [show (s : Int) - 1 - j - 1 = (s : Int) - 1 - ((j + 1 : Nat) : Int) from by omega]
    exact this
theorem put_ev (n size : Int) (h0 : 0 ≤ n) (h1 : n ≤ 18446744073709551615) : ∃ K, ∀ k, K ≤ k → oublietteref01_Put.f k n size = some (if size < 1 ∨ 8 < size then [] else putL n size.toNat) := by
  refine ⟨12, fun k hk => ?_⟩
  obtain ⟨k, rfl⟩ : ∃ m, k = m + 1 := ⟨k - 1, by omega⟩
  unfold oublietteref01_Put.f
  by_cases hs : size < 1
  · rw [if_pos hs, if_pos (Or.inl hs)]
    simp only [oublietteref01_Put.j0, if_true]
  · rw [if_neg hs]
    by_cases hs8 : 8 < size
    · rw [if_pos (Or.inr hs8), decide_eq_true (show size > 8 from hs8)]
      simp only [oublietteref01_Put.j0, if_true]
    · rw [if_neg (by omega), decide_eq_false (show ¬ size > 8 from hs8)]
      obtain ⟨s, rfl⟩ := Int.eq_ofNat_of_zero_le (show 0 ≤ size by omega)
      simp only [oublietteref01_Put.j0, Bool.false_eq_true, if_false, Int.toNat_natCast]
      rw [if_pos (by omega), if_pos (by omega), wrap_small _ (by omega) (by omega)]
      have := put_l0 n h0 h1 s (by omega) s (k - s - 1) 0 (by omega)
      rw [show k - s - 1 + s + 1 = k from by omega] at this
      simpa [putTo, putL_len, List.drop_of_length_le] using this
theorem num_put_some (n size : Int) (h0 : 0 ≤ n) (h1 : n ≤ 18446744073709551615) : num_Put.f n size = some (if size < 1 ∨ 8 < size then [] else putL n size.toNat) := by
  unfold num_Put.f
  rw [if_pos ⟨h0, h1⟩]
end Go.Proofs.Ytbodefikbonjaaa.Pure

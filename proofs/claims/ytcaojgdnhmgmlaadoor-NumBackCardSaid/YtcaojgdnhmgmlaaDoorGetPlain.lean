/- Get, plainly: the number of bytes; and that it is read of its bytes as it was. -/
import Derived.Test.YtcaojgdnhmgmlaaDoorQx8
import Derived.Test.YtcaojgdnhmgmlaaDoorHPut
import Derived.Test.YtcaojgdnhmgmlaaDoorDigits
import Derived.Laws.BitsAllLaws
set_option linter.unusedVariables false
namespace Go.Proofs.YtcaojgdnhmgmlaaDoor.Pure
open Go.RowKit Go.Proofs.YtcaojgdnhmgmlaaDoor.Q Go.Proofs.YtcaojgdnhmgmlaaDoorW.PrintWords Go.Proofs.YtcaojgdnhmgmlaaDoorW.PrintLast

def isU8 (l : List Int) : Prop := ∀ x ∈ l, (Lit.int .u8 x).wf = true
theorem u8_of {x : Int} (h : (Lit.int .u8 x).wf = true) : 0 ≤ x ∧ x ≤ 255 := by
  simp [Lit.wf, IntKind.min, IntKind.max, IntKind.signed, IntKind.bits] at h
  omega
theorem u64_of {x : Int} (h : (Lit.int .u64 x).wf = true) : 0 ≤ x ∧ x ≤ 18446744073709551615 := by
  simp [Lit.wf, IntKind.min, IntKind.max, IntKind.signed, IntKind.bits] at h
  omega

/-- The number of bytes, the greatest first. -/
def getV (l : List Int) : Int := l.foldl (fun n c => n * 256 + c) 0
theorem getV_snoc (l : List Int) (c : Int) : getV (l ++ [c]) = getV l * 256 + c := by simp [getV]
theorem getV_bound (l : List Int) (h : isU8 l) : 0 ≤ getV l ∧ getV l < 256 ^ l.length := by
  induction hn : l.length generalizing l with
  | zero =>
    have : l = [] := List.eq_nil_of_length_eq_zero hn
    subst this
    simp [getV]
  | succ n ih =>
    obtain ⟨q, c, rfl⟩ : ∃ q c, l = q ++ [c] := ⟨l.dropLast, l.getLast (by intro e; subst e; simp at hn), (List.dropLast_concat_getLast _).symm⟩
    have hc := u8_of (h c (by simp))
    obtain ⟨h1, h2⟩ := ih q (fun x hx => h x (by simp [hx])) (by simpa using hn)
    rw [getV_snoc, Int.pow_succ]
    omega
theorem pow256 (a b : Nat) (h : a ≤ b) : (256 : Int) ^ a ≤ 256 ^ b := by
  have h1 := Nat.pow_le_pow_right (n := 256) (by omega) h
  have h2 : ∀ m : Nat, (256 : Int) ^ m = ((256 ^ m : Nat) : Int) := fun m => by
    induction m with
    | zero => rfl
    | succ m ih => rw [Int.pow_succ, Nat.pow_succ, ih]; omega
  rw [h2, h2]
  exact Int.ofNat_le.2 h1
theorem getV_le (l : List Int) (h : isU8 l) (hl : l.length ≤ 8) : 0 ≤ getV l ∧ getV l ≤ 18446744073709551615 := by
  obtain ⟨h1, h2⟩ := getV_bound l h
  have : (256 : Int) ^ l.length ≤ 256 ^ 8 := pow256 _ _ hl
  have h3 : (256 : Int) ^ 8 = 18446744073709551616 := by decide
  omega
theorem getV_lt7 (l : List Int) (h : isU8 l) (hl : l.length ≤ 7) : 0 ≤ getV l ∧ getV l ≤ 72057594037927935 := by
  obtain ⟨h1, h2⟩ := getV_bound l h
  have : (256 : Int) ^ l.length ≤ 256 ^ 7 := pow256 _ _ hl
  have h3 : (256 : Int) ^ 7 = 72057594037927936 := by decide
  omega
theorem take_u8 {l : List Int} (h : isU8 l) (i : Nat) : isU8 (l.take i) := fun x hx => h x (List.mem_of_mem_take hx)
theorem take_snoc_get (l : List Int) (i : Nat) (h : i < l.length) : l.take (i + 1) = l.take i ++ [l[i]] := List.take_succ_eq_append_getElem h

theorem or_add (n c : Int) (h1 : 0 ≤ n) (h2 : n ≤ 72057594037927935) (h3 : 0 ≤ c) (h4 : c ≤ 255) : Go.bits .or .u64 (IntKind.u64.wrap (n * 256)) (IntKind.u64.wrap c) = n * 256 + c := by
  rw [IntKind.wrap_u64, IntKind.wrap_u64, Int.emod_eq_of_lt (by omega) (by omega), Int.emod_eq_of_lt (by omega) (by omega)]
  obtain ⟨n, rfl⟩ := Int.eq_ofNat_of_zero_le h1
  obtain ⟨c, rfl⟩ := Int.eq_ofNat_of_zero_le h3
  rw [show (n : Int) * 256 = ((n * 256 : Nat) : Int) from by omega, u64_or_nat _ _ (by omega) (by omega), nat_join 8 _ _ (by omega) (by omega)]
  omega

theorem get_l0 (l : List Int) (hl : l.length ≤ 8) (hw : isU8 l) (d : Nat) : ∀ (k i : Nat), i + d = l.length → num_Get.l0 (k + d + 1) (getV (l.take i)) l (l.length : Int) (i : Int) = some (getV l, 0) := by
  induction d with
  | zero =>
    intro k i hi
    rw [num_Get.l0, if_neg (by omega), List.take_of_length_le (by omega)]
  | succ d ih =>
    intro k i hi
    have hil : i < l.length := by omega
    have hc := u8_of (hw _ (List.getElem_mem hil))
    have hb := getV_lt7 (l.take i) (take_u8 hw i) (by rw [List.length_take]; omega)
    rw [show k + (d + 1) + 1 = (k + d + 1) + 1 from by omega, num_Get.l0, if_pos (by omega), if_pos (by omega), if_pos (by omega), rd_get l i hil, or_add _ _ hb.1 hb.2 hc.1 hc.2, wrap_small _ (by omega) (by omega), ← getV_snoc, ← take_snoc_get l i hil]
    exact ih k (i + 1) (by omega)
def getR (l : List Int) : Int × Int := if l.length = 0 ∨ 8 < l.length then (0, 4) else (getV l, 0)
theorem get_ev (l : List Int) (hw : isU8 l) : ∃ K, ∀ k, K ≤ k → num_Get.f k l = some (getR l) := by
  refine ⟨12, fun k hk => ?_⟩
  obtain ⟨k, rfl⟩ : ∃ m, k = m + 1 := ⟨k - 1, by omega⟩
  unfold num_Get.f getR
  by_cases h0 : l.length = 0
  · rw [if_pos (by omega), if_pos (Or.inl h0), num_Get.j0, if_pos rfl]
  · rw [if_neg (by omega)]
    by_cases h8 : 8 < l.length
    · rw [if_pos (Or.inr h8), num_Get.j0, if_pos (decide_eq_true (by omega))]
    · rw [if_neg (by omega), num_Get.j0, if_neg (by simp; omega)]
      have := get_l0 l (by omega) hw l.length (k - l.length - 1) 0 (by omega)
      rw [show k - l.length - 1 + l.length + 1 = k from by omega] at this
      exact this

/-! What is put is got. -/
theorem putL_len (n : Int) (s : Nat) : (putL n s).length = s := by simp [putL]
theorem putL_u8 (n : Int) (s : Nat) : isU8 (putL n s) := by
  intro x hx
  simp only [putL, List.mem_map] at hx
  obtain ⟨j, _, rfl⟩ := hx
  have h1 := Int.emod_nonneg (n / 2 ^ (8 * (s - 1 - j))) (show (256 : Int) ≠ 0 by omega)
  have h2 := Int.emod_lt_of_pos (n / 2 ^ (8 * (s - 1 - j))) (show (0 : Int) < 256 by omega)
  simp [Lit.wf, IntKind.min, IntKind.max, IntKind.signed, IntKind.bits]
  omega
theorem putL_more (n : Int) (s : Nat) : putL n (s + 1) = putL (n / 256) s ++ [n % 256] := by
  unfold putL
  rw [List.range_succ, List.map_append]
  congr 1
  · refine List.map_congr_left fun j hj => ?_
    have hj : j < s := by simpa using hj
    have e : (2 : Int) ^ (8 * (s + 1 - 1 - j)) = 256 * 2 ^ (8 * (s - 1 - j)) := by
      rw [show 8 * (s + 1 - 1 - j) = 8 + 8 * (s - 1 - j) from by omega, Int.pow_add]
      rfl
    rw [e, Int.ediv_ediv_of_nonneg (by omega)]
  · simp
theorem getV_put (s : Nat) : ∀ n : Int, 0 ≤ n → n < 256 ^ s → getV (putL n s) = n := by
  induction s with
  | zero =>
    intro n h0 h1
    have : n = 0 := by simp at h1; omega
    subst this
    rfl
  | succ s ih =>
    intro n h0 h1
    rw [Int.pow_succ] at h1
    rw [putL_more, getV_snoc, ih (n / 256) (by omega) (by omega)]
    omega
end Go.Proofs.YtcaojgdnhmgmlaaDoor.Pure

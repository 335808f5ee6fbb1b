/- What Get, Pad, Same and Xor hand back, the program's and the reference's, plainly. -/
import Derived.Test.YtbodefikbonjaaaQv1
import Derived.Test.YtbodefikbonjaaaRefWire
import Derived.Laws.BitsAllLaws
set_option linter.unusedVariables false
namespace Go.Proofs.Ytbodefikbonjaaa.Pure
open Go.RowKit Go.Proofs.Ytbodefikbonjaaa.Q Go.Proofs.YtbodefikbonjaaaW.PrintWords Go.Proofs.YtbodefikbonjaaaW.PrintLast

def isU8 (l : List Int) : Prop := ∀ x ∈ l, (Lit.int .u8 x).wf = true
theorem u8_of {x : Int} (h : (Lit.int .u8 x).wf = true) : 0 ≤ x ∧ x ≤ 255 := by
  simp [Lit.wf, IntKind.min, IntKind.max, IntKind.signed, IntKind.bits] at h
  omega
theorem u64_of {x : Int} (h : (Lit.int .u64 x).wf = true) : 0 ≤ x ∧ x ≤ 18446744073709551615 := by
  simp [Lit.wf, IntKind.min, IntKind.max, IntKind.signed, IntKind.bits] at h
  omega
theorem i64_of {x : Int} (h : (Lit.int .i64 x).wf = true) : -9223372036854775808 ≤ x ∧ x ≤ 9223372036854775807 := by
  simp [Lit.wf, IntKind.min, IntKind.max, IntKind.signed, IntKind.bits] at h
  omega

/-- The number of bytes, the greatest first. -/
def getV (l : List Int) : Int := l.foldl (fun n c => n * 256 + c) 0
theorem getV_snoc (l : List Int) (c : Int) : getV (l ++ [c]) = getV l * 256 + c := by simp [getV]
theorem getV_bound (l : List Int) (h : isU8 l) : 0 ≤ getV l ∧ getV l < 256 ^ l.length := by
  induction hn : l.length generalizing l with
  | zero =>
    have : l = [] := List.eq_nil_of_length_eq_zero hn
    subst this
    simp [getV]
  | succ n ih =>
    obtain ⟨q, c, rfl⟩ : ∃ q c, l = q ++ [c] := ⟨l.dropLast, l.getLast (by intro e; subst e; simp at hn), (List.dropLast_concat_getLast _).symm⟩
    have hc := u8_of (h c (by simp))
    obtain ⟨h1, h2⟩ := ih q (fun x hx => h x (by simp [hx])) (by simpa using hn)
    rw [getV_snoc, Int.pow_succ]
    omega
theorem pow256 (a b : Nat) (h : a ≤ b) : (256 : Int) ^ a ≤ 256 ^ b := by
  have h1 := Nat.pow_le_pow_right (n := 256) (by omega) h
  have h2 : ∀ m : Nat, (256 : Int) ^ m = ((256 ^ m : Nat) : Int) := fun m => by
    induction m with
    | zero => rfl
    | succ m ih => rw [Int.pow_succ, Nat.pow_succ, ih]; omega
  rw [h2, h2]
  exact Int.ofNat_le.2 h1
theorem getV_le (l : List Int) (h : isU8 l) (hl : l.length ≤ 8) : 0 ≤ getV l ∧ getV l ≤ 18446744073709551615 := by
  obtain ⟨h1, h2⟩ := getV_bound l h
  have : (256 : Int) ^ l.length ≤ 256 ^ 8 := pow256 _ _ hl
  have h3 : (256 : Int) ^ 8 = 18446744073709551616 := by decide
  omega
theorem getV_lt7 (l : List Int) (h : isU8 l) (hl : l.length ≤ 7) : 0 ≤ getV l ∧ getV l ≤ 72057594037927935 := by
  obtain ⟨h1, h2⟩ := getV_bound l h
  have : (256 : Int) ^ l.length ≤ 256 ^ 7 := pow256 _ _ hl
  have h3 : (256 : Int) ^ 7 = 72057594037927936 := by decide
  omega
theorem take_u8 {l : List Int} (h : isU8 l) (i : Nat) : isU8 (l.take i) := fun x hx => h x (List.mem_of_mem_take hx)
theorem take_snoc_get (l : List Int) (i : Nat) (h : i < l.length) : l.take (i + 1) = l.take i ++ [l[i]] := List.take_succ_eq_append_getElem h

theorem or_add (n c : Int) (h1 : 0 ≤ n) (h2 : n ≤ 72057594037927935) (h3 : 0 ≤ c) (h4 : c ≤ 255) : Go.bits .or .u64 (IntKind.u64.wrap (n * 256)) (IntKind.u64.wrap c) = n * 256 + c := by
  rw [IntKind.wrap_u64, IntKind.wrap_u64, Int.emod_eq_of_lt (by omega) (by omega), Int.emod_eq_of_lt (by omega) (by omega)]
  obtain ⟨n, rfl⟩ := Int.eq_ofNat_of_zero_le h1
  obtain ⟨c, rfl⟩ := Int.eq_ofNat_of_zero_le h3
  rw [show (n : Int) * 256 = ((n * 256 : Nat) : Int) from by omega, u64_or_nat _ _ (by omega) (by omega), nat_join 8 _ _ (by omega) (by omega)]
  omega

theorem get_l0 (l : List Int) (hl : l.length ≤ 8) (hw : isU8 l) (d : Nat) : ∀ (k i : Nat), i + d = l.length → num_Get.l0 (k + d + 1) (getV (l.take i)) l (l.length : Int) (i : Int) = some (getV l, 0) := by
  induction d with
  | zero =>
    intro k i hi
    rw [num_Get.l0, if_neg (by omega), List.take_of_length_le (by omega)]
  | succ d ih =>
    intro k i hi
    have hil : i < l.length := by omega
    have hc := u8_of (hw _ (List.getElem_mem hil))
    have hb := getV_lt7 (l.take i) (take_u8 hw i) (by rw [List.length_take]; omega)
    rw [show k + (d + 1) + 1 = (k + d + 1) + 1 from by omega, num_Get.l0, if_pos (by omega), if_pos (by omega), if_pos (by omega), rd_get l i hil, or_add _ _ hb.1 hb.2 hc.1 hc.2, wrap_small _ (by omega) (by omega), ← getV_snoc, ← take_snoc_get l i hil]
    exact ih k (i + 1) (by omega)
theorem refget_l0 (l : List Int) (hl : l.length ≤ 8) (hw : isU8 l) (d : Nat) : ∀ (k i : Nat), i + d = l.length → oublietteref01_Get.l0 (k + d + 1) l (getV (l.take i)) (i : Int) = some (getV l, 0) := by
  induction d with
  | zero =>
    intro k i hi
    rw [oublietteref01_Get.l0, if_neg (by omega), List.take_of_length_le (by omega)]
  | succ d ih =>
    intro k i hi
    have hil : i < l.length := by omega
    have hc := u8_of (hw _ (List.getElem_mem hil))
    have hb := getV_lt7 (l.take i) (take_u8 hw i) (by rw [List.length_take]; omega)
    rw [show k + (d + 1) + 1 = (k + d + 1) + 1 from by omega, oublietteref01_Get.l0, if_pos (by omega), if_pos (by omega), rd_get l i hil, wrap_small _ (by omega) (by omega)]
    have e : IntKind.u64.wrap (IntKind.u64.wrap (getV (List.take i l) * 256) + IntKind.u64.wrap l[i]) = getV (l.take (i + 1)) := by
      rw [IntKind.wrap_u64, IntKind.wrap_u64, IntKind.wrap_u64, take_snoc_get l i hil, getV_snoc]
      omega
    rw [e]
    exact ih k (i + 1) (by omega)
def getR (l : List Int) : Int × Int := if l.length = 0 ∨ 8 < l.length then (0, 4) else (getV l, 0)
theorem get_ev (l : List Int) (hw : isU8 l) : ∃ K, ∀ k, K ≤ k → num_Get.f k l = some (getR l) := by
  refine ⟨12, fun k hk => ?_⟩
  obtain ⟨k, rfl⟩ : ∃ m, k = m + 1 := ⟨k - 1, by omega⟩
  unfold num_Get.f getR
  by_cases h0 : l.length = 0
  · rw [if_pos (by omega), if_pos (Or.inl h0), num_Get.j0, if_pos rfl]
  · rw [if_neg (by omega)]
    by_cases h8 : 8 < l.length
    · rw [if_pos (Or.inr h8), num_Get.j0, if_pos (decide_eq_true (by omega))]
    · rw [if_neg (by omega), num_Get.j0, if_neg (by simp; omega)]
      have := get_l0 l (by omega) hw l.length (k - l.length - 1) 0 (by omega)
      rw [show k - l.length - 1 + l.length + 1 = k from by omega] at this
      exact this
theorem refget_ev (l : List Int) (hw : isU8 l) : ∃ K, ∀ k, K ≤ k → oublietteref01_Get.f k l = some (getR l) := by
  refine ⟨12, fun k hk => ?_⟩
  obtain ⟨k, rfl⟩ : ∃ m, k = m + 1 := ⟨k - 1, by omega⟩
  unfold oublietteref01_Get.f getR
  by_cases h0 : l.length = 0
  · rw [if_pos (by omega), if_pos (Or.inl h0), oublietteref01_Get.j0, if_pos rfl]
  · rw [if_neg (by omega)]
    by_cases h8 : 8 < l.length
    · rw [if_pos (Or.inr h8), oublietteref01_Get.j0, if_pos (decide_eq_true (by omega))]
    · rw [if_neg (by omega), oublietteref01_Get.j0, if_neg (by simp; omega)]
      have := refget_l0 l (by omega) hw l.length (k - l.length - 1) 0 (by omega)
      rw [show k - l.length - 1 + l.length + 1 = k from by omega] at this
      exact this

/-! alive -/
end Go.Proofs.Ytbodefikbonjaaa.Pure

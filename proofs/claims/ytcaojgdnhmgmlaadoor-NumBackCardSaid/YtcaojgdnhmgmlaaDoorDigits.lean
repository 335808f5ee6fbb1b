/- Digits, plainly: the reference's Print and Parse hand back what the program's do. -/
import Derived.Test.YtcaojgdnhmgmlaaDoorQx4
import Derived.Test.YtcaojgdnhmgmlaaDoorQx6
import Derived.Test.YtcaojgdnhmgmlaaDoorQx3
import Derived.Test.YtcaojgdnhmgmlaaDoorHPrint
import Derived.Test.YtcaojgdnhmgmlaaDoorHParse
import Derived.Test.YtcaojgdnhmgmlaaDoorHPut
import Derived.Lib.ItoaLen
set_option linter.unusedVariables false
namespace Go.Proofs.YtcaojgdnhmgmlaaDoor.Pure
open Go.RowKit Go.Proofs.YtcaojgdnhmgmlaaDoor.Q Go.Proofs.YtcaojgdnhmgmlaaDoorW.PrintWords Go.Proofs.YtcaojgdnhmgmlaaDoorW.PrintLast

theorem wrap_small (x : Int) (h : -9223372036854775808 ≤ x) (h2 : x ≤ 9223372036854775807) : wrap64 x = x := by
  unfold wrap64
  omega
theorem i64_of {x : Int} (h : (Lit.int .i64 x).wf = true) : -9223372036854775808 ≤ x ∧ x ≤ 9223372036854775807 := by
  simp [Lit.wf, IntKind.min, IntKind.max, IntKind.signed, IntKind.bits] at h
  omega
theorem rd_get (l : List Int) (i : Nat) (h : i < l.length) : rd l (i : Int) = l[i] := by
  simp [rd, List.getD_eq_getElem?_getD, h]

theorem dec_one (u : Nat) (h : u < 10) : Lib.decDigits u = [UInt8.ofNat (48 + u)] := by
  unfold Lib.decDigits
  rw [dif_pos h]
theorem dec_more (u : Nat) (h : ¬ u < 10) : Lib.decDigits u = Lib.decDigits (u / 10) ++ [UInt8.ofNat (48 + u % 10)] := by
  conv => lhs; unfold Lib.decDigits
  rw [dif_neg h]
theorem refprint_nat (k : Nat) : ∀ u : Nat, u < 10 ^ (k + 1) → u ≤ 9223372036854775807 → oublietteref01_Print.f (k + 1) (u : Int) = some ⟨(Lib.decDigits u).toArray⟩ := by
  induction k with
  | zero =>
    intro u hu _
    rw [oublietteref01_Print.f, if_neg (by omega), if_pos (by omega), wrap_small _ (by omega) (by omega)]
    rw [dec_one u (by omega)]
    unfold strOfNums
    have : ((48 + (u : Int)) % 256).toNat = 48 + u := by omega
    simp [this]
  | succ k ih =>
    intro u hu hmax
    rw [oublietteref01_Print.f, if_neg (by omega)]
    by_cases h10 : u < 10
    · rw [if_pos (by omega), wrap_small _ (by omega) (by omega)]
      rw [dec_one u h10]
      unfold strOfNums
      have : ((48 + (u : Int)) % 256).toNat = 48 + u := by omega
      simp [this]
    · rw [if_neg (by omega), Int.tdiv_eq_ediv_of_nonneg (by omega), Int.tmod_eq_emod_of_nonneg (by omega)]
      have hp : 10 ^ (k + 2) = 10 * 10 ^ (k + 1) := by rw [Nat.pow_succ, Nat.mul_comm]
      have hp1 : 10 ≤ 10 ^ (k + 1) := by rw [Nat.pow_succ]; have := Nat.pow_pos (n := k) (show 0 < 10 by omega); omega
      have e1 : wrap64 ((u : Int) / 10) = ((u / 10 : Nat) : Int) := by rw [wrap_small _ (by omega) (by omega)]; omega
      have e2 : (u : Int) % 10 = ((u % 10 : Nat) : Int) := by omega
      have h1 : u / 10 < 10 ^ (k + 1) := by
        have : u < 10 * 10 ^ (k + 1) := by rw [← hp]; exact hu
        omega
      rw [e1, e2, ih (u / 10) h1 (by omega), Option.bind_some, ih (u % 10) (by omega) (by omega), Option.bind_some]
      have l1 := Lib.itoa_length_le ((u / 10 : Nat) : Int) (by omega) (by omega)
      have l2 := Lib.itoa_length_le ((u % 10 : Nat) : Int) (by omega) (by omega)
      unfold Lib.itoa at l1 l2
      rw [if_neg (by omega), Int.toNat_natCast] at l1 l2
      have s1 : (ByteArray.mk (Lib.decDigits (u / 10)).toArray).size = (Lib.decDigits (u / 10)).length := by simp [ByteArray.size]
      have s2 : (ByteArray.mk (Lib.decDigits (u % 10)).toArray).size = (Lib.decDigits (u % 10)).length := by simp [ByteArray.size]
      rw [if_pos (by rw [s1, s2]; omega)]
      rw [dec_more u h10, dec_one (u % 10) (by omega)]
      congr 1

theorem refprint_ev (n : Int) (h : n ≤ 9223372036854775807) : ∀ k, 20 ≤ k → oublietteref01_Print.f k n = some (if n < 0 then ⟨#[]⟩ else ⟨(Lib.itoa n).toArray⟩) := by
  intro k hk
  obtain ⟨k, rfl⟩ : ∃ m, k = m + 1 := ⟨k - 1, by omega⟩
  by_cases hn : n < 0
  · rw [oublietteref01_Print.f, if_pos hn, if_pos hn]
  · obtain ⟨u, rfl⟩ := Int.eq_ofNat_of_zero_le (show 0 ≤ n by omega)
    rw [if_neg hn, refprint_nat k u ?_ (by omega)]
    · unfold Lib.itoa
      rw [if_neg (by omega), Int.toNat_natCast]
    · have h1 : u < 10 ^ 20 := Nat.lt_of_le_of_lt (show u ≤ 9223372036854775807 by omega) (by decide)
      exact Nat.lt_of_lt_of_le h1 (Nat.pow_le_pow_right (by omega) (by omega))
theorem print_some (n : Int) (h0 : -9223372036854775808 ≤ n) (h : n ≤ 9223372036854775807) : num_Print.f n = some (if n < 0 then ⟨#[]⟩ else ⟨(Lib.itoa n).toArray⟩) := by
  unfold num_Print.f
  rw [if_pos ⟨h0, h⟩]

/-! Parse. -/
theorem parse_l0 (s : ByteArray) (most : Int) (hs : s.size ≤ 18) (d : Nat) : ∀ (k i : Nat), i + d = s.size → ((bytesOf s).take i).all isDig = true →
    oublietteref01_Parse.l0 (k + d + 1) s most (decV ((bytesOf s).take i)) (i : Int) = some (restV (bytesOf s) most) := by
  have hlen := bytesOf_length s
  induction d with
  | zero =>
    intro k i hi hd
    rw [List.take_of_length_le (by omega)] at hd ⊢
    rw [oublietteref01_Parse.l0, if_neg (by omega)]
    unfold restV
    rw [if_pos hd]
    by_cases hm : most < decV (bytesOf s)
    · rw [if_pos hm, if_pos hm]
    · rw [if_neg hm, if_neg hm]
  | succ d ih =>
    intro k i hi hd
    have hil : i < (bytesOf s).length := by omega
    have hb := bt_u8 s i
    have hbound := decV_lt ((bytesOf s).take i) hd (by rw [List.length_take]; omega)
    have hrd : rd (bytesOf s) (i : Int) = bt s i := rd_bytesOf s i
    have hget : (bytesOf s)[i] = bt s i := by rw [← rd_get _ i hil, hrd]
    rw [show k + (d + 1) + 1 = (k + d + 1) + 1 from by omega, oublietteref01_Parse.l0, if_pos (by omega), if_pos (by omega)]
    have hno : ¬ (48 ≤ bt s i ∧ bt s i ≤ 57) → some ((0 : Int), (3 : Int)) = some (restV (bytesOf s) most) := by
      intro hq
      unfold restV
      rw [if_neg]
      intro hall
      have := List.all_eq_true.1 hall _ (List.getElem_mem hil)
      rw [hget] at this
      simp [isDig] at this
      exact hq this
    by_cases h1 : bt s i < 48
    · rw [if_pos h1]
      exact hno (by omega)
    · rw [if_neg h1]
      by_cases h2 : bt s i > 57
      · rw [if_pos h2]
        exact hno (by omega)
      · rw [if_neg h2, wrap_small ((i : Int) + 1) (by omega) (by omega), wrap_small (_ * 10) (by omega) (by omega), show (bt s i - 48) % 256 = bt s i - 48 from by omega, wrap_small _ (by omega) (by omega)]
        have hsn := take_snoc_rd (bytesOf s) i hil
        have := ih k (i + 1) (by omega) (by
          rw [hsn, List.all_append, hd, hrd]
          simp [isDig]; omega)
        rw [hsn, decV_snoc, hrd] at this
        exact this
theorem refparse_ev (s : ByteArray) (most : Int) : ∀ k, 20 ≤ k → oublietteref01_Parse.f k s most = some (parseV (bytesOf s) most) := by
  intro k hk
  obtain ⟨k, rfl⟩ : ∃ m, k = m + 1 := ⟨k - 1, by omega⟩
  have hlen := bytesOf_length s
  have hr : rd (bytesOf s) 0 = bt s 0 := rd_bytesOf s 0
  have hrest : s.size ≤ 18 → oublietteref01_Parse.l0 k s most 0 0 = some (restV (bytesOf s) most) := by
    intro h18
    have := parse_l0 s most h18 s.size (k - s.size - 1) 0 (by omega) (by simp)
    rw [show k - s.size - 1 + s.size + 1 = k from by omega] at this
    simpa [decV] using this
  unfold oublietteref01_Parse.f parseV
  rw [hlen, hr]
  by_cases h0 : (s.size : Int) < 1
  · rw [if_pos h0, oublietteref01_Parse.j0, if_pos rfl, if_pos (Or.inl ((bytesOf_nil s).2 (by omega)))]
  · rw [if_neg h0]
    by_cases h18 : (s.size : Int) > 18
    · rw [if_pos h18, oublietteref01_Parse.j0, if_pos rfl, if_pos (Or.inr (Or.inl (by omega)))]
    · rw [if_neg h18]
      have hne : ¬ bytesOf s = [] := fun h => h0 (by have := (bytesOf_nil s).1 h; omega)
      by_cases h1 : (s.size : Int) > 1
      · rw [if_pos h1, if_pos (by omega), oublietteref01_Parse.j0]
        by_cases hz : bt s 0 = 48
        · rw [if_pos (beq_iff_eq.2 hz), if_pos (Or.inr (Or.inr ⟨hz, by omega⟩))]
        · rw [if_neg (by simpa using hz), if_neg (by rintro (h | h | h); exact hne h; omega; exact hz h.1), hrest (by omega)]
          rfl
      · rw [if_neg h1, oublietteref01_Parse.j0, if_neg (by simp), if_neg (by rintro (h | h | h); exact hne h; omega; omega), hrest (by omega)]
        rfl
theorem parse_some (s : ByteArray) (most : Int) : num_Parse.f s most = some (parseV (bytesOf s) most) := rfl

theorem num_alive : oubliettelaw01_alive.f = some true := by
  unfold oubliettelaw01_alive.f num_Put.f
  rw [if_pos (by omega), Option.bind_some, if_neg (by omega)]
  have e1 : putL 258 (2 : Int).toNat = [1, 2] := by decide
  have e2 : num_Parse.f (⟨#[48, 55]⟩ : ByteArray) 9 = some (0, 3) := by
    unfold num_Parse.f
    congr 1
  rw [e1, e2]
  rfl
end Go.Proofs.YtcaojgdnhmgmlaaDoor.Pure

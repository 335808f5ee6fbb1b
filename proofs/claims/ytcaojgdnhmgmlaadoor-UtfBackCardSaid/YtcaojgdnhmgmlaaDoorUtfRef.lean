/- The document's answers for texts as runes, in plain Lean. -/
import Derived.Test.YtcaojgdnhmgmlaaDoorQx16
import Derived.Test.YtcaojgdnhmgmlaaDoorQx17
import Derived.Test.YtcaojgdnhmgmlaaDoorQx18
import Derived.Test.YtcaojgdnhmgmlaaDoorQx19
import Derived.Test.YtcaojgdnhmgmlaaDoorQx21
import Derived.Test.YtcaojgdnhmgmlaaDoorQx22
import Derived.Test.YtcaojgdnhmgmlaaDoorUtfFacts
import Derived.Test.YtcaojgdnhmgmlaaDoorHText
import Derived.Test.YtcaojgdnhmgmlaaDoorHRunes
set_option linter.unusedVariables false
namespace Go.Proofs.YtcaojgdnhmgmlaaDoor.Pure
open Go.RowKit Go.Proofs.YtcaojgdnhmgmlaaDoor.Q Go.Proofs.YtcaojgdnhmgmlaaDoorW.PrintWords Go.Proofs.YtcaojgdnhmgmlaaDoorW.PrintLast
open Go.Lib (validRune encodeRune encodeRuneZ decodeN decode_at)

theorem w32 (x : Int) (h0 : -2147483648 ≤ x) (h1 : x ≤ 2147483647) : wrap32 x = x := by unfold wrap32; omega
theorem right_eq (a : Int) : oublietteref02_Right.f a = some (validRune a) := by
  unfold oublietteref02_Right.f validRune
  by_cases h1 : a ≥ 0 <;> by_cases h2 : a ≤ 1114111 <;> by_cases h3 : a < 55296 <;> simp [h1, h2, h3] <;> omega
theorem bytes_eq (r : Int) (hv : validRune r = true) : oublietteref02_Bytes.f r = some (encodeRuneZ r) := by
  rw [vld_iff] at hv
  have h0 : 0 ≤ r := by omega
  unfold oublietteref02_Bytes.f
  simp only [Int.tdiv_eq_ediv_of_nonneg h0, Int.tmod_eq_emod_of_nonneg h0]
  rw [w32 (r / 64) (by omega) (by omega), w32 (r / 4096) (by omega) (by omega), w32 (r / 262144) (by omega) (by omega),
    Int.tmod_eq_emod_of_nonneg (show 0 ≤ r / 64 by omega), Int.tmod_eq_emod_of_nonneg (show 0 ≤ r / 4096 by omega),
    w32 (192 + r / 64) (by omega) (by omega), w32 (128 + r % 64) (by omega) (by omega), w32 (224 + r / 4096) (by omega) (by omega),
    w32 (128 + r / 64 % 64) (by omega) (by omega), w32 (240 + r / 262144) (by omega) (by omega), w32 (128 + r / 4096 % 64) (by omega) (by omega)]
  by_cases h1 : r < 128
  · rw [if_pos h1, show encodeRuneZ r = [r] by unfold encodeRuneZ; rw [if_pos (by omega)]]; congr 2; omega
  · rw [if_neg h1]
    by_cases h2 : r < 2048
    · rw [if_pos h2, show encodeRuneZ r = [192 + r / 64, 128 + r % 64] by unfold encodeRuneZ; rw [if_neg (by omega), if_pos (by omega)]]; simp only [Option.some.injEq, List.cons.injEq, and_true]; omega
    · rw [if_neg h2]
      by_cases h3 : r < 65536
      · rw [if_pos h3, show encodeRuneZ r = [224 + r / 4096, 128 + r / 64 % 64, 128 + r % 64] by unfold encodeRuneZ; rw [if_neg (by omega), if_neg (by omega), if_pos (by omega)]]; simp only [Option.some.injEq, List.cons.injEq, and_true]; omega
      · rw [if_neg h3, show encodeRuneZ r = [240 + r / 262144, 128 + r / 4096 % 64, 128 + r / 64 % 64, 128 + r % 64] by unfold encodeRuneZ; rw [if_neg (by omega), if_neg (by omega), if_neg (by omega), if_pos (by omega)]]; simp only [Option.some.injEq, List.cons.injEq, and_true]; omega

theorem str_eq (r : Int) (s : ByteArray) (m : Nat) : (strOfNums (encodeRuneZ r)).toList = (s.extract 0 m).toList ↔ encodeRune r = s.data.toList.take m := by
  rw [ByteArray.toList_eq, ByteArray.toList_eq, strOfNums_data]
  have : (s.extract 0 m).data.toList = s.data.toList.take m := by cases s; simp
  rw [this]
  exact Iff.rfl
theorem first_fin (k : Nat) (s : ByteArray) (m : Nat) (r : Int) (hm : m ≤ s.size) :
    oublietteref02_First.l0 (k + 1) s m r m = some (if validRune r = true ∧ encodeRune r = s.data.toList.take m then (r, (m : Int)) else (0, 0)) := by
  rw [oublietteref02_First.l0, if_neg (Int.lt_irrefl _), right_eq, Option.bind_some]
  by_cases hv : validRune r = true
  · rw [if_pos hv, bytes_eq r hv, Option.bind_some, if_pos (by omega), if_pos (by omega), Int.toNat_natCast]
    by_cases he : encodeRune r = s.data.toList.take m
    · rw [if_pos ((str_eq r s m).2 he), if_pos ⟨hv, he⟩]
    · rw [if_neg (fun h => he ((str_eq r s m).1 h)), if_neg (fun h => he h.2)]
  · rw [if_neg hv, if_neg (fun h => hv h.1)]
theorem fin_brk (s : ByteArray) (m : Nat) (r : Int) (hm : m ≤ s.size) (hb : brk s 0 = true) : ¬ (validRune r = true ∧ encodeRune r = s.data.toList.take m) := by
  rintro ⟨h1, h2⟩
  have := (enc_dec s 0 r (s.data.toList.drop m) h1 (by rw [List.drop_zero, h2, List.take_append_drop])).2.2
  rw [this] at hb
  cases hb
theorem first_brk (s : ByteArray) (m : Nat) (hm : m ≤ s.size) (hb : brk s 0 = true) : ∀ (j k : Nat) (r : Int) (i : Nat), 1 ≤ i → i + j = m → m ≤ 4 → oublietteref02_First.l0 (k + j + 1) s m r i = some (0, 0)
  | 0, k, r, i, h1, h2, h3 => by
    obtain rfl : i = m := by omega
    rw [Nat.add_zero, first_fin k s i r hm, if_neg (fin_brk s i r hm hb)]
  | j + 1, k, r, i, h1, h2, h3 => by
    rw [show k + (j + 1) + 1 = (k + j + 1) + 1 by omega, oublietteref02_First.l0, if_pos (by omega), if_pos (by omega), if_pos (by omega)]
    split
    · rfl
    · split
      · rfl
      · rw [show wrap64 ((i : Int) + 1) = ((i + 1 : Nat) : Int) by unfold wrap64; omega]
        exact first_brk s m hm hb j k _ (i + 1) (by omega) (by omega) h3
theorem bt_get (s : ByteArray) (i : Nat) (h : i < s.size) : bt s i = ((s.get! i).toNat : Int) := by
  have h1 := get_at s i h
  rw [Nat.add_zero] at h1
  unfold bt
  rw [dif_pos (by rw [Int.toNat_natCast]; exact h), h1]
  simp only [Int.toNat_natCast]
theorem first_step (s : ByteArray) (m : Nat) (hm : m ≤ s.size) (k : Nat) (r : Int) (i : Nat) (hi : i < m) (h4 : m ≤ 4) (h0 : 0 ≤ r) (h1 : r < 1000000) (hb0 : 128 ≤ (s.get! i).toNat) (hb1 : (s.get! i).toNat ≤ 191) :
    oublietteref02_First.l0 (k + 1) s m r i = oublietteref02_First.l0 k s m (r * 64 + (s.get! i).toNat - 128) (i + 1 : Nat) := by
  rw [oublietteref02_First.l0, if_pos (by omega), if_pos (by omega), if_pos (by omega), bt_get s i (by omega), if_neg (by omega), if_neg (by omega)]
  rw [w32 (r * 64) (by omega) (by omega), w32 ((s.get! i).toNat : Int) (by omega) (by omega), w32 (r * 64 + (s.get! i).toNat) (by omega) (by omega), w32 (r * 64 + (s.get! i).toNat - 128) (by omega) (by omega),
    show wrap64 ((i : Int) + 1) = ((i + 1 : Nat) : Int) by unfold wrap64; omega]

set_option maxHeartbeats 4000000 in
theorem decN_shape (n b0 b1 b2 b3 c m : Nat) (hn : 1 ≤ n) (h0 : b0 < 256) (hd : decodeN n b0 b1 b2 b3 = (c, m)) (hb : ¬ (c = 65533 ∧ m < 2)) :
    (m = 1 ∧ b0 < 128 ∧ c = b0) ∨ (m = 2 ∧ 192 ≤ b0 ∧ b0 < 224 ∧ 128 ≤ b1 ∧ b1 ≤ 191 ∧ c = (b0 - 192) * 64 + b1 - 128) ∨
    (m = 3 ∧ 224 ≤ b0 ∧ b0 < 240 ∧ 128 ≤ b1 ∧ b1 ≤ 191 ∧ 128 ≤ b2 ∧ b2 ≤ 191 ∧ c = ((b0 - 224) * 64 + b1 - 128) * 64 + b2 - 128) ∨
    (m = 4 ∧ 240 ≤ b0 ∧ b0 < 248 ∧ 128 ≤ b1 ∧ b1 ≤ 191 ∧ 128 ≤ b2 ∧ b2 ≤ 191 ∧ 128 ≤ b3 ∧ b3 ≤ 191 ∧ c = (((b0 - 240) * 64 + b1 - 128) * 64 + b2 - 128) * 64 + b3 - 128) := by
  unfold decodeN at hd
  split at hd
  · obtain ⟨rfl, rfl⟩ := Prod.mk.inj hd
    exact .inl ⟨rfl, by omega, rfl⟩
  split at hd
  · split at hd
    · obtain ⟨rfl, rfl⟩ := Prod.mk.inj hd
      exact .inr (.inl ⟨rfl, by omega, by omega, by omega, by omega, by omega⟩)
    · obtain ⟨rfl, rfl⟩ := Prod.mk.inj hd
      exact absurd ⟨rfl, by omega⟩ hb
  split at hd
  · split at hd
    · obtain ⟨rfl, rfl⟩ := Prod.mk.inj hd
      exact .inr (.inr (.inl ⟨rfl, by omega, by omega, by omega, by omega, by omega, by omega, by omega⟩))
    · obtain ⟨rfl, rfl⟩ := Prod.mk.inj hd
      exact absurd ⟨rfl, by omega⟩ hb
  split at hd
  · split at hd
    · obtain ⟨rfl, rfl⟩ := Prod.mk.inj hd
      exact .inr (.inr (.inr ⟨rfl, by omega, by omega, by omega, by omega, by omega, by omega, by omega, by omega, by omega⟩))
    · obtain ⟨rfl, rfl⟩ := Prod.mk.inj hd
      exact absurd ⟨rfl, by omega⟩ hb
  · obtain ⟨rfl, rfl⟩ := Prod.mk.inj hd
    exact absurd ⟨rfl, by omega⟩ hb

/-- What the document reads at a text's beginning is what Go's decoder reads. -/
theorem first_eq (k : Nat) (s : ByteArray) (hs : 0 < s.size) :
    oublietteref02_First.f (k + 6) s = some (if brk s 0 = true then (0, 0) else (((Utf8.decode s 0).1 : Int), ((Utf8.decode s 0).2 : Int))) := by
  have hlt := byte_lt s 0
  unfold oublietteref02_First.f
  rw [if_neg (by omega), if_pos (by omega), show bt s 0 = ((s.get! 0).toNat : Int) from bt_get s 0 hs, w32 ((s.get! 0).toNat : Int) (by omega) (by omega)]
  cases hb : brk s 0
  · simp only [Bool.false_eq_true, if_false]
    obtain ⟨c, n, hd⟩ : ∃ c n, Utf8.decode s 0 = (c, n) := ⟨_, _, rfl⟩
    obtain ⟨h1, h2, h3⟩ := dec_ok s 0 c n hs hd hb
    rw [List.drop_zero] at h3
    have hdd := hd
    rw [decode_at] at hdd
    simp only [Nat.zero_add] at hdd h1
    have hb2 : ¬ (c = 65533 ∧ n < 2) := by
      intro h
      rw [brk, hd] at hb
      simp [h.1, h.2] at hb
    rw [hd]
    rcases decN_shape _ _ _ _ _ c n (by omega) hlt hdd hb2 with ⟨rfl, a1, a2⟩ | ⟨rfl, a1, a2, a3, a4, a5⟩ | ⟨rfl, a1, a2, a3, a4, a5, a6, a7⟩ | ⟨rfl, a1, a2, a3, a4, a5, a6, a7, a8, a9⟩
    · rw [if_neg (by omega), if_neg (by omega), if_neg (by omega), oublietteref02_First.j0, if_neg (by omega)]
      have h := first_fin (k + 4) s 1 ((s.get! 0).toNat : Int) (by omega)
      rw [if_pos ⟨by rw [← a2]; exact h2, by rw [← a2]; exact h3.symm⟩] at h
      rw [a2]; exact h
    · rw [if_neg (by omega), if_neg (by omega), if_pos (by omega), oublietteref02_First.j0, if_neg (by omega), w32 _ (by omega) (by omega)]
      have e : ((((s.get! 0).toNat : Int) - 192) * 64 + ((s.get! 1).toNat : Int) - 128) = (c : Int) := by omega
      have h := first_step s 2 (by omega) (k + 4) (((s.get! 0).toNat : Int) - 192) 1 (by omega) (by omega) (by omega) (by omega) a3 a4
      rw [e, show k + 4 = (k + 3) + 1 by omega, first_fin (k + 3) s 2 c (by omega), if_pos ⟨h2, h3.symm⟩] at h
      exact h
    · rw [if_neg (by omega), if_pos (by omega), oublietteref02_First.j0, if_neg (by omega), w32 _ (by omega) (by omega)]
      have e : (((((s.get! 0).toNat : Int) - 224) * 64 + ((s.get! 1).toNat : Int) - 128) * 64 + ((s.get! 2).toNat : Int) - 128) = (c : Int) := by omega
      have h := first_step s 3 (by omega) (k + 4) (((s.get! 0).toNat : Int) - 224) 1 (by omega) (by omega) (by omega) (by omega) a3 a4
      rw [show k + 4 = (k + 3) + 1 by omega, first_step s 3 (by omega) (k + 3) _ (1 + 1) (by omega) (by omega) (by omega) (by omega) a5 a6, e, show k + 3 = (k + 2) + 1 by omega, first_fin (k + 2) s 3 c (by omega), if_pos ⟨h2, h3.symm⟩] at h
      exact h
    · rw [if_pos (by omega), oublietteref02_First.j0, if_neg (by omega), w32 _ (by omega) (by omega)]
      have e : ((((((s.get! 0).toNat : Int) - 240) * 64 + ((s.get! 1).toNat : Int) - 128) * 64 + ((s.get! 2).toNat : Int) - 128) * 64 + ((s.get! 3).toNat : Int) - 128) = (c : Int) := by omega
      have hA := first_step s 4 (by omega) (k + 4) (((s.get! 0).toNat : Int) - 240) 1 (by omega) (by omega) (by omega) (by omega) a3 a4
      have hB := first_step s 4 (by omega) (k + 3) ((((s.get! 0).toNat : Int) - 240) * 64 + ((s.get! 1).toNat : Int) - 128) 2 (by omega) (by omega) (by omega) (by omega) a5 a6
      have hC := first_step s 4 (by omega) (k + 2) (((((s.get! 0).toNat : Int) - 240) * 64 + ((s.get! 1).toNat : Int) - 128) * 64 + ((s.get! 2).toNat : Int) - 128) 3 (by omega) (by omega) (by omega) (by omega) a7 a8
      rw [e] at hC
      have hD := first_fin (k + 1) s 4 c (by omega)
      rw [if_pos ⟨h2, h3.symm⟩] at hD
      exact hA.trans (hB.trans (hC.trans hD))
  · simp only [if_true]
    have go : ∀ (m : Nat) (r : Int), 1 ≤ m → m ≤ 4 → oublietteref02_First.j0 (k + 6) s m r = some (0, 0) := by
      intro m r h1 h4
      rw [oublietteref02_First.j0]
      by_cases hm : m ≤ s.size
      · rw [if_neg (by omega)]
        have h := first_brk s m hm hb (m - 1) (k + 5 - m) r 1 (by omega) (by omega) h4
        rw [show k + 5 - m + (m - 1) + 1 = k + 5 by omega] at h
        exact h
      · rw [if_pos (by omega)]
    split
    · exact go 4 _ (by omega) (by omega)
    · split
      · exact go 3 _ (by omega) (by omega)
      · split
        · exact go 2 _ (by omega) (by omega)
        · exact go 1 _ (by omega) (by omega)
end Go.Proofs.YtcaojgdnhmgmlaaDoor.Pure

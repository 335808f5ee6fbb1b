import Derived.Test.YtcaojgdnhmgmlaaDoorNb09
import Derived.Test.YtcaojgdnhmgmlaaDoorNb10
import Derived.Test.YtcaojgdnhmgmlaaDoorNb11
import Derived.Test.YtcaojgdnhmgmlaaDoorNb12
import Derived.Test.YtcaojgdnhmgmlaaDoorNb13
import Derived.Test.YtcaojgdnhmgmlaaDoorNb16
import Derived.Test.YtcaojgdnhmgmlaaDoorNb01
import Derived.Test.YtcaojgdnhmgmlaaDoorNb14
import Derived.Test.YtcaojgdnhmgmlaaDoorNb15
section
/- UtfFolds: how many runes a text has, its first ones, and its letters made small, are the document's. -/
set_option linter.unusedVariables false
set_option linter.unusedSimpArgs false
namespace Go.Proofs.YtcaojgdnhmgmlaaDoor.Pure
open Go.RowKit Go.Proofs.YtcaojgdnhmgmlaaDoor.Q Go.Proofs.YtcaojgdnhmgmlaaDoorW.PrintWords Go.Proofs.YtcaojgdnhmgmlaaDoorW.PrintLast
open Go.Lib (validRune encodeRune encodeRuneZ decodeN decode_at)

theorem w32 (x : Int) (h0 : -2147483648 ≤ x) (h1 : x ≤ 2147483647) : wrap32 x = x := by unfold wrap32; omega
theorem right_eq (a : Int) : oublietteref02_Right.f a = some (validRune a) := by
  unfold oublietteref02_Right.f validRune
  by_cases h1 : a ≥ 0 <;> by_cases h2 : a ≤ 1114111 <;> by_cases h3 : a < 55296 <;> simp [h1, h2, h3] <;> omega
theorem bytes_eq (r : Int) (hv : validRune r = true) : oublietteref02_Bytes.f r = some (encodeRuneZ r) := by
  rw [vld_iff] at hv
  have h0 : 0 ≤ r := by omega
  unfold oublietteref02_Bytes.f
  simp only [Int.tdiv_eq_ediv_of_nonneg h0, Int.tmod_eq_emod_of_nonneg h0]
  rw [w32 (r / 64) (by omega) (by omega), w32 (r / 4096) (by omega) (by omega), w32 (r / 262144) (by omega) (by omega),
    Int.tmod_eq_emod_of_nonneg (show 0 ≤ r / 64 by omega), Int.tmod_eq_emod_of_nonneg (show 0 ≤ r / 4096 by omega),
    w32 (192 + r / 64) (by omega) (by omega), w32 (128 + r % 64) (by omega) (by omega), w32 (224 + r / 4096) (by omega) (by omega),
    w32 (128 + r / 64 % 64) (by omega) (by omega), w32 (240 + r / 262144) (by omega) (by omega), w32 (128 + r / 4096 % 64) (by omega) (by omega)]
  by_cases h1 : r < 128
  · rw [if_pos h1, show encodeRuneZ r = [r] by unfold encodeRuneZ; rw [if_pos (by omega)]]; congr 2; omega
  · rw [if_neg h1]
    by_cases h2 : r < 2048
    · rw [if_pos h2, show encodeRuneZ r = [192 + r / 64, 128 + r % 64] by unfold encodeRuneZ; rw [if_neg (by omega), if_pos (by omega)]]; simp only [Option.some.injEq, List.cons.injEq, and_true]; omega
    · rw [if_neg h2]
      by_cases h3 : r < 65536
      · rw [if_pos h3, show encodeRuneZ r = [224 + r / 4096, 128 + r / 64 % 64, 128 + r % 64] by unfold encodeRuneZ; rw [if_neg (by omega), if_neg (by omega), if_pos (by omega)]]; simp only [Option.some.injEq, List.cons.injEq, and_true]; omega
      · rw [if_neg h3, show encodeRuneZ r = [240 + r / 262144, 128 + r / 4096 % 64, 128 + r / 64 % 64, 128 + r % 64] by unfold encodeRuneZ; rw [if_neg (by omega), if_neg (by omega), if_neg (by omega), if_pos (by omega)]]; simp only [Option.some.injEq, List.cons.injEq, and_true]; omega

theorem str_eq (r : Int) (s : ByteArray) (m : Nat) : (strOfNums (encodeRuneZ r)).toList = (s.extract 0 m).toList ↔ encodeRune r = s.data.toList.take m := by
  rw [ByteArray.toList_eq, ByteArray.toList_eq, strOfNums_data]
  have : (s.extract 0 m).data.toList = s.data.toList.take m := by cases s; simp
  rw [this]
  exact Iff.rfl
theorem first_fin (k : Nat) (s : ByteArray) (m : Nat) (r : Int) (hm : m ≤ s.size) :
    oublietteref02_First.l0 (k + 1) s m r m = some (if validRune r = true ∧ encodeRune r = s.data.toList.take m then (r, (m : Int)) else (0, 0)) := by
  rw [oublietteref02_First.l0, if_neg (Int.lt_irrefl _), right_eq, Option.bind_some]
  by_cases hv : validRune r = true
  · rw [if_pos hv, bytes_eq r hv, Option.bind_some, if_pos (by omega), if_pos (by omega), Int.toNat_natCast]
    by_cases he : encodeRune r = s.data.toList.take m
    · rw [if_pos ((str_eq r s m).2 he), if_pos ⟨hv, he⟩]
    · rw [if_neg (fun h => he ((str_eq r s m).1 h)), if_neg (fun h => he h.2)]
  · rw [if_neg hv, if_neg (fun h => hv h.1)]
theorem fin_brk (s : ByteArray) (m : Nat) (r : Int) (hm : m ≤ s.size) (hb : brk s 0 = true) : ¬ (validRune r = true ∧ encodeRune r = s.data.toList.take m) := by
  rintro ⟨h1, h2⟩
  have := (enc_dec s 0 r (s.data.toList.drop m) h1 (by rw [List.drop_zero, h2, List.take_append_drop])).2.2
  rw [this] at hb
  cases hb
theorem first_brk (s : ByteArray) (m : Nat) (hm : m ≤ s.size) (hb : brk s 0 = true) : ∀ (j k : Nat) (r : Int) (i : Nat), 1 ≤ i → i + j = m → m ≤ 4 → oublietteref02_First.l0 (k + j + 1) s m r i = some (0, 0)
  | 0, k, r, i, h1, h2, h3 => by
    obtain rfl : i = m := by omega
    rw [Nat.add_zero, first_fin k s i r hm, if_neg (fin_brk s i r hm hb)]
  | j + 1, k, r, i, h1, h2, h3 => by
    rw [show k + (j + 1) + 1 = (k + j + 1) + 1 by omega, oublietteref02_First.l0, if_pos (by omega), if_pos (by omega), if_pos (by omega)]
    split
    · rfl
    · split
      · rfl
      · rw [show wrap64 ((i : Int) + 1) = ((i + 1 : Nat) : Int) by unfold wrap64; omega]
        exact first_brk s m hm hb j k _ (i + 1) (by omega) (by omega) h3
theorem bt_get (s : ByteArray) (i : Nat) (h : i < s.size) : bt s i = ((s.get! i).toNat : Int) := by
  have h1 := get_at s i h
  rw [Nat.add_zero] at h1
  unfold bt
  rw [dif_pos (by rw [Int.toNat_natCast]; exact h), h1]
  simp only [Int.toNat_natCast]
theorem first_step (s : ByteArray) (m : Nat) (hm : m ≤ s.size) (k : Nat) (r : Int) (i : Nat) (hi : i < m) (h4 : m ≤ 4) (h0 : 0 ≤ r) (h1 : r < 1000000) (hb0 : 128 ≤ (s.get! i).toNat) (hb1 : (s.get! i).toNat ≤ 191) :
    oublietteref02_First.l0 (k + 1) s m r i = oublietteref02_First.l0 k s m (r * 64 + (s.get! i).toNat - 128) (i + 1 : Nat) := by
  rw [oublietteref02_First.l0, if_pos (by omega), if_pos (by omega), if_pos (by omega), bt_get s i (by omega), if_neg (by omega), if_neg (by omega)]
  rw [w32 (r * 64) (by omega) (by omega), w32 ((s.get! i).toNat : Int) (by omega) (by omega), w32 (r * 64 + (s.get! i).toNat) (by omega) (by omega), w32 (r * 64 + (s.get! i).toNat - 128) (by omega) (by omega),
    show wrap64 ((i : Int) + 1) = ((i + 1 : Nat) : Int) by unfold wrap64; omega]

set_option maxHeartbeats 4000000 in
theorem decN_shape (n b0 b1 b2 b3 c m : Nat) (hn : 1 ≤ n) (h0 : b0 < 256) (hd : decodeN n b0 b1 b2 b3 = (c, m)) (hb : ¬ (c = 65533 ∧ m < 2)) :
    (m = 1 ∧ b0 < 128 ∧ c = b0) ∨ (m = 2 ∧ 192 ≤ b0 ∧ b0 < 224 ∧ 128 ≤ b1 ∧ b1 ≤ 191 ∧ c = (b0 - 192) * 64 + b1 - 128) ∨
    (m = 3 ∧ 224 ≤ b0 ∧ b0 < 240 ∧ 128 ≤ b1 ∧ b1 ≤ 191 ∧ 128 ≤ b2 ∧ b2 ≤ 191 ∧ c = ((b0 - 224) * 64 + b1 - 128) * 64 + b2 - 128) ∨
    (m = 4 ∧ 240 ≤ b0 ∧ b0 < 248 ∧ 128 ≤ b1 ∧ b1 ≤ 191 ∧ 128 ≤ b2 ∧ b2 ≤ 191 ∧ 128 ≤ b3 ∧ b3 ≤ 191 ∧ c = (((b0 - 240) * 64 + b1 - 128) * 64 + b2 - 128) * 64 + b3 - 128) := by
  unfold decodeN at hd
  split at hd
  · obtain ⟨rfl, rfl⟩ := Prod.mk.inj hd
    exact .inl ⟨rfl, by omega, rfl⟩
  split at hd
  · split at hd
    · obtain ⟨rfl, rfl⟩ := Prod.mk.inj hd
      exact .inr (.inl ⟨rfl, by omega, by omega, by omega, by omega, by omega⟩)
    · obtain ⟨rfl, rfl⟩ := Prod.mk.inj hd
      exact absurd ⟨rfl, by omega⟩ hb
  split at hd
  · split at hd
    · obtain ⟨rfl, rfl⟩ := Prod.mk.inj hd
      exact .inr (.inr (.inl ⟨rfl, by omega, by omega, by omega, by omega, by omega, by omega, by omega⟩))
    · obtain ⟨rfl, rfl⟩ := Prod.mk.inj hd
      exact absurd ⟨rfl, by omega⟩ hb
  split at hd
  · split at hd
    · obtain ⟨rfl, rfl⟩ := Prod.mk.inj hd
      exact .inr (.inr (.inr ⟨rfl, by omega, by omega, by omega, by omega, by omega, by omega, by omega, by omega, by omega⟩))
    · obtain ⟨rfl, rfl⟩ := Prod.mk.inj hd
      exact absurd ⟨rfl, by omega⟩ hb
  · obtain ⟨rfl, rfl⟩ := Prod.mk.inj hd
    exact absurd ⟨rfl, by omega⟩ hb

/-- What the document reads at a text's beginning is what Go's decoder reads. -/
theorem first_eq (k : Nat) (s : ByteArray) (hs : 0 < s.size) :
    oublietteref02_First.f (k + 6) s = some (if brk s 0 = true then (0, 0) else (((Utf8.decode s 0).1 : Int), ((Utf8.decode s 0).2 : Int))) := by
  have hlt := byte_lt s 0
  unfold oublietteref02_First.f
  rw [if_neg (by omega), if_pos (by omega), show bt s 0 = ((s.get! 0).toNat : Int) from bt_get s 0 hs, w32 ((s.get! 0).toNat : Int) (by omega) (by omega)]
  cases hb : brk s 0
  · simp only [Bool.false_eq_true, if_false]
    obtain ⟨c, n, hd⟩ : ∃ c n, Utf8.decode s 0 = (c, n) := ⟨_, _, rfl⟩
    obtain ⟨h1, h2, h3⟩ := dec_ok s 0 c n hs hd hb
    rw [List.drop_zero] at h3
    have hdd := hd
    rw [decode_at] at hdd
    simp only [Nat.zero_add] at hdd h1
    have hb2 : ¬ (c = 65533 ∧ n < 2) := by
      intro h
      rw [brk, hd] at hb
      simp [h.1, h.2] at hb
    rw [hd]
    rcases decN_shape _ _ _ _ _ c n (by omega) hlt hdd hb2 with ⟨rfl, a1, a2⟩ | ⟨rfl, a1, a2, a3, a4, a5⟩ | ⟨rfl, a1, a2, a3, a4, a5, a6, a7⟩ | ⟨rfl, a1, a2, a3, a4, a5, a6, a7, a8, a9⟩
    · rw [if_neg (by omega), if_neg (by omega), if_neg (by omega), oublietteref02_First.j0, if_neg (by omega)]
      have h := first_fin (k + 4) s 1 ((s.get! 0).toNat : Int) (by omega)
      rw [if_pos ⟨by rw [← a2]; exact h2, by rw [← a2]; exact h3.symm⟩] at h
      rw [a2]; exact h
    · rw [if_neg (by omega), if_neg (by omega), if_pos (by omega), oublietteref02_First.j0, if_neg (by omega), w32 _ (by omega) (by omega)]
      have e : ((((s.get! 0).toNat : Int) - 192) * 64 + ((s.get! 1).toNat : Int) - 128) = (c : Int) := by omega
      have h := first_step s 2 (by omega) (k + 4) (((s.get! 0).toNat : Int) - 192) 1 (by omega) (by omega) (by omega) (by omega) a3 a4
      rw [e, show k + 4 = (k + 3) + 1 by omega, first_fin (k + 3) s 2 c (by omega), if_pos ⟨h2, h3.symm⟩] at h
      exact h
    · rw [if_neg (by omega), if_pos (by omega), oublietteref02_First.j0, if_neg (by omega), w32 _ (by omega) (by omega)]
      have e : (((((s.get! 0).toNat : Int) - 224) * 64 + ((s.get! 1).toNat : Int) - 128) * 64 + ((s.get! 2).toNat : Int) - 128) = (c : Int) := by omega
      have h := first_step s 3 (by omega) (k + 4) (((s.get! 0).toNat : Int) - 224) 1 (by omega) (by omega) (by omega) (by omega) a3 a4
      rw [show k + 4 = (k + 3) + 1 by omega, first_step s 3 (by omega) (k + 3) _ (1 + 1) (by omega) (by omega) (by omega) (by omega) a5 a6, e, show k + 3 = (k + 2) + 1 by omega, first_fin (k + 2) s 3 c (by omega), if_pos ⟨h2, h3.symm⟩] at h
      exact h
    · rw [if_pos (by omega), oublietteref02_First.j0, if_neg (by omega), w32 _ (by omega) (by omega)]
      have e : ((((((s.get! 0).toNat : Int) - 240) * 64 + ((s.get! 1).toNat : Int) - 128) * 64 + ((s.get! 2).toNat : Int) - 128) * 64 + ((s.get! 3).toNat : Int) - 128) = (c : Int) := by omega
      have hA := first_step s 4 (by omega) (k + 4) (((s.get! 0).toNat : Int) - 240) 1 (by omega) (by omega) (by omega) (by omega) a3 a4
      have hB := first_step s 4 (by omega) (k + 3) ((((s.get! 0).toNat : Int) - 240) * 64 + ((s.get! 1).toNat : Int) - 128) 2 (by omega) (by omega) (by omega) (by omega) a5 a6
      have hC := first_step s 4 (by omega) (k + 2) (((((s.get! 0).toNat : Int) - 240) * 64 + ((s.get! 1).toNat : Int) - 128) * 64 + ((s.get! 2).toNat : Int) - 128) 3 (by omega) (by omega) (by omega) (by omega) a7 a8
      rw [e] at hC
      have hD := first_fin (k + 1) s 4 c (by omega)
      rw [if_pos ⟨h2, h3.symm⟩] at hD
      exact hA.trans (hB.trans (hC.trans hD))
  · simp only [if_true]
    have go : ∀ (m : Nat) (r : Int), 1 ≤ m → m ≤ 4 → oublietteref02_First.j0 (k + 6) s m r = some (0, 0) := by
      intro m r h1 h4
      rw [oublietteref02_First.j0]
      by_cases hm : m ≤ s.size
      · rw [if_neg (by omega)]
        have h := first_brk s m hm hb (m - 1) (k + 5 - m) r 1 (by omega) (by omega) h4
        rw [show k + 5 - m + (m - 1) + 1 = k + 5 by omega] at h
        exact h
      · rw [if_pos (by omega)]
    split
    · exact go 4 _ (by omega) (by omega)
    · split
      · exact go 3 _ (by omega) (by omega)
      · split
        · exact go 2 _ (by omega) (by omega)
        · exact go 1 _ (by omega) (by omega)
end Go.Proofs.YtcaojgdnhmgmlaaDoor.Pure
namespace Go.Proofs.YtcaojgdnhmgmlaaDoor.Pure
open Go.RowKit Go.Proofs.YtcaojgdnhmgmlaaDoor.Q Go.Proofs.YtcaojgdnhmgmlaaDoorW.PrintWords Go.Proofs.YtcaojgdnhmgmlaaDoorW.PrintLast
open Go.Lib (validRune encodeRune encodeRuneZ)

theorem dec_ext0 (s : ByteArray) (p : Nat) (h : p < s.size) : Utf8.decode (s.extract p s.size) 0 = Utf8.decode s p := by
  have := dec_ext s p h
  unfold Go.Lib.decodeGo at this
  rwa [if_neg (by rw [ext_size]; omega)] at this
theorem runes_go (s : ByteArray) (hs : s.size < 1000000) : ∀ (j p : Nat) (acc : List Int), s.size ≤ p + j → p ≤ s.size → acc.length ≤ p →
    oublietteref02_Runes.l0 (j + 8) s acc p = some (runesR (acc ++ (scan s j p).1, (scan s j p).2))
  | 0, p, acc, hj, hp, ha => by
    rw [scan_end s 0 p (by omega), oublietteref02_Runes.l0, if_neg (by omega)]
    simp [runesR]
  | j + 1, p, acc, hj, hp, ha => by
    rw [show j + 1 + 8 = (j + 8) + 1 by omega, oublietteref02_Runes.l0]
    by_cases hlt : p < s.size
    · rw [if_pos (by omega), if_pos (by omega), if_pos (by omega), Int.toNat_natCast, show j + 8 = (j + 2) + 6 by omega, first_eq (j + 2) _ (by rw [ext_size]; omega), Option.bind_some]
      have hbe : brk (s.extract p s.size) 0 = brk s p := by unfold brk; rw [dec_ext0 s p hlt]
      rw [hbe, dec_ext0 s p hlt]
      cases hb : brk s p
      · obtain ⟨c, n, hd⟩ : ∃ c n, Utf8.decode s p = (c, n) := ⟨_, _, rfl⟩
        have hw := wid_pos s p
        obtain ⟨h1, h2, h3⟩ := dec_ok s p c n hlt hd hb
        rw [scan_next s j p hlt hb, hd]
        rw [hd] at hw
        simp only at hw
        simp only [Bool.false_eq_true, if_false]
        rw [if_neg (by omega), if_pos (by omega), show wrap64 ((p : Int) + (n : Int)) = ((p + n : Nat) : Int) by unfold wrap64; omega]
        rw [show j + 2 + 6 = j + 8 by omega, runes_go s hs j (p + n) _ (by omega) h1 (by simp; omega)]
        simp
      · simp only [if_true]
        rw [scan_brk s j p hlt hb]
        rfl
    · rw [scan_end s _ p hlt, if_neg (by omega)]
      simp [runesR]
theorem runes_eq (s : ByteArray) (hs : s.size < 1000000) (k : Nat) (hk : s.size + 8 ≤ k) : oublietteref02_Runes.f k s = some (runesR (runesOf s)) := by
  obtain ⟨j, rfl⟩ : ∃ j, k = s.size + j + 8 := ⟨k - s.size - 8, by omega⟩
  have h := runes_go s hs (s.size + j) 0 [] (by omega) (by omega) (by simp)
  rw [scan_more s s.size 0 (by omega) j, List.nil_append] at h
  exact h

theorem zlen (r : Int) : (encodeRuneZ r).length ≤ 4 := by
  have := Go.Lib.runeCells_le r
  rw [Go.Lib.runeCells_length] at this
  unfold encodeRune at this
  simp only [List.length_map] at this
  exact this.2
theorem badAt_cons (r : Int) (t : List Int) (i : Nat) : badAt (r :: t) i = if validRune r = true then badAt t (i + 1) else some i := rfl
theorem text_go (l : List Int) (hl : l.length < 1000000) : ∀ (j i e : Nat) (acc : List Int), i + j = l.length → acc.length ≤ 4 * i →
    oublietteref02_Text.l0 (j + 1 + e) l acc i = some (match badAt (l.drop i) i with | none => (strOfNums (acc ++ (l.drop i).flatMap encodeRuneZ), 0, 0) | some b => ((⟨#[]⟩ : ByteArray), (b : Int), 4))
  | 0, i, e, acc, hi, ha => by
    rw [show 0 + 1 + e = e + 1 by omega, oublietteref02_Text.l0, if_neg (by omega), List.drop_of_length_le (by omega)]
    simp [badAt]
  | j + 1, i, e, acc, hi, ha => by
    rw [show j + 1 + 1 + e = (j + 1 + e) + 1 by omega, oublietteref02_Text.l0, if_pos (by omega), if_pos (by omega), right_eq, Option.bind_some, drop_rd l i (by omega)]
    by_cases hv : validRune (rd l i) = true
    · have hz := zlen (rd l i)
      rw [if_pos hv, bytes_eq _ hv, Option.bind_some, if_pos (by omega), show wrap64 ((i : Int) + 1) = ((i + 1 : Nat) : Int) by unfold wrap64; omega,
        text_go l hl j (i + 1) e _ (by omega) (by simp; omega)]
      rw [badAt_cons, if_pos hv, List.flatMap_cons, List.append_assoc]
    · rw [if_neg hv]
      rw [badAt_cons, if_neg hv]
theorem flat_eq (l : List Int) : strOfNums (l.flatMap encodeRuneZ) = ⟨(encL l).toArray⟩ := by
  unfold strOfNums encL encodeRune
  rw [List.map_flatMap]
theorem text_eq (l : List Int) (hl : l.length < 1000000) (k : Nat) (hk : l.length + 1 ≤ k) : oublietteref02_Text.f k l = some (textR l (badAt l 0)) := by
  obtain ⟨e, rfl⟩ : ∃ e, k = l.length + 1 + e := ⟨k - l.length - 1, by omega⟩
  have h := text_go l hl l.length 0 e [] (by omega) (by simp)
  rw [List.drop_zero, List.nil_append, flat_eq] at h
  unfold oublietteref02_Text.f
  refine h.trans ?_
  cases badAt l 0 <;> rfl
theorem bad_none (l : List Int) : ∀ i, (∀ r ∈ l, validRune r = true) → badAt l i = none := by
  induction l with
  | nil => intro i h; rfl
  | cons r t ih =>
    intro i h
    rw [badAt_cons, if_pos (h r (List.mem_cons_self ..))]
    exact ih _ (fun x hx => h x (List.mem_cons_of_mem _ hx))
theorem none_bad (l : List Int) : ∀ i, badAt l i = none → (∀ r ∈ l, validRune r = true) := by
  induction l with
  | nil => intro i h; simp
  | cons r t ih =>
    intro i h
    by_cases hv : validRune r = true
    · rw [badAt_cons, if_pos hv] at h
      intro x hx
      rcases List.mem_cons.1 hx with rfl | hx
      · exact hv
      · exact ih _ h x hx
    · rw [badAt_cons, if_neg hv] at h
      cases h
theorem text_ok (l : List Int) (hl : l.length < 1000000) (k : Nat) (hk : l.length + 1 ≤ k) (hv : ∀ r ∈ l, validRune r = true) : oublietteref02_Text.f k l = some (⟨(encL l).toArray⟩, 0, 0) := by
  rw [text_eq l hl k hk, bad_none l 0 hv]; rfl

theorem same_go (l : List Int) (hl : l.length < 9223372036854775807) : ∀ (j i e : Nat), i + j = l.length → oubliettelaw02_same.l0 (j + 1 + e) l l i = some true
  | 0, i, e, hi => by rw [show 0 + 1 + e = e + 1 by omega, oubliettelaw02_same.l0, if_neg (by omega)]
  | j + 1, i, e, hi => by
    rw [show j + 1 + 1 + e = (j + 1 + e) + 1 by omega, oubliettelaw02_same.l0, if_pos (by omega), if_pos (by omega), if_pos (by omega), if_pos rfl, show wrap64 ((i : Int) + 1) = ((i + 1 : Nat) : Int) by unfold wrap64; omega,
      same_go l hl j (i + 1) e (by omega)]
theorem same_eq (l : List Int) (hl : l.length < 9223372036854775807) (k : Nat) (hk : l.length + 1 ≤ k) : oubliettelaw02_same.f k l l = some true := by
  obtain ⟨e, rfl⟩ : ∃ e, k = l.length + 1 + e := ⟨k - l.length - 1, by omega⟩
  unfold oubliettelaw02_same.f
  rw [if_pos rfl]
  exact same_go l hl l.length 0 e (by omega)

theorem alive_eq : oubliettelaw02_alive.f = some true := by decide +kernel

/-- Facts on the runes that a text has. -/
theorem runes_len (s : ByteArray) : (runesOf s).1.length ≤ s.size := scan_len s s.size 0
theorem runes_ok (s : ByteArray) (h : (runesOf s).2 = none) : encL (runesOf s).1 = s.data.toList ∧ (∀ r ∈ (runesOf s).1, validRune r = true) := by
  have := scan_enc s s.size 0 (by omega) (Nat.zero_le _) h
  rwa [List.drop_zero] at this
theorem runes_of (l : List Int) (hv : ∀ r ∈ l, validRune r = true) : runesOf ⟨(encL l).toArray⟩ = (l, none) :=
  scan_of_enc _ l _ 0 (by omega) (by simp) hv
theorem enc_size (l : List Int) : (⟨(encL l).toArray⟩ : ByteArray).size = (encL l).length := by simp [ByteArray.size]
end Go.Proofs.YtcaojgdnhmgmlaaDoor.Pure
namespace Go.Proofs.YtcaojgdnhmgmlaaDoor.Pure
open Go.RowKit Go.Proofs.YtcaojgdnhmgmlaaDoor.Q Go.Proofs.YtcaojgdnhmgmlaaDoorW.PrintWords Go.Proofs.YtcaojgdnhmgmlaaDoorW.PrintLast
open Go.Lib (encodeRune encodeRuneZ)

theorem rupper_eq (a : Int) : oublietteref02_Upper.f a = some (upr a) := by
  unfold oublietteref02_Upper.f upr
  by_cases h1 : 65 ≤ a <;> by_cases h2 : a ≤ 90 <;> by_cases h3 : 192 ≤ a <;> by_cases h4 : a ≤ 222 <;> simp [h1, h2, h3, h4, bne] <;> first | omega | (by_cases h5 : a = 215 <;> simp [h5])
theorem letter_eq (a : Int) : ∃ x, utf_Letter.f a = some x ∧ oublietteref02_Letter.f a = some x := by
  unfold utf_Letter.f oublietteref02_Letter.f
  rw [upper_eq, rupper_eq, Option.bind_some, Option.bind_some]
  cases hu : upr a
  · by_cases h0 : a = 247
    · subst h0; exact ⟨false, by simp, by simp⟩
    · by_cases h1 : 97 ≤ a <;> by_cases h2 : a ≤ 122 <;> by_cases h3 : 223 ≤ a <;> by_cases h4 : a ≤ 255 <;> simp [h0, h1, h2, h3, h4, bne]
  · exact ⟨true, by simp, by simp⟩
theorem fold_go (l : List Int) (hl : l.length < 1000000) (hv : ∀ r ∈ l, validRune r = true) : ∀ (j i e : Nat) (acc : List Int), i + j = l.length → acc.length ≤ i →
    oublietteref02_Fold.l0 (j + 1 + e) l acc i = (oublietteref02_Text.f e (acc ++ (l.drop i).map sml)).bind fun b => some b.1
  | 0, i, e, acc, hi, ha => by
    rw [show 0 + 1 + e = e + 1 by omega, oublietteref02_Fold.l0, if_neg (by omega), List.drop_of_length_le (by omega)]
    simp
  | j + 1, i, e, acc, hi, ha => by
    have hr := (vld_iff _).1 (hv (rd l i) (by simp [rd, List.getD, show i < l.length by omega]))
    rw [show j + 1 + 1 + e = (j + 1 + e) + 1 by omega, oublietteref02_Fold.l0, if_pos (by omega), if_pos (by omega), rupper_eq, Option.bind_some, drop_rd l i (by omega), List.map_cons, show wrap64 ((i : Int) + 1) = ((i + 1 : Nat) : Int) by unfold wrap64; omega, w32 (rd l i + 32) (by omega) (by omega)]
    cases hu : upr (rd l i)
    · rw [if_neg (show ¬ (false = true) by simp), if_pos (show acc.length < 35184372088832 by omega), fold_go l hl hv j (i + 1) e _ (by omega) (by simp; omega)]
      simp [sml, hu]
    · rw [if_pos rfl, if_pos (show acc.length < 35184372088832 by omega), fold_go l hl hv j (i + 1) e _ (by omega) (by simp; omega)]
      simp [sml, hu]
theorem rfold_eq (s : ByteArray) (hs : s.size < 300000) (k : Nat) (hk : s.size + s.size + 12 ≤ k) : oublietteref02_Fold.f k s = some (foldR s) := by
  unfold oublietteref02_Fold.f
  rw [runes_eq s (by omega) k (by omega), Option.bind_some]
  have hq := runes_len s
  unfold foldR runesR
  cases h2 : (runesOf s).2 with
  | none =>
    have hv := (runes_ok s h2).2
    obtain ⟨e, rfl⟩ : ∃ e, k = (runesOf s).1.length + 1 + e := ⟨k - (runesOf s).1.length - 1, by omega⟩
    have h := fold_go (runesOf s).1 (by omega) hv (runesOf s).1.length 0 e [] (by omega) (by simp)
    rw [List.drop_zero, List.nil_append, text_ok _ (by simp; omega) e (by simp; omega) (fun r hr => by obtain ⟨x, hx, rfl⟩ := List.mem_map.1 hr; exact sml_vld x (hv x hx)), Option.bind_some] at h
    exact h
  | some p =>
    obtain ⟨e, rfl⟩ : ∃ e, k = 0 + 1 + e := ⟨k - 1, by omega⟩
    have h := fold_go [] (by simp) (by simp) 0 0 e [] (by simp) (by simp)
    rw [List.drop_zero, List.nil_append, text_ok _ (by simp) e (by simp; omega) (by simp), Option.bind_some] at h
    exact h
theorem rcount_eq (s : ByteArray) (hs : s.size < 1000000) (k : Nat) (hk : s.size + 8 ≤ k) : oublietteref02_Count.f k s = utf_Count.f s := by
  unfold oublietteref02_Count.f utf_Count.f
  rw [runes_eq s hs k hk, Option.bind_some, if_pos hs]
  unfold runesR
  cases h2 : (runesOf s).2 <;> simp
theorem rcut_eq (s : ByteArray) (n : Int) (hs : s.size < 1000000) (k : Nat) (hk : s.size + 8 ≤ k) : oublietteref02_Cut.f k s n = some (cutR s n) := by
  unfold oublietteref02_Cut.f cutR
  rw [runes_eq s hs k hk, Option.bind_some]
  by_cases hn : n < 1
  · rw [if_pos hn, if_pos hn]
  · rw [if_neg hn, if_neg hn]
    have hq := runes_len s
    unfold runesR
    cases h2 : (runesOf s).2 with
    | none =>
      have hv := (runes_ok s h2).2
      simp only [Option.isNone_none, if_true]
      have hm : 0 ≤ mn n (runesOf s).1.length ∧ mn n (runesOf s).1.length ≤ (runesOf s).1.length ∧ (runesOf s).1.take (mn n (runesOf s).1.length).toNat = (runesOf s).1.take n.toNat := by
        unfold mn
        split
        · refine ⟨by omega, by omega, ?_⟩
          rw [Int.toNat_natCast, List.take_length, List.take_of_length_le (by omega)]
        · exact ⟨by omega, by omega, rfl⟩
      rw [if_pos hm.1, if_pos hm.2.1, hm.2.2, text_ok _ (by rw [List.length_take]; omega) k (by rw [List.length_take]; omega) (fun r hr => hv r (List.mem_of_mem_take hr)), Option.bind_some]
    | some p =>
      have hm : mn n (([] : List Int).length : Int) = 0 := by unfold mn; simp; omega
      simp only [Option.isNone_some, hm, Bool.false_eq_true, if_false]
      rw [if_pos (by omega), if_pos (by simp), List.take_nil, text_ok _ (by simp) k (by simp; omega) (by simp), Option.bind_some]
      rfl
theorem UtfFolds : oubliettelaw02_UtfFolds.Pure := by
  intro s n r _ hn hr
  refine ⟨1000, ?_⟩
  have hn2 : -9223372036854775808 ≤ n ∧ n ≤ 9223372036854775807 := by simp [Lit.wf, IntKind.min, IntKind.max, IntKind.signed, IntKind.bits] at hn; omega
  obtain ⟨x, hx1, hx2⟩ := letter_eq r
  unfold oubliettelaw02_UtfFolds.f
  split
  · rw [alive_eq]; rfl
  · rename_i hs
    rw [rcount_eq s (by omega) 1000 (by omega), rcut_eq s n (by omega) 1000 (by omega), rfold_eq s (by omega) 1000 (by omega), utf_Count.f, if_pos (by omega), Option.bind_some, Option.bind_some, if_pos rfl, utf_Cut.f, if_pos ⟨by omega, hn2⟩, Option.bind_some, Option.bind_some, if_pos rfl,
      utf_Fold.f, if_pos (by omega), Option.bind_some, Option.bind_some, if_pos rfl, hx1, hx2, Option.bind_some, Option.bind_some, if_pos (by simp), upper_eq, rupper_eq, Option.bind_some, Option.bind_some, if_pos (by simp), alive_eq]
    rfl
end Go.Proofs.YtcaojgdnhmgmlaaDoor.Pure
end
section
/- Functions of the seat as plain Lean functions, and that the calls do what these say; conditions stand in each theorem. (Written by a program of this seat's prover, by the kit's printer; Lean checks it.) -/
namespace Go.Proofs.YtcaojgdnhmgmlaaDoor.Q
open Go.RowKit Go.Proofs.YtcaojgdnhmgmlaaDoorW.PrintWords Go.Proofs.YtcaojgdnhmgmlaaDoorW.PrintLast Go.Proofs.YtcaojgdnhmgmlaaDoorW.PrintMore
attribute [local go_sem] max2_int min2_int max_two min_two max_three min_three max_four min_four   -- for this text's walks alone
set_option linter.unusedVariables false
set_option linter.unusedSimpArgs false

/-! ### oublietteref03_small: function 98 -/
def oublietteref03_small.f (a0 : Int) : Option (Bool) := if a0 ≥ 48 then (if a0 ≤ 57 then (some true) else ((oublietteref02_Letter.f a0).bind fun t306 => (if t306 = true then ((oublietteref02_Upper.f a0).bind fun t307 => (some (!t307))) else (some false)))) else ((oublietteref02_Letter.f a0).bind fun t308 => (if t308 = true then ((oublietteref02_Upper.f a0).bind fun t309 => (some (!t309))) else (some false)))
set_option maxHeartbeats 8000000 in
set_option maxRecDepth 100000 in
theorem oublietteref03_small.calls (a0 : Int) (r : Bool) (w : World) (h : oublietteref03_small.f a0 = some r) :
    Calls Tryd.prog 98 #[.int .i32 a0] w fun e w' => e = .returned (.bool r) ∧ Drawn0 w w' := by
  have H : (if a0 ≥ 48 then (if a0 ≤ 57 then (some true) else ((oublietteref02_Letter.f a0).bind fun t306 => (if t306 = true then ((oublietteref02_Upper.f a0).bind fun t307 => (some (!t307))) else (some false)))) else ((oublietteref02_Letter.f a0).bind fun t308 => (if t308 = true then ((oublietteref02_Upper.f a0).bind fun t309 => (some (!t309))) else (some false)))) = some r := h
  clear h
  by_cases c2 : a0 ≥ 48
  · rw [if_pos c2] at H
    have c2b0 : decide (48 ≤ a0) = true := decide_eq_true c2
    clear c2
    by_cases c3 : a0 ≤ 57
    · rw [if_pos c3] at H
      have c3b0 : decide (a0 ≤ 57) = true := decide_eq_true c3
      clear c3
      obtain rfl := Option.some.inj H
      go_enter Tryd.func98, Tryd.ntmps98
      go_wp2
      go_ret
      exact ⟨by first | rfl | (simp; done) | (simp [*]; done), by repeat (first | exact Drawn0.refl _ | apply Drawn0.step)⟩
    · rw [if_neg c3] at H
      have c3b0 : decide (a0 ≤ 57) = false := decide_eq_false c3
      clear c3
      replace H := Option.bind_eq_some_iff.mp H
      obtain ⟨t306, A40, H⟩ := H
      replace H : (if t306 = true then ((oublietteref02_Upper.f a0).bind fun t307 => (some (!t307))) else (some false)) = some r := H
      have A4 := Aside0.mk A40
      clear A40
      by_cases c5 : t306 = true
      · subst c5
        have H1 : ((oublietteref02_Upper.f a0).bind fun t307 => (some (!t307))) = some r := by rw [if_pos rfl] at H; exact H
        clear H
        have H := H1
        clear H1
        replace H := Option.bind_eq_some_iff.mp H
        obtain ⟨t307, A60, H⟩ := H
        replace H : (some (!t307)) = some r := H
        have A6 := Aside0.mk A60
        clear A60
        obtain rfl := Option.some.inj H
        go_enter Tryd.func98, Tryd.ntmps98
        go_wp2_with (first | (go_at_call 33; (with_reducible refine (oublietteref02_Letter.calls a0 true _ A4.out).mono ?_); rintro e w' ⟨rfl, ⟨nd, rfl⟩⟩) | (go_at_call 35; (with_reducible refine (oublietteref02_Upper.calls a0 t307 _ A6.out).mono ?_); rintro e w' ⟨rfl, ⟨nd, rfl⟩⟩))
        go_ret
        exact ⟨by first | rfl | (simp; done) | (simp [*]; done), by repeat (first | exact Drawn0.refl _ | apply Drawn0.step)⟩
      · replace c5 := Bool.eq_false_iff.mpr c5
        subst c5
        have H1 : (some false) = some r := by rw [if_neg (show ¬ (false = true) by decide)] at H; exact H
        clear H
        have H := H1
        clear H1
        obtain rfl := Option.some.inj H
        go_enter Tryd.func98, Tryd.ntmps98
        go_wp2_with (first | (go_at_call 33; (with_reducible refine (oublietteref02_Letter.calls a0 false _ A4.out).mono ?_); rintro e w' ⟨rfl, ⟨nd, rfl⟩⟩))
        go_ret
        exact ⟨by first | rfl | (simp; done) | (simp [*]; done), by repeat (first | exact Drawn0.refl _ | apply Drawn0.step)⟩
  · rw [if_neg c2] at H
    have c2b0 : decide (48 ≤ a0) = false := decide_eq_false c2
    clear c2
    replace H := Option.bind_eq_some_iff.mp H
    obtain ⟨t308, A70, H⟩ := H
    replace H : (if t308 = true then ((oublietteref02_Upper.f a0).bind fun t309 => (some (!t309))) else (some false)) = some r := H
    have A7 := Aside0.mk A70
    clear A70
    by_cases c8 : t308 = true
    · subst c8
      have H1 : ((oublietteref02_Upper.f a0).bind fun t309 => (some (!t309))) = some r := by rw [if_pos rfl] at H; exact H
      clear H
      have H := H1
      clear H1
      replace H := Option.bind_eq_some_iff.mp H
      obtain ⟨t309, A90, H⟩ := H
      replace H : (some (!t309)) = some r := H
      have A9 := Aside0.mk A90
      clear A90
      obtain rfl := Option.some.inj H
      go_enter Tryd.func98, Tryd.ntmps98
      go_wp2_with (first | (go_at_call 33; (with_reducible refine (oublietteref02_Letter.calls a0 true _ A7.out).mono ?_); rintro e w' ⟨rfl, ⟨nd, rfl⟩⟩) | (go_at_call 35; (with_reducible refine (oublietteref02_Upper.calls a0 t309 _ A9.out).mono ?_); rintro e w' ⟨rfl, ⟨nd, rfl⟩⟩))
      go_ret
      exact ⟨by first | rfl | (simp; done) | (simp [*]; done), by repeat (first | exact Drawn0.refl _ | apply Drawn0.step)⟩
    · replace c8 := Bool.eq_false_iff.mpr c8
      subst c8
      have H1 : (some false) = some r := by rw [if_neg (show ¬ (false = true) by decide)] at H; exact H
      clear H
      have H := H1
      clear H1
      obtain rfl := Option.some.inj H
      go_enter Tryd.func98, Tryd.ntmps98
      go_wp2_with (first | (go_at_call 33; (with_reducible refine (oublietteref02_Letter.calls a0 false _ A7.out).mono ?_); rintro e w' ⟨rfl, ⟨nd, rfl⟩⟩))
      go_ret
      exact ⟨by first | rfl | (simp; done) | (simp [*]; done), by repeat (first | exact Drawn0.refl _ | apply Drawn0.step)⟩

end Go.Proofs.YtcaojgdnhmgmlaaDoor.Q
end

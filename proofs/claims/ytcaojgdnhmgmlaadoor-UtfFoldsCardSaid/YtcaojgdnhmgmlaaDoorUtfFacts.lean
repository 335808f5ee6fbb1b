/- What the decoder reads is what the encoder writes, and the other way round. -/
import Derived.Test.YtcaojgdnhmgmlaaDoorUtfDefs
namespace Go.Proofs.YtcaojgdnhmgmlaaDoor.Q
open Go.RowKit Go.Lib
set_option linter.unusedVariables false

theorem vld_iff (r : Int) : validRune r = true ↔ (0 ≤ r ∧ r < 55296) ∨ (57343 < r ∧ r ≤ 1114111) := by simp [validRune]

set_option maxHeartbeats 2000000 in
theorem decN_ok (n b0 b1 b2 b3 c m : Nat) (hn : 1 ≤ n) (h0 : b0 < 256) (h1 : b1 < 256) (h2 : b2 < 256) (h3 : b3 < 256) (hd : decodeN n b0 b1 b2 b3 = (c, m)) (hb : ¬ (c = 65533 ∧ m < 2)) :
    m ≤ n ∧ validRune c = true ∧ ((m = 1 ∧ encodeRuneZ c = [(b0 : Int)]) ∨ (m = 2 ∧ encodeRuneZ c = [(b0 : Int), (b1 : Int)]) ∨ (m = 3 ∧ encodeRuneZ c = [(b0 : Int), (b1 : Int), (b2 : Int)]) ∨ (m = 4 ∧ encodeRuneZ c = [(b0 : Int), (b1 : Int), (b2 : Int), (b3 : Int)])) := by
  rw [vld_iff]
  unfold decodeN at hd
  split at hd
  · obtain ⟨rfl, rfl⟩ := Prod.mk.inj hd
    refine ⟨by omega, by omega, .inl ⟨rfl, ?_⟩⟩
    unfold encodeRuneZ
    rw [if_pos (by omega)]
  split at hd
  · split at hd
    · obtain ⟨rfl, rfl⟩ := Prod.mk.inj hd
      refine ⟨by omega, by omega, .inr (.inl ⟨rfl, ?_⟩)⟩
      unfold encodeRuneZ
      rw [if_neg (by omega), if_pos (by omega)]
      simp only [List.cons.injEq, and_true]
      omega
    · obtain ⟨rfl, rfl⟩ := Prod.mk.inj hd
      exact absurd ⟨rfl, by omega⟩ hb
  split at hd
  · split at hd
    · obtain ⟨rfl, rfl⟩ := Prod.mk.inj hd
      refine ⟨by omega, by omega, .inr (.inr (.inl ⟨rfl, ?_⟩))⟩
      unfold encodeRuneZ
      rw [if_neg (by omega), if_neg (by omega), if_pos (by omega)]
      simp only [List.cons.injEq, and_true]
      omega
    · obtain ⟨rfl, rfl⟩ := Prod.mk.inj hd
      exact absurd ⟨rfl, by omega⟩ hb
  split at hd
  · split at hd
    · obtain ⟨rfl, rfl⟩ := Prod.mk.inj hd
      refine ⟨by omega, by omega, .inr (.inr (.inr ⟨rfl, ?_⟩))⟩
      unfold encodeRuneZ
      rw [if_neg (by omega), if_neg (by omega), if_neg (by omega), if_pos (by omega)]
      simp only [List.cons.injEq, and_true]
      omega
    · obtain ⟨rfl, rfl⟩ := Prod.mk.inj hd
      exact absurd ⟨rfl, by omega⟩ hb
  · obtain ⟨rfl, rfl⟩ := Prod.mk.inj hd
    exact absurd ⟨rfl, by omega⟩ hb

set_option maxHeartbeats 2000000 in
theorem encN (r : Int) (hv : validRune r = true) : (∃ b0 : Nat, b0 < 256 ∧ encodeRuneZ r = [(b0 : Int)] ∧ ∀ n b1 b2 b3, 1 ≤ n → decodeN n b0 b1 b2 b3 = (r.toNat, 1) ∧ r < 128) ∨
    (∃ b0 b1 : Nat, b0 < 256 ∧ b1 < 256 ∧ encodeRuneZ r = [(b0 : Int), (b1 : Int)] ∧ ∀ n b2 b3, 2 ≤ n → decodeN n b0 b1 b2 b3 = (r.toNat, 2)) ∨
    (∃ b0 b1 b2 : Nat, b0 < 256 ∧ b1 < 256 ∧ b2 < 256 ∧ encodeRuneZ r = [(b0 : Int), (b1 : Int), (b2 : Int)] ∧ ∀ n b3, 3 ≤ n → decodeN n b0 b1 b2 b3 = (r.toNat, 3)) ∨
    (∃ b0 b1 b2 b3 : Nat, b0 < 256 ∧ b1 < 256 ∧ b2 < 256 ∧ b3 < 256 ∧ encodeRuneZ r = [(b0 : Int), (b1 : Int), (b2 : Int), (b3 : Int)] ∧ ∀ n, 4 ≤ n → decodeN n b0 b1 b2 b3 = (r.toNat, 4)) := by
  rw [vld_iff] at hv
  obtain ⟨c, rfl⟩ := Int.eq_ofNat_of_zero_le (show 0 ≤ r by omega)
  rw [Int.toNat_natCast]
  by_cases h1 : c ≤ 127
  · refine .inl ⟨c, by omega, by unfold encodeRuneZ; rw [if_pos (by omega)], fun n b1 b2 b3 hn => ⟨?_, by omega⟩⟩
    unfold decodeN
    rw [if_pos (by omega)]
  · by_cases h2 : c ≤ 2047
    · refine .inr (.inl ⟨192 + c / 64, 128 + c % 64, by omega, by omega, by unfold encodeRuneZ; rw [if_neg (by omega), if_pos (by omega)]; simp only [List.cons.injEq, and_true]; omega, fun n b2 b3 hn => ?_⟩)
      unfold decodeN
      rw [if_neg (by omega), if_pos (by omega), if_pos (by omega)]
      exact Prod.ext (by show _ = c; omega) rfl
    · by_cases h3 : c ≤ 65535
      · refine .inr (.inr (.inl ⟨224 + c / 4096, 128 + c / 64 % 64, 128 + c % 64, by omega, by omega, by omega, by unfold encodeRuneZ; rw [if_neg (by omega), if_neg (by omega), if_pos (by omega)]; simp only [List.cons.injEq, and_true]; omega, fun n b3 hn => ?_⟩))
        unfold decodeN
        rw [if_neg (by omega), if_neg (by omega), if_pos (by omega), if_pos (by omega)]
        exact Prod.ext (by show _ = c; omega) rfl
      · refine .inr (.inr (.inr ⟨240 + c / 262144, 128 + c / 4096 % 64, 128 + c / 64 % 64, 128 + c % 64, by omega, by omega, by omega, by omega, by unfold encodeRuneZ; rw [if_neg (by omega), if_neg (by omega), if_neg (by omega), if_pos (by omega)]; simp only [List.cons.injEq, and_true]; omega, fun n hn => ?_⟩))
        unfold decodeN
        rw [if_neg (by omega), if_neg (by omega), if_neg (by omega), if_pos (by omega), if_pos (by omega)]
        exact Prod.ext (by show _ = c; omega) rfl

theorem toB (b : UInt8) : ((b.toNat : Int)).toNat.toUInt8 = b := ofZ b _ rfl
theorem take1 (l : List UInt8) (h : 1 ≤ l.length) : l.take 1 = [l.getD 0 0] := by
  match l, h with
  | a :: t, _ => rfl
theorem take2 (l : List UInt8) (h : 2 ≤ l.length) : l.take 2 = [l.getD 0 0, l.getD 1 0] := by
  match l, h with
  | a :: b :: t, _ => rfl
theorem take3 (l : List UInt8) (h : 3 ≤ l.length) : l.take 3 = [l.getD 0 0, l.getD 1 0, l.getD 2 0] := by
  match l, h with
  | a :: b :: c :: t, _ => rfl
theorem take4 (l : List UInt8) (h : 4 ≤ l.length) : l.take 4 = [l.getD 0 0, l.getD 1 0, l.getD 2 0, l.getD 3 0] := by
  match l, h with
  | a :: b :: c :: d :: t, _ => rfl
theorem getD_drop (l : List UInt8) (p i : Nat) : (l.drop p).getD i 0 = l.getD (p + i) 0 := by simp [List.getD, List.getElem?_drop]

/-- A rune that is read: its bytes stand there. -/
theorem dec_ok (s : ByteArray) (p c n : Nat) (hp : p < s.size) (hd : Utf8.decode s p = (c, n)) (hb : brk s p = false) :
    p + n ≤ s.size ∧ validRune c = true ∧ (s.data.toList.drop p).take n = encodeRune c := by
  have hsz : s.data.toList.length = s.size := by cases s; simp [ByteArray.size]
  rw [decode_at] at hd
  have hb2 : ¬ (c = 65533 ∧ n < 2) := by
    intro h
    rw [brk, decode_at, hd] at hb
    simp [h.1, h.2] at hb
  obtain ⟨h1, h2, h3⟩ := decN_ok _ _ _ _ _ c n (by omega) (byte_lt _ _) (byte_lt _ _) (byte_lt _ _) (byte_lt _ _) hd hb2
  refine ⟨by omega, h2, ?_⟩
  have hl : (s.data.toList.drop p).length = s.size - p := by rw [List.length_drop, hsz]
  rcases h3 with ⟨rfl, h⟩ | ⟨rfl, h⟩ | ⟨rfl, h⟩ | ⟨rfl, h⟩ <;> unfold encodeRune <;> rw [h] <;> simp only [getD_get!, List.map_cons, List.map_nil, toB]
  · rw [take1 _ (by omega)]; simp only [getD_drop, Nat.add_zero]
  · rw [take2 _ (by omega)]; simp only [getD_drop, Nat.add_zero]
  · rw [take3 _ (by omega)]; simp only [getD_drop, Nat.add_zero]
  · rw [take4 _ (by omega)]; simp only [getD_drop, Nat.add_zero]

theorem natB (b : Nat) (h : b < 256) : ((b : Int).toNat.toUInt8).toNat = b := by
  rw [Int.toNat_natCast]; simp; omega

/-- Where a rune's bytes stand it is read. -/
theorem enc_dec (s : ByteArray) (p : Nat) (r : Int) (t : List UInt8) (hv : validRune r = true) (h : s.data.toList.drop p = encodeRune r ++ t) :
    p < s.size ∧ Utf8.decode s p = (r.toNat, (encodeRune r).length) ∧ brk s p = false := by
  have hsz : s.data.toList.length = s.size := by cases s; simp [ByteArray.size]
  have hl := congrArg List.length h
  rw [List.length_drop, hsz, List.length_append] at hl
  have h1 := (enc_len_one hv).1
  have hp : p < s.size := by omega
  have hd : Utf8.decode s p = (r.toNat, (encodeRune r).length) ∧ (r < 128 ∨ 2 ≤ (encodeRune r).length) := by
    rw [decode_at]
    have hg : ∀ i, s.get! (p + i) = (encodeRune r ++ t).getD i 0 := fun i => by rw [getD_get!, ← h, getD_drop]
    have hg0 := hg 0
    rw [Nat.add_zero] at hg0
    rw [hg0, hg 1, hg 2, hg 3]
    unfold encodeRune at hl ⊢
    rcases encN r hv with ⟨b0, k0, e, f⟩ | ⟨b0, b1, k0, k1, e, f⟩ | ⟨b0, b1, b2, k0, k1, k2, e, f⟩ | ⟨b0, b1, b2, b3, k0, k1, k2, k3, e, f⟩ <;> rw [e] at hl ⊢ <;> simp only [List.map_cons, List.map_nil, List.length_cons, List.length_nil, List.cons_append, List.nil_append] at hl ⊢
    · refine ⟨?_, .inl (f 1 0 0 0 (Nat.le_refl _)).2⟩
      have e0 : ((b0 : Int).toNat.toUInt8 :: t).getD 0 0 = (b0 : Int).toNat.toUInt8 := rfl
      rw [e0, natB _ k0]
      exact (f _ _ _ _ (by omega)).1
    · refine ⟨?_, .inr (by omega)⟩
      have e0 : ((b0 : Int).toNat.toUInt8 :: (b1 : Int).toNat.toUInt8 :: t).getD 0 0 = (b0 : Int).toNat.toUInt8 := rfl
      have e1 : ((b0 : Int).toNat.toUInt8 :: (b1 : Int).toNat.toUInt8 :: t).getD 1 0 = (b1 : Int).toNat.toUInt8 := rfl
      rw [e0, e1, natB _ k0, natB _ k1]
      exact f _ _ _ (by omega)
    · refine ⟨?_, .inr (by omega)⟩
      have e0 : ((b0 : Int).toNat.toUInt8 :: (b1 : Int).toNat.toUInt8 :: (b2 : Int).toNat.toUInt8 :: t).getD 0 0 = (b0 : Int).toNat.toUInt8 := rfl
      have e1 : ((b0 : Int).toNat.toUInt8 :: (b1 : Int).toNat.toUInt8 :: (b2 : Int).toNat.toUInt8 :: t).getD 1 0 = (b1 : Int).toNat.toUInt8 := rfl
      have e2 : ((b0 : Int).toNat.toUInt8 :: (b1 : Int).toNat.toUInt8 :: (b2 : Int).toNat.toUInt8 :: t).getD 2 0 = (b2 : Int).toNat.toUInt8 := rfl
      rw [e0, e1, e2, natB _ k0, natB _ k1, natB _ k2]
      exact f _ _ (by omega)
    · refine ⟨?_, .inr (by omega)⟩
      have e0 : ((b0 : Int).toNat.toUInt8 :: (b1 : Int).toNat.toUInt8 :: (b2 : Int).toNat.toUInt8 :: (b3 : Int).toNat.toUInt8 :: t).getD 0 0 = (b0 : Int).toNat.toUInt8 := rfl
      have e1 : ((b0 : Int).toNat.toUInt8 :: (b1 : Int).toNat.toUInt8 :: (b2 : Int).toNat.toUInt8 :: (b3 : Int).toNat.toUInt8 :: t).getD 1 0 = (b1 : Int).toNat.toUInt8 := rfl
      have e2 : ((b0 : Int).toNat.toUInt8 :: (b1 : Int).toNat.toUInt8 :: (b2 : Int).toNat.toUInt8 :: (b3 : Int).toNat.toUInt8 :: t).getD 2 0 = (b2 : Int).toNat.toUInt8 := rfl
      have e3 : ((b0 : Int).toNat.toUInt8 :: (b1 : Int).toNat.toUInt8 :: (b2 : Int).toNat.toUInt8 :: (b3 : Int).toNat.toUInt8 :: t).getD 3 0 = (b3 : Int).toNat.toUInt8 := rfl
      rw [e0, e1, e2, e3, natB _ k0, natB _ k1, natB _ k2, natB _ k3]
      exact f _ (by omega)
  refine ⟨hp, hd.1, ?_⟩
  rw [brk, hd.1]
  rcases hd.2 with h2 | h2
  · rw [decide_eq_false (show ¬ r.toNat = 65533 by omega)]; rfl
  · rw [decide_eq_false (show ¬ (encodeRune r).length < 2 by omega)]; simp

/-- The runes that are read have the text's bytes. -/
theorem scan_enc (s : ByteArray) : ∀ k p, s.size ≤ p + k → p ≤ s.size → (scan s k p).2 = none → encL (scan s k p).1 = s.data.toList.drop p ∧ (∀ r ∈ (scan s k p).1, validRune r = true)
  | k, p, hk, hp, h => by
    have hsz : s.data.toList.length = s.size := by cases s; simp [ByteArray.size]
    by_cases hlt : p < s.size
    · obtain ⟨k, rfl⟩ : ∃ j, k = j + 1 := ⟨k - 1, by omega⟩
      cases hb : brk s p
      · rw [scan_next s k p hlt hb] at h ⊢
        simp only at h ⊢
        obtain ⟨c, n, hd⟩ : ∃ c n, Utf8.decode s p = (c, n) := ⟨_, _, rfl⟩
        have hw := wid_pos s p
        rw [hd] at h hw ⊢
        obtain ⟨h1, h2, h3⟩ := dec_ok s p c n hlt hd hb
        obtain ⟨h4, h5⟩ := scan_enc s k (p + n) (by simp only at hw; omega) h1 h
        refine ⟨?_, ?_⟩
        · simp only [encL, List.flatMap_cons] at h4 ⊢
          rw [h4, ← h3, ← List.drop_drop, List.take_append_drop]
        · intro r hr
          rcases List.mem_cons.1 hr with rfl | hr
          · exact h2
          · exact h5 r hr
      · rw [scan_brk s k p hlt hb] at h
        simp at h
    · rw [scan_end s k p hlt]
      refine ⟨?_, by simp⟩
      rw [List.drop_of_length_le (by omega)]; rfl
termination_by k => k

/-- The text of runes is read as those. -/
theorem scan_of_enc (s : ByteArray) : ∀ (l : List Int) k p, s.size ≤ p + k → s.data.toList.drop p = encL l → (∀ r ∈ l, validRune r = true) → scan s k p = (l, none)
  | [], k, p, hk, h, hv => by
    have hsz : s.data.toList.length = s.size := by cases s; simp [ByteArray.size]
    have hl := congrArg List.length h
    simp [encL] at hl
    exact scan_end s k p (by have e : s.data.size = s.size := rfl; omega)
  | r :: t, k, p, hk, h, hv => by
    have hr := hv r (List.mem_cons_self ..)
    have h' : s.data.toList.drop p = encodeRune r ++ encL t := by rw [h]; simp [encL]
    obtain ⟨h1, h2, h3⟩ := enc_dec s p r (encL t) hr h'
    obtain ⟨k, rfl⟩ : ∃ j, k = j + 1 := ⟨k - 1, by omega⟩
    have hlen := (enc_len_one hr).1
    rw [scan_next s k p h1 h3, h2]
    have h4 : s.data.toList.drop (p + (encodeRune r).length) = encL t := by
      rw [← List.drop_drop, h', List.drop_left]
    rw [scan_of_enc s t k (p + (encodeRune r).length) (by omega) h4 (fun x hx => hv x (List.mem_cons_of_mem _ hx))]
    have : (r.toNat : Int) = r := by have := (vld_iff r).1 hr; omega
    rw [this]
end Go.Proofs.YtcaojgdnhmgmlaaDoor.Q

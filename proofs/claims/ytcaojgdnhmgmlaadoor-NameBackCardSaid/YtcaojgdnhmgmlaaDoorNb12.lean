import Derived.Test.YtcaojgdnhmgmlaaDoorNb02
import Derived.Shelf.Strings.OnBuilder
import Derived.Shelf.Small.Utf8
import Derived.Shelf.Strings.BuilderK
import Derived.Shelf.Strings.BuilderRune
import Derived.Test.YtcaojgdnhmgmlaaDoorProg
import Derived.Lib.OthersKept
import Derived.Shelf.Unicode.DecodeAny
section
/- What the decoder reads is what the encoder writes, and the other way round. -/
namespace Go.Proofs.YtcaojgdnhmgmlaaDoor.Q
open Go.RowKit Go.Lib
set_option linter.unusedVariables false

theorem vld_iff (r : Int) : validRune r = true ↔ (0 ≤ r ∧ r < 55296) ∨ (57343 < r ∧ r ≤ 1114111) := by simp [validRune]

set_option maxHeartbeats 2000000 in
theorem decN_ok (n b0 b1 b2 b3 c m : Nat) (hn : 1 ≤ n) (h0 : b0 < 256) (h1 : b1 < 256) (h2 : b2 < 256) (h3 : b3 < 256) (hd : decodeN n b0 b1 b2 b3 = (c, m)) (hb : ¬ (c = 65533 ∧ m < 2)) :
    m ≤ n ∧ validRune c = true ∧ ((m = 1 ∧ encodeRuneZ c = [(b0 : Int)]) ∨ (m = 2 ∧ encodeRuneZ c = [(b0 : Int), (b1 : Int)]) ∨ (m = 3 ∧ encodeRuneZ c = [(b0 : Int), (b1 : Int), (b2 : Int)]) ∨ (m = 4 ∧ encodeRuneZ c = [(b0 : Int), (b1 : Int), (b2 : Int), (b3 : Int)])) := by
  rw [vld_iff]
  unfold decodeN at hd
  split at hd
  · obtain ⟨rfl, rfl⟩ := Prod.mk.inj hd
    refine ⟨by omega, by omega, .inl ⟨rfl, ?_⟩⟩
    unfold encodeRuneZ
    rw [if_pos (by omega)]
  split at hd
  · split at hd
    · obtain ⟨rfl, rfl⟩ := Prod.mk.inj hd
      refine ⟨by omega, by omega, .inr (.inl ⟨rfl, ?_⟩)⟩
      unfold encodeRuneZ
      rw [if_neg (by omega), if_pos (by omega)]
      simp only [List.cons.injEq, and_true]
      omega
    · obtain ⟨rfl, rfl⟩ := Prod.mk.inj hd
      exact absurd ⟨rfl, by omega⟩ hb
  split at hd
  · split at hd
    · obtain ⟨rfl, rfl⟩ := Prod.mk.inj hd
      refine ⟨by omega, by omega, .inr (.inr (.inl ⟨rfl, ?_⟩))⟩
      unfold encodeRuneZ
      rw [if_neg (by omega), if_neg (by omega), if_pos (by omega)]
      simp only [List.cons.injEq, and_true]
      omega
    · obtain ⟨rfl, rfl⟩ := Prod.mk.inj hd
      exact absurd ⟨rfl, by omega⟩ hb
  split at hd
  · split at hd
    · obtain ⟨rfl, rfl⟩ := Prod.mk.inj hd
      refine ⟨by omega, by omega, .inr (.inr (.inr ⟨rfl, ?_⟩))⟩
      unfold encodeRuneZ
      rw [if_neg (by omega), if_neg (by omega), if_neg (by omega), if_pos (by omega)]
      simp only [List.cons.injEq, and_true]
      omega
    · obtain ⟨rfl, rfl⟩ := Prod.mk.inj hd
      exact absurd ⟨rfl, by omega⟩ hb
  · obtain ⟨rfl, rfl⟩ := Prod.mk.inj hd
    exact absurd ⟨rfl, by omega⟩ hb

set_option maxHeartbeats 2000000 in
theorem encN (r : Int) (hv : validRune r = true) : (∃ b0 : Nat, b0 < 256 ∧ encodeRuneZ r = [(b0 : Int)] ∧ ∀ n b1 b2 b3, 1 ≤ n → decodeN n b0 b1 b2 b3 = (r.toNat, 1) ∧ r < 128) ∨
    (∃ b0 b1 : Nat, b0 < 256 ∧ b1 < 256 ∧ encodeRuneZ r = [(b0 : Int), (b1 : Int)] ∧ ∀ n b2 b3, 2 ≤ n → decodeN n b0 b1 b2 b3 = (r.toNat, 2)) ∨
    (∃ b0 b1 b2 : Nat, b0 < 256 ∧ b1 < 256 ∧ b2 < 256 ∧ encodeRuneZ r = [(b0 : Int), (b1 : Int), (b2 : Int)] ∧ ∀ n b3, 3 ≤ n → decodeN n b0 b1 b2 b3 = (r.toNat, 3)) ∨
    (∃ b0 b1 b2 b3 : Nat, b0 < 256 ∧ b1 < 256 ∧ b2 < 256 ∧ b3 < 256 ∧ encodeRuneZ r = [(b0 : Int), (b1 : Int), (b2 : Int), (b3 : Int)] ∧ ∀ n, 4 ≤ n → decodeN n b0 b1 b2 b3 = (r.toNat, 4)) := by
  rw [vld_iff] at hv
  obtain ⟨c, rfl⟩ := Int.eq_ofNat_of_zero_le (show 0 ≤ r by omega)
  rw [Int.toNat_natCast]
  by_cases h1 : c ≤ 127
  · refine .inl ⟨c, by omega, by unfold encodeRuneZ; rw [if_pos (by omega)], fun n b1 b2 b3 hn => ⟨?_, by omega⟩⟩
    unfold decodeN
    rw [if_pos (by omega)]
  · by_cases h2 : c ≤ 2047
    · refine .inr (.inl ⟨192 + c / 64, 128 + c % 64, by omega, by omega, by unfold encodeRuneZ; rw [if_neg (by omega), if_pos (by omega)]; simp only [List.cons.injEq, and_true]; omega, fun n b2 b3 hn => ?_⟩)
      unfold decodeN
      rw [if_neg (by omega), if_pos (by omega), if_pos (by omega)]
      exact Prod.ext (by show _ = c; omega) rfl
    · by_cases h3 : c ≤ 65535
      · refine .inr (.inr (.inl ⟨224 + c / 4096, 128 + c / 64 % 64, 128 + c % 64, by omega, by omega, by omega, by unfold encodeRuneZ; rw [if_neg (by omega), if_neg (by omega), if_pos (by omega)]; simp only [List.cons.injEq, and_true]; omega, fun n b3 hn => ?_⟩))
        unfold decodeN
        rw [if_neg (by omega), if_neg (by omega), if_pos (by omega), if_pos (by omega)]
        exact Prod.ext (by show _ = c; omega) rfl
      · refine .inr (.inr (.inr ⟨240 + c / 262144, 128 + c / 4096 % 64, 128 + c / 64 % 64, 128 + c % 64, by omega, by omega, by omega, by omega, by unfold encodeRuneZ; rw [if_neg (by omega), if_neg (by omega), if_neg (by omega), if_pos (by omega)]; simp only [List.cons.injEq, and_true]; omega, fun n hn => ?_⟩))
        unfold decodeN
        rw [if_neg (by omega), if_neg (by omega), if_neg (by omega), if_pos (by omega), if_pos (by omega)]
        exact Prod.ext (by show _ = c; omega) rfl

theorem toB (b : UInt8) : ((b.toNat : Int)).toNat.toUInt8 = b := ofZ b _ rfl
theorem take1 (l : List UInt8) (h : 1 ≤ l.length) : l.take 1 = [l.getD 0 0] := by
  match l, h with
  | a :: t, _ => rfl
theorem take2 (l : List UInt8) (h : 2 ≤ l.length) : l.take 2 = [l.getD 0 0, l.getD 1 0] := by
  match l, h with
  | a :: b :: t, _ => rfl
theorem take3 (l : List UInt8) (h : 3 ≤ l.length) : l.take 3 = [l.getD 0 0, l.getD 1 0, l.getD 2 0] := by
  match l, h with
  | a :: b :: c :: t, _ => rfl
theorem take4 (l : List UInt8) (h : 4 ≤ l.length) : l.take 4 = [l.getD 0 0, l.getD 1 0, l.getD 2 0, l.getD 3 0] := by
  match l, h with
  | a :: b :: c :: d :: t, _ => rfl
theorem getD_drop (l : List UInt8) (p i : Nat) : (l.drop p).getD i 0 = l.getD (p + i) 0 := by simp [List.getD, List.getElem?_drop]

/-- A rune that is read: its bytes stand there. -/
theorem dec_ok (s : ByteArray) (p c n : Nat) (hp : p < s.size) (hd : Utf8.decode s p = (c, n)) (hb : brk s p = false) :
    p + n ≤ s.size ∧ validRune c = true ∧ (s.data.toList.drop p).take n = encodeRune c := by
  have hsz : s.data.toList.length = s.size := by cases s; simp [ByteArray.size]
  rw [decode_at] at hd
  have hb2 : ¬ (c = 65533 ∧ n < 2) := by
    intro h
    rw [brk, decode_at, hd] at hb
    simp [h.1, h.2] at hb
  obtain ⟨h1, h2, h3⟩ := decN_ok _ _ _ _ _ c n (by omega) (byte_lt _ _) (byte_lt _ _) (byte_lt _ _) (byte_lt _ _) hd hb2
  refine ⟨by omega, h2, ?_⟩
  have hl : (s.data.toList.drop p).length = s.size - p := by rw [List.length_drop, hsz]
  rcases h3 with ⟨rfl, h⟩ | ⟨rfl, h⟩ | ⟨rfl, h⟩ | ⟨rfl, h⟩ <;> unfold encodeRune <;> rw [h] <;> simp only [getD_get!, List.map_cons, List.map_nil, toB]
  · rw [take1 _ (by omega)]; simp only [getD_drop, Nat.add_zero]
  · rw [take2 _ (by omega)]; simp only [getD_drop, Nat.add_zero]
  · rw [take3 _ (by omega)]; simp only [getD_drop, Nat.add_zero]
  · rw [take4 _ (by omega)]; simp only [getD_drop, Nat.add_zero]

theorem natB (b : Nat) (h : b < 256) : ((b : Int).toNat.toUInt8).toNat = b := by
  rw [Int.toNat_natCast]; simp; omega

/-- Where a rune's bytes stand it is read. -/
theorem enc_dec (s : ByteArray) (p : Nat) (r : Int) (t : List UInt8) (hv : validRune r = true) (h : s.data.toList.drop p = encodeRune r ++ t) :
    p < s.size ∧ Utf8.decode s p = (r.toNat, (encodeRune r).length) ∧ brk s p = false := by
  have hsz : s.data.toList.length = s.size := by cases s; simp [ByteArray.size]
  have hl := congrArg List.length h
  rw [List.length_drop, hsz, List.length_append] at hl
  have h1 := (enc_len_one hv).1
  have hp : p < s.size := by omega
  have hd : Utf8.decode s p = (r.toNat, (encodeRune r).length) ∧ (r < 128 ∨ 2 ≤ (encodeRune r).length) := by
    rw [decode_at]
    have hg : ∀ i, s.get! (p + i) = (encodeRune r ++ t).getD i 0 := fun i => by rw [getD_get!, ← h, getD_drop]
    have hg0 := hg 0
    rw [Nat.add_zero] at hg0
    rw [hg0, hg 1, hg 2, hg 3]
    unfold encodeRune at hl ⊢
    rcases encN r hv with ⟨b0, k0, e, f⟩ | ⟨b0, b1, k0, k1, e, f⟩ | ⟨b0, b1, b2, k0, k1, k2, e, f⟩ | ⟨b0, b1, b2, b3, k0, k1, k2, k3, e, f⟩ <;> rw [e] at hl ⊢ <;> simp only [List.map_cons, List.map_nil, List.length_cons, List.length_nil, List.cons_append, List.nil_append] at hl ⊢
    · refine ⟨?_, .inl (f 1 0 0 0 (Nat.le_refl _)).2⟩
      have e0 : ((b0 : Int).toNat.toUInt8 :: t).getD 0 0 = (b0 : Int).toNat.toUInt8 := rfl
      rw [e0, natB _ k0]
      exact (f _ _ _ _ (by omega)).1
    · refine ⟨?_, .inr (by omega)⟩
      have e0 : ((b0 : Int).toNat.toUInt8 :: (b1 : Int).toNat.toUInt8 :: t).getD 0 0 = (b0 : Int).toNat.toUInt8 := rfl
      have e1 : ((b0 : Int).toNat.toUInt8 :: (b1 : Int).toNat.toUInt8 :: t).getD 1 0 = (b1 : Int).toNat.toUInt8 := rfl
      rw [e0, e1, natB _ k0, natB _ k1]
      exact f _ _ _ (by omega)
    · refine ⟨?_, .inr (by omega)⟩
      have e0 : ((b0 : Int).toNat.toUInt8 :: (b1 : Int).toNat.toUInt8 :: (b2 : Int).toNat.toUInt8 :: t).getD 0 0 = (b0 : Int).toNat.toUInt8 := rfl
      have e1 : ((b0 : Int).toNat.toUInt8 :: (b1 : Int).toNat.toUInt8 :: (b2 : Int).toNat.toUInt8 :: t).getD 1 0 = (b1 : Int).toNat.toUInt8 := rfl
      have e2 : ((b0 : Int).toNat.toUInt8 :: (b1 : Int).toNat.toUInt8 :: (b2 : Int).toNat.toUInt8 :: t).getD 2 0 = (b2 : Int).toNat.toUInt8 := rfl
      rw [e0, e1, e2, natB _ k0, natB _ k1, natB _ k2]
      exact f _ _ (by omega)
    · refine ⟨?_, .inr (by omega)⟩
      have e0 : ((b0 : Int).toNat.toUInt8 :: (b1 : Int).toNat.toUInt8 :: (b2 : Int).toNat.toUInt8 :: (b3 : Int).toNat.toUInt8 :: t).getD 0 0 = (b0 : Int).toNat.toUInt8 := rfl
      have e1 : ((b0 : Int).toNat.toUInt8 :: (b1 : Int).toNat.toUInt8 :: (b2 : Int).toNat.toUInt8 :: (b3 : Int).toNat.toUInt8 :: t).getD 1 0 = (b1 : Int).toNat.toUInt8 := rfl
      have e2 : ((b0 : Int).toNat.toUInt8 :: (b1 : Int).toNat.toUInt8 :: (b2 : Int).toNat.toUInt8 :: (b3 : Int).toNat.toUInt8 :: t).getD 2 0 = (b2 : Int).toNat.toUInt8 := rfl
      have e3 : ((b0 : Int).toNat.toUInt8 :: (b1 : Int).toNat.toUInt8 :: (b2 : Int).toNat.toUInt8 :: (b3 : Int).toNat.toUInt8 :: t).getD 3 0 = (b3 : Int).toNat.toUInt8 := rfl
      rw [e0, e1, e2, e3, natB _ k0, natB _ k1, natB _ k2, natB _ k3]
      exact f _ (by omega)
  refine ⟨hp, hd.1, ?_⟩
  rw [brk, hd.1]
  rcases hd.2 with h2 | h2
  · rw [decide_eq_false (show ¬ r.toNat = 65533 by omega)]; rfl
  · rw [decide_eq_false (show ¬ (encodeRune r).length < 2 by omega)]; simp

/-- The runes that are read have the text's bytes. -/
theorem scan_enc (s : ByteArray) : ∀ k p, s.size ≤ p + k → p ≤ s.size → (scan s k p).2 = none → encL (scan s k p).1 = s.data.toList.drop p ∧ (∀ r ∈ (scan s k p).1, validRune r = true)
  | k, p, hk, hp, h => by
    have hsz : s.data.toList.length = s.size := by cases s; simp [ByteArray.size]
    by_cases hlt : p < s.size
    · obtain ⟨k, rfl⟩ : ∃ j, k = j + 1 := ⟨k - 1, by omega⟩
      cases hb : brk s p
      · rw [scan_next s k p hlt hb] at h ⊢
        simp only at h ⊢
        obtain ⟨c, n, hd⟩ : ∃ c n, Utf8.decode s p = (c, n) := ⟨_, _, rfl⟩
        have hw := wid_pos s p
        rw [hd] at h hw ⊢
        obtain ⟨h1, h2, h3⟩ := dec_ok s p c n hlt hd hb
        obtain ⟨h4, h5⟩ := scan_enc s k (p + n) (by simp only at hw; omega) h1 h
        refine ⟨?_, ?_⟩
        · simp only [encL, List.flatMap_cons] at h4 ⊢
          rw [h4, ← h3, ← List.drop_drop, List.take_append_drop]
        · intro r hr
          rcases List.mem_cons.1 hr with rfl | hr
          · exact h2
          · exact h5 r hr
      · rw [scan_brk s k p hlt hb] at h
        simp at h
    · rw [scan_end s k p hlt]
      refine ⟨?_, by simp⟩
      rw [List.drop_of_length_le (by omega)]; rfl
termination_by k => k

/-- The text of runes is read as those. -/
theorem scan_of_enc (s : ByteArray) : ∀ (l : List Int) k p, s.size ≤ p + k → s.data.toList.drop p = encL l → (∀ r ∈ l, validRune r = true) → scan s k p = (l, none)
  | [], k, p, hk, h, hv => by
    have hsz : s.data.toList.length = s.size := by cases s; simp [ByteArray.size]
    have hl := congrArg List.length h
    simp [encL] at hl
    exact scan_end s k p (by have e : s.data.size = s.size := rfl; omega)
  | r :: t, k, p, hk, h, hv => by
    have hr := hv r (List.mem_cons_self ..)
    have h' : s.data.toList.drop p = encodeRune r ++ encL t := by rw [h]; simp [encL]
    obtain ⟨h1, h2, h3⟩ := enc_dec s p r (encL t) hr h'
    obtain ⟨k, rfl⟩ : ∃ j, k = j + 1 := ⟨k - 1, by omega⟩
    have hlen := (enc_len_one hr).1
    rw [scan_next s k p h1 h3, h2]
    have h4 : s.data.toList.drop (p + (encodeRune r).length) = encL t := by
      rw [← List.drop_drop, h', List.drop_left]
    rw [scan_of_enc s t k (p + (encodeRune r).length) (by omega) h4 (fun x hx => hv x (List.mem_cons_of_mem _ hx))]
    have : (r.toNat : Int) = r := by have := (vld_iff r).1 hr; omega
    rw [this]
end Go.Proofs.YtcaojgdnhmgmlaaDoor.Q
end
section
/-
  DERIVED: THE SHELF's CONTRACTS AT THIS DUMP, IN PLAIN WORDS (tools/lay-plain.mjs out of 'YtcaojgdnhmgmlaaDoorShRune.lean', which tools/lay-shelf.mjs wrote): THE SAME DECLARATIONS UNDER THE SAME NAMES: 'import', 'namespace', 'open', 'def', 'theorem' AND NOTHING ELSE: no command of the shelf's: FOR A HAND-IN. Each laying: the table of numbers ('.._ren') and one theorem, a field a fact of the dump's own or the kernel's comparison; each contract: ONE APPLICATION.
-/
namespace Go.Proofs
open Go.Shelf
def Tryd.lays169_ren : Go.Shelf.Ren := ⟨fun | 169 => 68 | n => n, fun | 70 => 83 | 9 => 9 | 0 => 0 | 72 => 85 | 37 => 52 | 127 => 115 | 3 => 3 | 5 => 5 | n => n, fun | n => n⟩
theorem Tryd.lays169 : Go.Proofs.Lays.n169 Tryd.prog Tryd.lays169_ren := {
  mixed := by kernel_rfl
  f169 := Tryd.func68.trans (congrArg some (by kernel_rfl))
  t0 := Tryd.underlying0
  a0 := Tryd.isAgg0
  z0 := Tryd.sizeOf0
  v0 := Tryd.zeroValue0
  t3 := Tryd.underlying3
  a3 := Tryd.isAgg3
  z3 := Tryd.sizeOf3
  v3 := Tryd.zeroValue3
  t9 := Tryd.underlying9
  a9 := Tryd.isAgg9
  z9 := Tryd.sizeOf9
  v9 := Tryd.zeroValue9
  t37 := Tryd.underlying52
  a37 := Tryd.isAgg52
  z37 := Tryd.sizeOf52
  v37 := Tryd.zeroValue52
  t70 := Tryd.underlying83
  a70 := Tryd.isAgg83
  z70 := Tryd.sizeOf83
  v70 := Tryd.zeroValue83
  t72 := Tryd.underlying85
  a72 := Tryd.isAgg85
  z72 := Tryd.sizeOf85
  v72 := Tryd.zeroValue85
  t127 := Tryd.underlying115
  a127 := Tryd.isAgg115
  z127 := Tryd.sizeOf115
  v127 := Tryd.zeroValue115 }
theorem Tryd.Builder_Extra_169 : Builder.Extra Tryd.prog Tryd.lays169_ren := {
  sizeBuilder := by kernel_rfl
  liesBuilder := by kernel_rfl
  t5 := Tryd.underlying5
  a5 := Tryd.isAgg5
  z5 := Tryd.sizeOf5
  v5 := Tryd.zeroValue5
  infoByte := by kernel_rfl
  cellsByte := by kernel_rfl
  sizeByte := by kernel_rfl
  neB5 := by decide }
def Tryd.lays119_ren : Go.Shelf.Ren := ⟨fun | 119 => 66 | n => n, fun | 21 => 21 | 4 => 4 | n => n, fun | n => n⟩
theorem Tryd.lays119 : Go.Proofs.Lays.n119 Tryd.prog Tryd.lays119_ren := {
  mixed := by kernel_rfl
  f119 := Tryd.func66.trans (congrArg some (by kernel_rfl))
  t4 := Tryd.underlying4
  a4 := Tryd.isAgg4
  z4 := Tryd.sizeOf4
  v4 := Tryd.zeroValue4
  t21 := Tryd.underlying21
  a21 := Tryd.isAgg21
  z21 := Tryd.sizeOf21
  v21 := Tryd.zeroValue21 }
/-- utf8.ValidRune: "ValidRune reports whether r can be legally encoded as UTF-8. Code points that are out of range or a surrogate half are illegal.": IT RETURNS 'Lib.validRune r'; the world is as it was. (LAID: no walk: one application.) -/
theorem Tryd.utf8_ValidRune (r : Int) (w : World) :
    Calls Tryd.prog 66 #[.int .i32 r] w fun e w' => e = .returned (.bool (Lib.validRune r)) ∧ w' = w := Any.utf8_ValidRune Tryd.lays119 r w
open Go.RowKit in
/-- (*strings.Builder).String: "String returns the accumulated string.": WHATEVER THE BUILDER HOLDS; THE FORM '_k': OVER 'Lib.IsBuilderF' (a builder that 'String()' may have read), AND WITH THE FRAME THAT REACHES ABOVE THE BUILDER: 'Lib.OthersKept': every block that is not b and is no row of uint8's stands as it stood: the iterator of a range among them. (LAID: no walk: one application.) -/
theorem Tryd.Builder_String_any_k (B b : Nat) (l : List UInt8) (w : World) (h : Lib.IsBuilderF 85 5 B b (Lib.byteCells l) w) (hBw : B ≤ w.heap.size) :
    Calls Tryd.prog 68 #[.pointer (some ⟨b, 0, none⟩)] w fun e w' => e = .returned (.string ⟨l.toArray⟩) ∧ (Lib.IsBuilderF 85 5 B b (Lib.byteCells l) w' ∧ Below B w w' ∧ Lib.OthersKept 5 (some b) w w') := Any.Builder_String_any_k Tryd.lays169 Tryd.Builder_Extra_169 B b l w h hBw
def Tryd.lays168_ren : Go.Shelf.Ren := ⟨fun | 168 => 67 | 240 => 104 | 242 => 105 | 276 => 121 | 278 => 122 | n => n, fun | 37 => 52 | 46 => 94 | 51 => 146 | 70 => 83 | 72 => 85 | 75 => 87 | 164 => 144 | 80 => 90 | n => n, fun | n => n⟩
theorem Tryd.lays168 : Go.Proofs.Lays.n168 Tryd.prog Tryd.lays168_ren := {
  mixed := by kernel_rfl
  f168 := Tryd.func67.trans (congrArg some (by kernel_rfl))
  f240 := Tryd.func104.trans (congrArg some (by kernel_rfl))
  f242 := Tryd.func105.trans (congrArg some (by kernel_rfl))
  f276 := Tryd.func121.trans (congrArg some (by kernel_rfl))
  f278 := Tryd.func122.trans (congrArg some (by kernel_rfl))
  t0 := Tryd.underlying0
  a0 := Tryd.isAgg0
  z0 := Tryd.sizeOf0
  v0 := Tryd.zeroValue0
  t3 := Tryd.underlying3
  a3 := Tryd.isAgg3
  z3 := Tryd.sizeOf3
  v3 := Tryd.zeroValue3
  t4 := Tryd.underlying4
  a4 := Tryd.isAgg4
  z4 := Tryd.sizeOf4
  v4 := Tryd.zeroValue4
  t5 := Tryd.underlying5
  a5 := Tryd.isAgg5
  z5 := Tryd.sizeOf5
  v5 := Tryd.zeroValue5
  t9 := Tryd.underlying9
  a9 := Tryd.isAgg9
  z9 := Tryd.sizeOf9
  v9 := Tryd.zeroValue9
  t20 := Tryd.underlying20
  a20 := Tryd.isAgg20
  z20 := Tryd.sizeOf20
  v20 := Tryd.zeroValue20
  t21 := Tryd.underlying21
  a21 := Tryd.isAgg21
  z21 := Tryd.sizeOf21
  v21 := Tryd.zeroValue21
  t37 := Tryd.underlying52
  a37 := Tryd.isAgg52
  z37 := Tryd.sizeOf52
  v37 := Tryd.zeroValue52
  t46 := Tryd.underlying94
  a46 := Tryd.isAgg94
  z46 := Tryd.sizeOf94
  v46 := Tryd.zeroValue94
  t51 := Tryd.underlying146
  a51 := Tryd.isAgg146
  z51 := Tryd.sizeOf146
  v51 := Tryd.zeroValue146
  t70 := Tryd.underlying83
  a70 := Tryd.isAgg83
  z70 := Tryd.sizeOf83
  v70 := Tryd.zeroValue83
  t72 := Tryd.underlying85
  a72 := Tryd.isAgg85
  z72 := Tryd.sizeOf85
  v72 := Tryd.zeroValue85
  t75 := Tryd.underlying87
  a75 := Tryd.isAgg87
  z75 := Tryd.sizeOf87
  v75 := Tryd.zeroValue87
  t164 := Tryd.underlying144
  a164 := Tryd.isAgg144
  z164 := Tryd.sizeOf144
  v164 := Tryd.zeroValue144 }
theorem Tryd.Builder_Extra_168 : Builder.Extra Tryd.prog Tryd.lays168_ren := {
  sizeBuilder := by kernel_rfl
  liesBuilder := by kernel_rfl
  t5 := Tryd.underlying5
  a5 := Tryd.isAgg5
  z5 := Tryd.sizeOf5
  v5 := Tryd.zeroValue5
  infoByte := by kernel_rfl
  cellsByte := by kernel_rfl
  sizeByte := by kernel_rfl
  neB5 := by decide }
open Go.RowKit in
theorem Tryd.Builder_WriteRune_k (B b : Nat) (bs : List Value) (r : Int) (hr0 : -2147483648 ≤ r) (hr1 : r ≤ 2147483647) (w : World) (h : Lib.IsBuilderF 85 5 B b bs w) (hlen : bs.length + 4 ≤ 140737488355328) (hBw : B ≤ w.heap.size) :
    Calls Tryd.prog 67 #[.pointer (some ⟨b, 0, none⟩), .int .i32 r] w fun e w' => e = .returned (.tuple #[.int .i64 (Lib.runeCells r).length, .nilIface]) ∧ (Lib.BuilderAtF 85 5 B b (.pointer (some ⟨b, 0, none⟩)) (bs ++ Lib.runeCells r) w' ∧ Below B w w' ∧ Lib.OthersKept 5 (some b) w w') := Any.Builder_WriteRune_k Tryd.lays168 Tryd.Builder_Extra_168 B b bs r hr0 hr1 w h hlen hBw
end Go.Proofs
end
section
/- utf.Text, by hand: the text of runes, or which of them is none. -/
namespace Go.Proofs.YtcaojgdnhmgmlaaDoor.Q
open Go.RowKit Go.Sort Go.Proofs.YtcaojgdnhmgmlaaDoorW.PrintWords Go.Proofs.YtcaojgdnhmgmlaaDoorW.PrintLast Go.Proofs.YtcaojgdnhmgmlaaDoorW.PrintMore
set_option linter.unusedVariables false

def badAt : List Int → Nat → Option Nat
  | [], _ => none
  | r :: t, i => if Lib.validRune r = true then badAt t (i + 1) else some i
def textR (l : List Int) (o : Option Nat) : ByteArray × Int × Int := match o with
  | none => (⟨(encL l).toArray⟩, 0, 0)
  | some i => (⟨#[]⟩, (i : Int), 4)
def utf_Text.f (l0 : List Int) : Option (ByteArray × Int × Int) := if l0.length < 1000000 then some (textR l0 (badAt l0 0)) else none

theorem drop_rd (l : List Int) (k : Nat) (h : k < l.length) : l.drop k = rd l k :: l.drop (k + 1) := by
  rw [List.drop_eq_getElem_cons h]
  simp [rd, List.getD, h]
theorem take_rd (l : List Int) (k : Nat) (h : k < l.length) : l.take (k + 1) = l.take k ++ [rd l k] := by
  rw [List.take_succ_eq_append_getElem h]
  simp [rd, List.getD, h]
theorem encL_append (a b : List Int) : encL (a ++ b) = encL a ++ encL b := by simp [encL]
theorem encL_len : ∀ l : List Int, (encL l).length ≤ 4 * l.length
  | [] => by simp [encL]
  | r :: t => by
    have h := encL_len t
    have h2 := Lib.runeCells_le r
    rw [Lib.runeCells_length] at h2
    simp only [encL, List.flatMap_cons, List.length_append, List.length_cons] at h ⊢
    omega

set_option maxHeartbeats 4000000 in
set_option maxRecDepth 100000 in
theorem utf_Text.calls (A0 : Option Addr) (c0 : Nat) (l0 : List Int) (r1 : ByteArray) (r2 : Int) (r3 : Int) (w : World) (hr0 : Kd.C (Kd.int .i32) w A0 l0.length l0) (hc0 : l0.length ≤ c0) (h : utf_Text.f l0 = some (r1, r2, r3)) :
    Calls Tryd.prog 23 #[.slice A0 l0.length c0] w fun e w' => e = .returned (.tuple #[.string r1, .int .i64 r2, .int .i64 r3]) ∧ Below w.heap.size w w' := by
  unfold utf_Text.f at h
  split at h
  case isFalse => cases h
  rename_i hs
  have h := Option.some.inj h
  have HH := Aside0.mk h
  have HS := Aside0.mk hs
  have HR := Aside0.mk hr0
  have HC := Aside0.mk hc0
  clear h hs hr0 hc0
  go_enter Tryd.func23, Tryd.ntmps23
  go_wp2_with fail
  go_loopw [10] (fun v wr => ∃ k : Nat, v = .int .i64 (k : Int) ∧ k ≤ l0.length ∧ Aside0 (Lib.IsBuilderF 85 5 w.heap.size w.heap.size (Lib.byteCells (encL (l0.take k))) wr) ∧ Aside0 (badAt l0 0 = badAt (l0.drop k) k) ∧ Aside0 (Below w.heap.size w wr)) (fun v _ => ((l0.length : Int) - intOf v).toNat)
  case atStart => exact ⟨0, rfl, Nat.zero_le _, ⟨Lib.IsBuilderF.of (Lib.fresh_isBuilder 85 5 w)⟩, ⟨rfl⟩, ⟨below_alloc (Below.refl _ _) _⟩⟩
  case round =>
    clear h
    obtain ⟨k, rfl, hk, HI, HA, HB⟩ := hrel
    by_cases hlt : k < l0.length
    · have e1 : decide ((k : Int) < l0.length) = true := decide_eq_true (by omega)
      have p1 : (0 : Int) ≤ k := by omega
      have q1 : (k : Int) < l0.length := by omega
      obtain ⟨ad1, ea1, hx1⟩ := Kd.at_int (Kd.C_below HR.out HB.out) (k : Int) p1 q1
      cases ea1
      rw [Int.toNat_natCast] at hx1
      replace p1 := eq_true p1
      replace q1 := eq_true q1
      have HQ := Aside0.mk (drop_rd l0 k hlt)
      have HT := Aside0.mk (take_rd l0 k hlt)
      cases hv : Lib.validRune (rd l0 k)
      · go_wp2_with fail
        refine (Tryd.utf8_ValidRune _ wr).mono ?_
        rw [hv]
        rintro e w2 ⟨rfl, rfl⟩
        go_wp2_with fail
        go_ret3
        have h1 := HH.out
        rw [HA.out, HQ.out, badAt, if_neg (by rw [hv]; simp)] at h1
        simp only [textR, Prod.mk.injEq] at h1
        obtain ⟨rfl, rfl, rfl⟩ := h1
        exact ⟨rfl, HB.out⟩
      · go_wp2_with fail
        refine (Tryd.utf8_ValidRune _ wr).mono ?_
        rw [hv]
        rintro e w2 ⟨rfl, rfl⟩
        have HV := Aside0.mk (show 0 ≤ rd l0 k ∧ rd l0 k ≤ 1114111 by simp [Lib.validRune] at hv; omega)
        go_wp2_with fail
        refine (Tryd.Builder_WriteRune_k w.heap.size w.heap.size _ (rd l0 k) (by have := HV.out; omega) (by have := HV.out; omega) w2 HI.out (by rw [Lib.byteCells_length]; have h1 := encL_len (l0.take k); have h2 := HS.out; rw [List.length_take] at h1; omega) HB.out.size).mono ?_
        rintro e w3 ⟨rfl, h1, b1, k1⟩
        have HI2 := Aside0.mk h1
        have HB2 := Aside0.mk (HB.out.trans b1)
        clear h1 b1 k1
        go_wp2_with fail
        have hw64 : wrap64 ((k : Int) + 1) = k + 1 := by have := HS.out; unfold wrap64; omega
        go_roundw
        case rel => exact ⟨k + 1, by rw [hw64]; rfl, by omega, ⟨by rw [HT.out, encL_append, Lib.byteCells_append]; exact Or.inr (by simpa [encL, Lib.byteCells_encodeRune] using HI2.out)⟩, ⟨by rw [HA.out, HQ.out, badAt, if_pos hv]⟩, HB2⟩
        case measure => rw [hw64]; simp [intOf]; omega
    · obtain rfl : k = l0.length := by omega
      have e1 : decide ((l0.length : Int) < l0.length) = false := decide_eq_false (by omega)
      go_wp2_with fail
      refine (Tryd.Builder_String_any_k w.heap.size w.heap.size _ wr HI.out HB.out.size).mono ?_
      rintro e w2 ⟨rfl, _, b1, _⟩
      go_wp2_with fail
      go_ret3
      have h1 := HH.out
      rw [HA.out, List.drop_length] at h1
      simp only [badAt, textR, Prod.mk.injEq] at h1
      obtain ⟨rfl, rfl, rfl⟩ := h1
      exact ⟨rfl, HB.out.trans b1⟩
end Go.Proofs.YtcaojgdnhmgmlaaDoor.Q
end
section
/-
  DERIVED: THE SHELF's CONTRACTS AT THIS DUMP, IN PLAIN WORDS (tools/lay-plain.mjs out of 'YtcaojgdnhmgmlaaDoorShDec.lean', which tools/lay-shelf.mjs wrote): THE SAME DECLARATIONS UNDER THE SAME NAMES: 'import', 'namespace', 'open', 'def', 'theorem' AND NOTHING ELSE: no command of the shelf's: FOR A HAND-IN. Each laying: the table of numbers ('.._ren') and one theorem, a field a fact of the dump's own or the kernel's comparison; each contract: ONE APPLICATION.
-/
namespace Go.Proofs
open Go.Shelf
def Tryd.lays197_ren : Go.Shelf.Ren := ⟨fun | 197 => 64 | 260 => 103 | n => n, fun | 9 => 9 | 21 => 21 | 3 => 3 | 4 => 4 | 5 => 5 | 105 => 81 | 119 => 117 | 0 => 0 | 46 => 94 | 139 => 120 | 138 => 119 | n => n, fun | 3 => 0 | 4 => 1 | n => n⟩
theorem Tryd.lays197 : Go.Proofs.Lays.n197 Tryd.prog Tryd.lays197_ren := {
  mixed := by kernel_rfl
  f197 := Tryd.func64.trans (congrArg some (by kernel_rfl))
  f260 := Tryd.func103.trans (congrArg some (by kernel_rfl))
  t0 := Tryd.underlying0
  a0 := Tryd.isAgg0
  z0 := Tryd.sizeOf0
  v0 := Tryd.zeroValue0
  t3 := Tryd.underlying3
  a3 := Tryd.isAgg3
  z3 := Tryd.sizeOf3
  v3 := Tryd.zeroValue3
  t4 := Tryd.underlying4
  a4 := Tryd.isAgg4
  z4 := Tryd.sizeOf4
  v4 := Tryd.zeroValue4
  t5 := Tryd.underlying5
  a5 := Tryd.isAgg5
  z5 := Tryd.sizeOf5
  v5 := Tryd.zeroValue5
  t9 := Tryd.underlying9
  a9 := Tryd.isAgg9
  z9 := Tryd.sizeOf9
  v9 := Tryd.zeroValue9
  t21 := Tryd.underlying21
  a21 := Tryd.isAgg21
  z21 := Tryd.sizeOf21
  v21 := Tryd.zeroValue21
  t46 := Tryd.underlying94
  a46 := Tryd.isAgg94
  z46 := Tryd.sizeOf94
  v46 := Tryd.zeroValue94
  t105 := Tryd.underlying81
  a105 := Tryd.isAgg81
  z105 := Tryd.sizeOf81
  v105 := Tryd.zeroValue81
  t119 := Tryd.underlying117
  a119 := Tryd.isAgg117
  z119 := Tryd.sizeOf117
  t138 := Tryd.underlying119
  a138 := Tryd.isAgg119
  z138 := Tryd.sizeOf119
  v138 := Tryd.zeroValue119
  t139 := Tryd.underlying120
  a139 := Tryd.isAgg120
  z139 := Tryd.sizeOf120
  v139 := Tryd.zeroValue120
  g3 := by kernel_rfl
  g4 := by kernel_rfl }
open Go.RowKit Go.Lib in
/-- **unicode/utf8.DecodeRuneInString AT EVERY STRING.** (LAID: no walk: one application.) -/
theorem Tryd.utf8_DecodeRuneInString (s : ByteArray) (w : World) (hT : Lib.Utf8Tabs 0 1 w) :
    Calls Tryd.prog 64 #[.string s] w fun e w' => e = .returned (.tuple #[.int .i32 (Lib.decodeGo s).1, .int .i64 (Lib.decodeGo s).2]) ∧ Below w.heap.size w w' := Any.utf8_DecodeRuneInString Tryd.lays197 s w hT
end Go.Proofs
end

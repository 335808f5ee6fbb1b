/- The runes of a text and the text of runes, in plain Lean over the model's own decoder. -/
import Derived.Test.YtcaojgdnhmgmlaaDoorHLaid
import Derived.Lib.RuneBytes
import Derived.Lib.ValidU
import Derived.Lib.Small
import Derived.Lib.DecodeNEq
import Derived.Shelf.Unicode.DecodeAny
namespace Go.Proofs.YtcaojgdnhmgmlaaDoor.Q
open Go.RowKit Go.Lib
set_option linter.unusedVariables false

/-- No rune begins at place p. -/
def brk (s : ByteArray) (p : Nat) : Bool := decide ((Utf8.decode s p).1 = 65533) && decide ((Utf8.decode s p).2 < 2)
/-- The runes from place p on, and where they stop for want of one. -/
def scan (s : ByteArray) : Nat → Nat → List Int × Option Nat
  | 0, _ => ([], none)
  | k + 1, p => if p < s.size then (if brk s p = true then ([], some p) else (((Utf8.decode s p).1 : Int) :: (scan s k (p + (Utf8.decode s p).2)).1, (scan s k (p + (Utf8.decode s p).2)).2)) else ([], none)
def runesOf (s : ByteArray) : List Int × Option Nat := scan s s.size 0
def encL (l : List Int) : List UInt8 := l.flatMap Lib.encodeRune
def upr (r : Int) : Bool := decide (65 ≤ r ∧ r ≤ 90) || (decide (192 ≤ r ∧ r ≤ 222) && decide (r ≠ 215))
def sml (r : Int) : Int := if upr r then r + 32 else r

theorem wid_pos (s : ByteArray) (p : Nat) : 1 ≤ (Utf8.decode s p).2 := width_pos s p
theorem scan_end (s : ByteArray) (k p : Nat) (h : ¬ p < s.size) : scan s k p = ([], none) := by
  cases k <;> simp [scan, h]
theorem scan_brk (s : ByteArray) (k p : Nat) (h : p < s.size) (hb : brk s p = true) : scan s (k + 1) p = ([], some p) := by simp [scan, h, hb]
theorem scan_next (s : ByteArray) (k p : Nat) (h : p < s.size) (hb : brk s p = false) : scan s (k + 1) p = (((Utf8.decode s p).1 : Int) :: (scan s k (p + (Utf8.decode s p).2)).1, (scan s k (p + (Utf8.decode s p).2)).2) := by simp [scan, h, hb]
theorem scan_len (s : ByteArray) : ∀ k p, (scan s k p).1.length ≤ k
  | 0, p => by simp [scan]
  | k + 1, p => by
    unfold scan
    split
    · split
      · simp
      · have := scan_len s k (p + (Utf8.decode s p).2)
        simp only [List.length_cons]; omega
    · simp
theorem scan_more (s : ByteArray) : ∀ k p, s.size ≤ p + k → ∀ j, scan s (k + j) p = scan s k p
  | 0, p, h, j => by rw [scan_end s _ p (by omega), scan_end s _ p (by omega)]
  | k + 1, p, h, j => by
    rw [show k + 1 + j = (k + j) + 1 by omega]
    by_cases hp : p < s.size
    · cases hb : brk s p
      · have hw := wid_pos s p
        rw [scan_next s _ p hp hb, scan_next s _ p hp hb, scan_more s k _ (by omega) j]
      · rw [scan_brk s _ p hp hb, scan_brk s _ p hp hb]
    · rw [scan_end s _ p hp, scan_end s _ p hp]

/-- What is read where a rune begins: within the text; its bytes are the rune's. -/
theorem enc_len_one {r : Int} (h : validRune r = true) : 1 ≤ (Lib.encodeRune r).length ∧ (Lib.encodeRune r).length ≤ 4 := by
  unfold Lib.encodeRune Lib.encodeRuneZ
  repeat' split
  all_goals simp

theorem getD_get! (s : ByteArray) (i : Nat) : (s.get! i) = s.data.toList.getD i 0 := by
  cases s with
  | mk d =>
    show d[i]! = _
    simp [List.getD, getElem!_def]
    cases d[i]? <;> rfl
theorem drop_cons (l : List UInt8) (i : Nat) (h : i < l.length) : l.drop i = l.getD i 0 :: l.drop (i + 1) := by
  rw [List.drop_eq_getElem_cons h]; simp [List.getD, h]

theorem byte_lt (s : ByteArray) (i : Nat) : (s.get! i).toNat < 256 := UInt8.toNat_lt _
theorem ofZ (b : UInt8) (x : Int) (h : (b.toNat : Int) = x) : x.toNat.toUInt8 = b := by
  subst h; rw [Int.toNat_natCast]; exact UInt8.ofNat_toNat

theorem ext_list (s : ByteArray) (p : Nat) : (s.extract p s.size).data.toList = s.data.toList.drop p := by
  cases s with
  | mk d =>
    simp [ByteArray.size]
    exact List.take_of_length_le (by simp)
theorem ext_size (s : ByteArray) (p : Nat) : (s.extract p s.size).size = s.size - p := by simp
/-- The decoder reads a text's rest as it reads the text from there. -/
theorem dec_ext (s : ByteArray) (p : Nat) (h : p < s.size) : Lib.decodeGo (s.extract p s.size) = Utf8.decode s p := by
  unfold Lib.decodeGo
  rw [if_neg (by rw [ext_size]; omega), decode_at, decode_at, ext_size]
  have hg : ∀ i, (s.extract p s.size).get! i = s.get! (p + i) := fun i => by
    rw [getD_get!, getD_get!, ext_list]
    simp [List.getD, List.getElem?_drop]
  simp only [hg, Nat.sub_zero, Nat.zero_add, Nat.add_zero]

end Go.Proofs.YtcaojgdnhmgmlaaDoor.Q

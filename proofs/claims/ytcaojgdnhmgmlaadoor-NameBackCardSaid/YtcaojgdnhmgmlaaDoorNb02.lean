import Derived.Test.YtcaojgdnhmgmlaaDoorNb01
import Derived.Lib.RuneBytes
import Derived.Lib.ValidU
import Derived.Lib.Small
import Derived.Lib.DecodeNEq
import Derived.Shelf.Unicode.DecodeAny
section
/- Worlds in which the two tables of unicode/utf8 lie as their initialisers lay them; and what a row's condition on them gives the walks. -/
namespace Go.Proofs.YtcaojgdnhmgmlaaDoor
open Go.RowKit Go.Shelf Q
set_option linter.unusedVariables false

noncomputable def worldU (os : Os) : World :=
  let w0 := World.holding Tryd.prog os ⟨#[], #[], []⟩
  { w0 with heap := put (put w0.heap 0 (cell1 Rows.laid_unicode_utf8_first)) 1 (cells2 Rows.laid_unicode_utf8_acceptRanges) }
theorem met_U (os : Os) (args : Array Value) : laidMetH Tryd.prog Rows.utfRunesRow.laid ((worldU os).forCall (fun _ _ => 0) ⟨#[], args, []⟩).memory := by
  rw [MakeChecks.laidMetH_plain _ _ _ (by kernel_rfl)]
  exact (LaidIn.of_run (l := Rows.utfRunesRow.laid) [1, 0] 8 (by kernel_rfl) (by kernel_rfl) (by kernel_rfl) (by kernel_rfl)).met
theorem laidU_of {W : World} (h : laidMetH Tryd.prog Rows.utfRunesRow.laid W) : LaidU W := by
  rw [MakeChecks.laidMetH_plain _ _ _ (by kernel_rfl)] at h
  have e1 : (Rows.laid_unicode_utf8_acceptRanges : DataW Unit) = Lib.acceptData := by kernel_rfl
  have e2 : Rows.laid_unicode_utf8_first = Lib.firstData := by kernel_rfl
  have ha := Lib.laidMet.reads h (.head _)
  have hf := Lib.laidMet.reads h (.tail _ (.head _))
  rw [e1] at ha
  rw [e2] at hf
  exact ⟨utf8Tabs_of_readsT (U8Types.of196 Tryd.laysValid) ⟨by kernel_rfl, by kernel_rfl, by kernel_rfl, by kernel_rfl, by kernel_rfl, by kernel_rfl, by kernel_rfl⟩ hf ha⟩
end Go.Proofs.YtcaojgdnhmgmlaaDoor
end
section
/- The runes of a text and the text of runes, in plain Lean over the model's own decoder. -/
namespace Go.Proofs.YtcaojgdnhmgmlaaDoor.Q
open Go.RowKit Go.Lib
set_option linter.unusedVariables false

/-- No rune begins at place p. -/
def brk (s : ByteArray) (p : Nat) : Bool := decide ((Utf8.decode s p).1 = 65533) && decide ((Utf8.decode s p).2 < 2)
/-- The runes from place p on, and where they stop for want of one. -/
def scan (s : ByteArray) : Nat → Nat → List Int × Option Nat
  | 0, _ => ([], none)
  | k + 1, p => if p < s.size then (if brk s p = true then ([], some p) else (((Utf8.decode s p).1 : Int) :: (scan s k (p + (Utf8.decode s p).2)).1, (scan s k (p + (Utf8.decode s p).2)).2)) else ([], none)
def runesOf (s : ByteArray) : List Int × Option Nat := scan s s.size 0
def encL (l : List Int) : List UInt8 := l.flatMap Lib.encodeRune
def upr (r : Int) : Bool := decide (65 ≤ r ∧ r ≤ 90) || (decide (192 ≤ r ∧ r ≤ 222) && decide (r ≠ 215))
def sml (r : Int) : Int := if upr r then r + 32 else r

theorem wid_pos (s : ByteArray) (p : Nat) : 1 ≤ (Utf8.decode s p).2 := width_pos s p
theorem scan_end (s : ByteArray) (k p : Nat) (h : ¬ p < s.size) : scan s k p = ([], none) := by
  cases k <;> simp [scan, h]
theorem scan_brk (s : ByteArray) (k p : Nat) (h : p < s.size) (hb : brk s p = true) : scan s (k + 1) p = ([], some p) := by simp [scan, h, hb]
theorem scan_next (s : ByteArray) (k p : Nat) (h : p < s.size) (hb : brk s p = false) : scan s (k + 1) p = (((Utf8.decode s p).1 : Int) :: (scan s k (p + (Utf8.decode s p).2)).1, (scan s k (p + (Utf8.decode s p).2)).2) := by simp [scan, h, hb]
theorem scan_len (s : ByteArray) : ∀ k p, (scan s k p).1.length ≤ k
  | 0, p => by simp [scan]
  | k + 1, p => by
    unfold scan
    split
    · split
      · simp
      · have := scan_len s k (p + (Utf8.decode s p).2)
        simp only [List.length_cons]; omega
    · simp
theorem scan_more (s : ByteArray) : ∀ k p, s.size ≤ p + k → ∀ j, scan s (k + j) p = scan s k p
  | 0, p, h, j => by rw [scan_end s _ p (by omega), scan_end s _ p (by omega)]
  | k + 1, p, h, j => by
    rw [show k + 1 + j = (k + j) + 1 by omega]
    by_cases hp : p < s.size
    · cases hb : brk s p
      · have hw := wid_pos s p
        rw [scan_next s _ p hp hb, scan_next s _ p hp hb, scan_more s k _ (by omega) j]
      · rw [scan_brk s _ p hp hb, scan_brk s _ p hp hb]
    · rw [scan_end s _ p hp, scan_end s _ p hp]

/-- What is read where a rune begins: within the text; its bytes are the rune's. -/
theorem enc_len_one {r : Int} (h : validRune r = true) : 1 ≤ (Lib.encodeRune r).length ∧ (Lib.encodeRune r).length ≤ 4 := by
  unfold Lib.encodeRune Lib.encodeRuneZ
  repeat' split
  all_goals simp

theorem getD_get! (s : ByteArray) (i : Nat) : (s.get! i) = s.data.toList.getD i 0 := by
  cases s with
  | mk d =>
    show d[i]! = _
    simp [List.getD, getElem!_def]
    cases d[i]? <;> rfl
theorem drop_cons (l : List UInt8) (i : Nat) (h : i < l.length) : l.drop i = l.getD i 0 :: l.drop (i + 1) := by
  rw [List.drop_eq_getElem_cons h]; simp [List.getD, h]

theorem byte_lt (s : ByteArray) (i : Nat) : (s.get! i).toNat < 256 := UInt8.toNat_lt _
theorem ofZ (b : UInt8) (x : Int) (h : (b.toNat : Int) = x) : x.toNat.toUInt8 = b := by
  subst h; rw [Int.toNat_natCast]; exact UInt8.ofNat_toNat

theorem ext_list (s : ByteArray) (p : Nat) : (s.extract p s.size).data.toList = s.data.toList.drop p := by
  cases s with
  | mk d =>
    simp [ByteArray.size]
    exact List.take_of_length_le (by simp)
theorem ext_size (s : ByteArray) (p : Nat) : (s.extract p s.size).size = s.size - p := by simp
/-- The decoder reads a text's rest as it reads the text from there. -/
theorem dec_ext (s : ByteArray) (p : Nat) (h : p < s.size) : Lib.decodeGo (s.extract p s.size) = Utf8.decode s p := by
  unfold Lib.decodeGo
  rw [if_neg (by rw [ext_size]; omega), decode_at, decode_at, ext_size]
  have hg : ∀ i, (s.extract p s.size).get! i = s.get! (p + i) := fun i => by
    rw [getD_get!, getD_get!, ext_list]
    simp [List.getD, List.getElem?_drop]
  simp only [hg, Nat.sub_zero, Nat.zero_add, Nat.add_zero]

end Go.Proofs.YtcaojgdnhmgmlaaDoor.Q
end
section
/- Functions of the seat as plain Lean functions, and that the calls do what these say; conditions stand in each theorem. (Written by a program of this seat's prover, by the kit's printer; Lean checks it.) -/
namespace Go.Proofs.YtcaojgdnhmgmlaaDoor.Q
open Go.RowKit Go.Proofs.YtcaojgdnhmgmlaaDoorW.PrintWords Go.Proofs.YtcaojgdnhmgmlaaDoorW.PrintLast Go.Proofs.YtcaojgdnhmgmlaaDoorW.PrintMore
attribute [local go_sem] max2_int min2_int max_two min_two max_three min_three max_four min_four   -- for this text's walks alone
set_option linter.unusedVariables false
set_option linter.unusedSimpArgs false

/-! ### utf_Upper: function 34 -/
def utf_Upper.f (a0 : Int) : Option (Bool) := if 65 ≤ a0 then (if a0 ≤ 90 then (some true) else (if 192 ≤ a0 then (if a0 ≤ 222 then (some (a0 != 215)) else (some false)) else (some false))) else (if 192 ≤ a0 then (if a0 ≤ 222 then (some (a0 != 215)) else (some false)) else (some false))
set_option maxHeartbeats 8000000 in
set_option maxRecDepth 100000 in
theorem utf_Upper.calls (a0 : Int) (r : Bool) (w : World) (h : utf_Upper.f a0 = some r) :
    Calls Tryd.prog 34 #[.int .i32 a0] w fun e w' => e = .returned (.bool r) ∧ Drawn0 w w' := by
  have H : (if 65 ≤ a0 then (if a0 ≤ 90 then (some true) else (if 192 ≤ a0 then (if a0 ≤ 222 then (some (a0 != 215)) else (some false)) else (some false))) else (if 192 ≤ a0 then (if a0 ≤ 222 then (some (a0 != 215)) else (some false)) else (some false))) = some r := h
  clear h
  by_cases c2 : 65 ≤ a0
  · rw [if_pos c2] at H
    have c2b0 : decide (65 ≤ a0) = true := decide_eq_true c2
    clear c2
    by_cases c3 : a0 ≤ 90
    · rw [if_pos c3] at H
      have c3b0 : decide (a0 ≤ 90) = true := decide_eq_true c3
      clear c3
      obtain rfl := Option.some.inj H
      go_enter Tryd.func34, Tryd.ntmps34
      go_wp2
      go_ret
      exact ⟨by first | rfl | (simp; done) | (simp [*]; done), by repeat (first | exact Drawn0.refl _ | apply Drawn0.step)⟩
    · rw [if_neg c3] at H
      have c3b0 : decide (a0 ≤ 90) = false := decide_eq_false c3
      clear c3
      by_cases c4 : 192 ≤ a0
      · rw [if_pos c4] at H
        have c4b0 : decide (192 ≤ a0) = true := decide_eq_true c4
        clear c4
        by_cases c5 : a0 ≤ 222
        · rw [if_pos c5] at H
          have c5b0 : decide (a0 ≤ 222) = true := decide_eq_true c5
          clear c5
          obtain rfl := Option.some.inj H
          go_enter Tryd.func34, Tryd.ntmps34
          go_wp2
          go_ret
          exact ⟨by first | rfl | (simp; done) | (simp [*]; done), by repeat (first | exact Drawn0.refl _ | apply Drawn0.step)⟩
        · rw [if_neg c5] at H
          have c5b0 : decide (a0 ≤ 222) = false := decide_eq_false c5
          clear c5
          obtain rfl := Option.some.inj H
          go_enter Tryd.func34, Tryd.ntmps34
          go_wp2
          go_ret
          exact ⟨by first | rfl | (simp; done) | (simp [*]; done), by repeat (first | exact Drawn0.refl _ | apply Drawn0.step)⟩
      · rw [if_neg c4] at H
        have c4b0 : decide (192 ≤ a0) = false := decide_eq_false c4
        clear c4
        obtain rfl := Option.some.inj H
        go_enter Tryd.func34, Tryd.ntmps34
        go_wp2
        go_ret
        exact ⟨by first | rfl | (simp; done) | (simp [*]; done), by repeat (first | exact Drawn0.refl _ | apply Drawn0.step)⟩
  · rw [if_neg c2] at H
    have c2b0 : decide (65 ≤ a0) = false := decide_eq_false c2
    clear c2
    by_cases c6 : 192 ≤ a0
    · rw [if_pos c6] at H
      have c6b0 : decide (192 ≤ a0) = true := decide_eq_true c6
      clear c6
      by_cases c7 : a0 ≤ 222
      · rw [if_pos c7] at H
        have c7b0 : decide (a0 ≤ 222) = true := decide_eq_true c7
        clear c7
        obtain rfl := Option.some.inj H
        go_enter Tryd.func34, Tryd.ntmps34
        go_wp2
        go_ret
        exact ⟨by first | rfl | (simp; done) | (simp [*]; done), by repeat (first | exact Drawn0.refl _ | apply Drawn0.step)⟩
      · rw [if_neg c7] at H
        have c7b0 : decide (a0 ≤ 222) = false := decide_eq_false c7
        clear c7
        obtain rfl := Option.some.inj H
        go_enter Tryd.func34, Tryd.ntmps34
        go_wp2
        go_ret
        exact ⟨by first | rfl | (simp; done) | (simp [*]; done), by repeat (first | exact Drawn0.refl _ | apply Drawn0.step)⟩
    · rw [if_neg c6] at H
      have c6b0 : decide (192 ≤ a0) = false := decide_eq_false c6
      clear c6
      obtain rfl := Option.some.inj H
      go_enter Tryd.func34, Tryd.ntmps34
      go_wp2
      go_ret
      exact ⟨by first | rfl | (simp; done) | (simp [*]; done), by repeat (first | exact Drawn0.refl _ | apply Drawn0.step)⟩

end Go.Proofs.YtcaojgdnhmgmlaaDoor.Q
end
section
/- utf.Upper in plain words, and Fold's function, by hand. -/
namespace Go.Proofs.YtcaojgdnhmgmlaaDoor.Q
open Go.RowKit Go.Sort Go.Proofs.YtcaojgdnhmgmlaaDoorW.PrintWords Go.Proofs.YtcaojgdnhmgmlaaDoorW.PrintLast Go.Proofs.YtcaojgdnhmgmlaaDoorW.PrintMore
set_option linter.unusedVariables false
set_option linter.unusedSimpArgs false
theorem upper_eq (a : Int) : utf_Upper.f a = some (upr a) := by
  unfold utf_Upper.f upr
  by_cases h1 : 65 ≤ a <;> by_cases h2 : a ≤ 90 <;> by_cases h3 : 192 ≤ a <;> by_cases h4 : a ≤ 222 <;> simp [h1, h2, h3, h4, bne] <;> first | omega | (by_cases h5 : a = 215 <;> simp [h5])
theorem small_calls (a : Int) (w : World) (h0 : 0 ≤ a) (h1 : a ≤ 1114111) :
    Calls Tryd.prog 72 #[.int .i32 a] w fun e w' => e = .returned (.int .i32 (sml a)) ∧ Drawn0 w w' := by
  have hw : wrap32 (a + 32) = a + 32 := by unfold wrap32; omega
  have HU := Aside0.mk (utf_Upper.calls a (upr a) w (upper_eq a))
  cases hu : upr a
  · have hs : sml a = a := by rw [sml, hu]; rfl
    rw [hs]
    go_enter Tryd.func72, Tryd.ntmps72
    go_wp2_with fail
    refine HU.out.mono ?_
    rw [hu]
    rintro e w1 ⟨rfl, hb⟩
    go_wp2_with fail
    go_ret
    exact ⟨rfl, hb⟩
  · have hs : sml a = a + 32 := by rw [sml, hu]; rfl
    rw [hs]
    go_enter Tryd.func72, Tryd.ntmps72
    go_wp2_with fail
    refine HU.out.mono ?_
    rw [hu]
    rintro e w1 ⟨rfl, hb⟩
    go_wp2_with fail
    go_ret
    exact ⟨rfl, hb⟩
end Go.Proofs.YtcaojgdnhmgmlaaDoor.Q
end

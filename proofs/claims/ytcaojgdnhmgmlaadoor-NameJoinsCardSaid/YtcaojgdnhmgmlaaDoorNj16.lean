import Derived.Shelf.Strings.OnBuilder
import Derived.Shelf.Small.Utf8
import Derived.Shelf.Strings.BuilderK
import Derived.Shelf.Strings.BuilderRune
import Derived.Test.YtcaojgdnhmgmlaaDoorProg
import Derived.Test.YtcaojgdnhmgmlaaDoorNj02
import Derived.Lib.OthersKept
import Derived.Shelf.Unicode.DecodeAny
section
/-
  DERIVED: THE SHELF's CONTRACTS AT THIS DUMP, IN PLAIN WORDS (tools/lay-plain.mjs out of 'YtcaojgdnhmgmlaaDoorShRune.lean', which tools/lay-shelf.mjs wrote): THE SAME DECLARATIONS UNDER THE SAME NAMES: 'import', 'namespace', 'open', 'def', 'theorem' AND NOTHING ELSE: no command of the shelf's: FOR A HAND-IN. Each laying: the table of numbers ('.._ren') and one theorem, a field a fact of the dump's own or the kernel's comparison; each contract: ONE APPLICATION.
-/
namespace Go.Proofs
open Go.Shelf
def Tryd.lays169_ren : Go.Shelf.Ren := ⟨fun | 169 => 68 | n => n, fun | 70 => 83 | 9 => 9 | 0 => 0 | 72 => 85 | 37 => 52 | 127 => 115 | 3 => 3 | 5 => 5 | n => n, fun | n => n⟩
theorem Tryd.lays169 : Go.Proofs.Lays.n169 Tryd.prog Tryd.lays169_ren := {
  mixed := by kernel_rfl
  f169 := Tryd.func68.trans (congrArg some (by kernel_rfl))
  t0 := Tryd.underlying0
  a0 := Tryd.isAgg0
  z0 := Tryd.sizeOf0
  v0 := Tryd.zeroValue0
  t3 := Tryd.underlying3
  a3 := Tryd.isAgg3
  z3 := Tryd.sizeOf3
  v3 := Tryd.zeroValue3
  t9 := Tryd.underlying9
  a9 := Tryd.isAgg9
  z9 := Tryd.sizeOf9
  v9 := Tryd.zeroValue9
  t37 := Tryd.underlying52
  a37 := Tryd.isAgg52
  z37 := Tryd.sizeOf52
  v37 := Tryd.zeroValue52
  t70 := Tryd.underlying83
  a70 := Tryd.isAgg83
  z70 := Tryd.sizeOf83
  v70 := Tryd.zeroValue83
  t72 := Tryd.underlying85
  a72 := Tryd.isAgg85
  z72 := Tryd.sizeOf85
  v72 := Tryd.zeroValue85
  t127 := Tryd.underlying115
  a127 := Tryd.isAgg115
  z127 := Tryd.sizeOf115
  v127 := Tryd.zeroValue115 }
theorem Tryd.Builder_Extra_169 : Builder.Extra Tryd.prog Tryd.lays169_ren := {
  sizeBuilder := by kernel_rfl
  liesBuilder := by kernel_rfl
  t5 := Tryd.underlying5
  a5 := Tryd.isAgg5
  z5 := Tryd.sizeOf5
  v5 := Tryd.zeroValue5
  infoByte := by kernel_rfl
  cellsByte := by kernel_rfl
  sizeByte := by kernel_rfl
  neB5 := by decide }
def Tryd.lays119_ren : Go.Shelf.Ren := ⟨fun | 119 => 66 | n => n, fun | 21 => 21 | 4 => 4 | n => n, fun | n => n⟩
theorem Tryd.lays119 : Go.Proofs.Lays.n119 Tryd.prog Tryd.lays119_ren := {
  mixed := by kernel_rfl
  f119 := Tryd.func66.trans (congrArg some (by kernel_rfl))
  t4 := Tryd.underlying4
  a4 := Tryd.isAgg4
  z4 := Tryd.sizeOf4
  v4 := Tryd.zeroValue4
  t21 := Tryd.underlying21
  a21 := Tryd.isAgg21
  z21 := Tryd.sizeOf21
  v21 := Tryd.zeroValue21 }
/-- utf8.ValidRune: "ValidRune reports whether r can be legally encoded as UTF-8. Code points that are out of range or a surrogate half are illegal.": IT RETURNS 'Lib.validRune r'; the world is as it was. (LAID: no walk: one application.) -/
theorem Tryd.utf8_ValidRune (r : Int) (w : World) :
    Calls Tryd.prog 66 #[.int .i32 r] w fun e w' => e = .returned (.bool (Lib.validRune r)) ∧ w' = w := Any.utf8_ValidRune Tryd.lays119 r w
open Go.RowKit in
/-- (*strings.Builder).String: "String returns the accumulated string.": WHATEVER THE BUILDER HOLDS; THE FORM '_k': OVER 'Lib.IsBuilderF' (a builder that 'String()' may have read), AND WITH THE FRAME THAT REACHES ABOVE THE BUILDER: 'Lib.OthersKept': every block that is not b and is no row of uint8's stands as it stood: the iterator of a range among them. (LAID: no walk: one application.) -/
theorem Tryd.Builder_String_any_k (B b : Nat) (l : List UInt8) (w : World) (h : Lib.IsBuilderF 85 5 B b (Lib.byteCells l) w) (hBw : B ≤ w.heap.size) :
    Calls Tryd.prog 68 #[.pointer (some ⟨b, 0, none⟩)] w fun e w' => e = .returned (.string ⟨l.toArray⟩) ∧ (Lib.IsBuilderF 85 5 B b (Lib.byteCells l) w' ∧ Below B w w' ∧ Lib.OthersKept 5 (some b) w w') := Any.Builder_String_any_k Tryd.lays169 Tryd.Builder_Extra_169 B b l w h hBw
def Tryd.lays168_ren : Go.Shelf.Ren := ⟨fun | 168 => 67 | 240 => 104 | 242 => 105 | 276 => 121 | 278 => 122 | n => n, fun | 37 => 52 | 46 => 94 | 51 => 146 | 70 => 83 | 72 => 85 | 75 => 87 | 164 => 144 | 80 => 90 | n => n, fun | n => n⟩
theorem Tryd.lays168 : Go.Proofs.Lays.n168 Tryd.prog Tryd.lays168_ren := {
  mixed := by kernel_rfl
  f168 := Tryd.func67.trans (congrArg some (by kernel_rfl))
  f240 := Tryd.func104.trans (congrArg some (by kernel_rfl))
  f242 := Tryd.func105.trans (congrArg some (by kernel_rfl))
  f276 := Tryd.func121.trans (congrArg some (by kernel_rfl))
  f278 := Tryd.func122.trans (congrArg some (by kernel_rfl))
  t0 := Tryd.underlying0
  a0 := Tryd.isAgg0
  z0 := Tryd.sizeOf0
  v0 := Tryd.zeroValue0
  t3 := Tryd.underlying3
  a3 := Tryd.isAgg3
  z3 := Tryd.sizeOf3
  v3 := Tryd.zeroValue3
  t4 := Tryd.underlying4
  a4 := Tryd.isAgg4
  z4 := Tryd.sizeOf4
  v4 := Tryd.zeroValue4
  t5 := Tryd.underlying5
  a5 := Tryd.isAgg5
  z5 := Tryd.sizeOf5
  v5 := Tryd.zeroValue5
  t9 := Tryd.underlying9
  a9 := Tryd.isAgg9
  z9 := Tryd.sizeOf9
  v9 := Tryd.zeroValue9
  t20 := Tryd.underlying20
  a20 := Tryd.isAgg20
  z20 := Tryd.sizeOf20
  v20 := Tryd.zeroValue20
  t21 := Tryd.underlying21
  a21 := Tryd.isAgg21
  z21 := Tryd.sizeOf21
  v21 := Tryd.zeroValue21
  t37 := Tryd.underlying52
  a37 := Tryd.isAgg52
  z37 := Tryd.sizeOf52
  v37 := Tryd.zeroValue52
  t46 := Tryd.underlying94
  a46 := Tryd.isAgg94
  z46 := Tryd.sizeOf94
  v46 := Tryd.zeroValue94
  t51 := Tryd.underlying146
  a51 := Tryd.isAgg146
  z51 := Tryd.sizeOf146
  v51 := Tryd.zeroValue146
  t70 := Tryd.underlying83
  a70 := Tryd.isAgg83
  z70 := Tryd.sizeOf83
  v70 := Tryd.zeroValue83
  t72 := Tryd.underlying85
  a72 := Tryd.isAgg85
  z72 := Tryd.sizeOf85
  v72 := Tryd.zeroValue85
  t75 := Tryd.underlying87
  a75 := Tryd.isAgg87
  z75 := Tryd.sizeOf87
  v75 := Tryd.zeroValue87
  t164 := Tryd.underlying144
  a164 := Tryd.isAgg144
  z164 := Tryd.sizeOf144
  v164 := Tryd.zeroValue144 }
theorem Tryd.Builder_Extra_168 : Builder.Extra Tryd.prog Tryd.lays168_ren := {
  sizeBuilder := by kernel_rfl
  liesBuilder := by kernel_rfl
  t5 := Tryd.underlying5
  a5 := Tryd.isAgg5
  z5 := Tryd.sizeOf5
  v5 := Tryd.zeroValue5
  infoByte := by kernel_rfl
  cellsByte := by kernel_rfl
  sizeByte := by kernel_rfl
  neB5 := by decide }
open Go.RowKit in
theorem Tryd.Builder_WriteRune_k (B b : Nat) (bs : List Value) (r : Int) (hr0 : -2147483648 ≤ r) (hr1 : r ≤ 2147483647) (w : World) (h : Lib.IsBuilderF 85 5 B b bs w) (hlen : bs.length + 4 ≤ 140737488355328) (hBw : B ≤ w.heap.size) :
    Calls Tryd.prog 67 #[.pointer (some ⟨b, 0, none⟩), .int .i32 r] w fun e w' => e = .returned (.tuple #[.int .i64 (Lib.runeCells r).length, .nilIface]) ∧ (Lib.BuilderAtF 85 5 B b (.pointer (some ⟨b, 0, none⟩)) (bs ++ Lib.runeCells r) w' ∧ Below B w w' ∧ Lib.OthersKept 5 (some b) w w') := Any.Builder_WriteRune_k Tryd.lays168 Tryd.Builder_Extra_168 B b bs r hr0 hr1 w h hlen hBw
end Go.Proofs
end
section
/- utf.Text, by hand: the text of runes, or which of them is none. -/
namespace Go.Proofs.YtcaojgdnhmgmlaaDoor.Q
open Go.RowKit Go.Sort Go.Proofs.YtcaojgdnhmgmlaaDoorW.PrintWords Go.Proofs.YtcaojgdnhmgmlaaDoorW.PrintLast Go.Proofs.YtcaojgdnhmgmlaaDoorW.PrintMore
set_option linter.unusedVariables false

def badAt : List Int → Nat → Option Nat
  | [], _ => none
  | r :: t, i => if Lib.validRune r = true then badAt t (i + 1) else some i
def textR (l : List Int) (o : Option Nat) : ByteArray × Int × Int := match o with
  | none => (⟨(encL l).toArray⟩, 0, 0)
  | some i => (⟨#[]⟩, (i : Int), 4)
def utf_Text.f (l0 : List Int) : Option (ByteArray × Int × Int) := if l0.length < 1000000 then some (textR l0 (badAt l0 0)) else none

theorem drop_rd (l : List Int) (k : Nat) (h : k < l.length) : l.drop k = rd l k :: l.drop (k + 1) := by
  rw [List.drop_eq_getElem_cons h]
  simp [rd, List.getD, h]
theorem take_rd (l : List Int) (k : Nat) (h : k < l.length) : l.take (k + 1) = l.take k ++ [rd l k] := by
  rw [List.take_succ_eq_append_getElem h]
  simp [rd, List.getD, h]
theorem encL_append (a b : List Int) : encL (a ++ b) = encL a ++ encL b := by simp [encL]
theorem encL_len : ∀ l : List Int, (encL l).length ≤ 4 * l.length
  | [] => by simp [encL]
  | r :: t => by
    have h := encL_len t
    have h2 := Lib.runeCells_le r
    rw [Lib.runeCells_length] at h2
    simp only [encL, List.flatMap_cons, List.length_append, List.length_cons] at h ⊢
    omega

set_option maxHeartbeats 4000000 in
set_option maxRecDepth 100000 in
theorem utf_Text.calls (A0 : Option Addr) (c0 : Nat) (l0 : List Int) (r1 : ByteArray) (r2 : Int) (r3 : Int) (w : World) (hr0 : Kd.C (Kd.int .i32) w A0 l0.length l0) (hc0 : l0.length ≤ c0) (h : utf_Text.f l0 = some (r1, r2, r3)) :
    Calls Tryd.prog 23 #[.slice A0 l0.length c0] w fun e w' => e = .returned (.tuple #[.string r1, .int .i64 r2, .int .i64 r3]) ∧ Below w.heap.size w w' := by
  unfold utf_Text.f at h
  split at h
  case isFalse => cases h
  rename_i hs
  have h := Option.some.inj h
  have HH := Aside0.mk h
  have HS := Aside0.mk hs
  have HR := Aside0.mk hr0
  have HC := Aside0.mk hc0
  clear h hs hr0 hc0
  go_enter Tryd.func23, Tryd.ntmps23
  go_wp2_with fail
  go_loopw [10] (fun v wr => ∃ k : Nat, v = .int .i64 (k : Int) ∧ k ≤ l0.length ∧ Aside0 (Lib.IsBuilderF 85 5 w.heap.size w.heap.size (Lib.byteCells (encL (l0.take k))) wr) ∧ Aside0 (badAt l0 0 = badAt (l0.drop k) k) ∧ Aside0 (Below w.heap.size w wr)) (fun v _ => ((l0.length : Int) - intOf v).toNat)
  case atStart => exact ⟨0, rfl, Nat.zero_le _, ⟨Lib.IsBuilderF.of (Lib.fresh_isBuilder 85 5 w)⟩, ⟨rfl⟩, ⟨below_alloc (Below.refl _ _) _⟩⟩
  case round =>
    clear h
    obtain ⟨k, rfl, hk, HI, HA, HB⟩ := hrel
    by_cases hlt : k < l0.length
    · have e1 : decide ((k : Int) < l0.length) = true := decide_eq_true (by omega)
      have p1 : (0 : Int) ≤ k := by omega
      have q1 : (k : Int) < l0.length := by omega
      obtain ⟨ad1, ea1, hx1⟩ := Kd.at_int (Kd.C_below HR.out HB.out) (k : Int) p1 q1
      cases ea1
      rw [Int.toNat_natCast] at hx1
      replace p1 := eq_true p1
      replace q1 := eq_true q1
      have HQ := Aside0.mk (drop_rd l0 k hlt)
      have HT := Aside0.mk (take_rd l0 k hlt)
      cases hv : Lib.validRune (rd l0 k)
      · go_wp2_with fail
        refine (Tryd.utf8_ValidRune _ wr).mono ?_
        rw [hv]
        rintro e w2 ⟨rfl, rfl⟩
        go_wp2_with fail
        go_ret3
        have h1 := HH.out
        rw [HA.out, HQ.out, badAt, if_neg (by rw [hv]; simp)] at h1
        simp only [textR, Prod.mk.injEq] at h1
        obtain ⟨rfl, rfl, rfl⟩ := h1
        exact ⟨rfl, HB.out⟩
      · go_wp2_with fail
        refine (Tryd.utf8_ValidRune _ wr).mono ?_
        rw [hv]
        rintro e w2 ⟨rfl, rfl⟩
        have HV := Aside0.mk (show 0 ≤ rd l0 k ∧ rd l0 k ≤ 1114111 by simp [Lib.validRune] at hv; omega)
        go_wp2_with fail
        refine (Tryd.Builder_WriteRune_k w.heap.size w.heap.size _ (rd l0 k) (by have := HV.out; omega) (by have := HV.out; omega) w2 HI.out (by rw [Lib.byteCells_length]; have h1 := encL_len (l0.take k); have h2 := HS.out; rw [List.length_take] at h1; omega) HB.out.size).mono ?_
        rintro e w3 ⟨rfl, h1, b1, k1⟩
        have HI2 := Aside0.mk h1
        have HB2 := Aside0.mk (HB.out.trans b1)
        clear h1 b1 k1
        go_wp2_with fail
        have hw64 : wrap64 ((k : Int) + 1) = k + 1 := by have := HS.out; unfold wrap64; omega
        go_roundw
        case rel => exact ⟨k + 1, by rw [hw64]; rfl, by omega, ⟨by rw [HT.out, encL_append, Lib.byteCells_append]; exact Or.inr (by simpa [encL, Lib.byteCells_encodeRune] using HI2.out)⟩, ⟨by rw [HA.out, HQ.out, badAt, if_pos hv]⟩, HB2⟩
        case measure => rw [hw64]; simp [intOf]; omega
    · obtain rfl : k = l0.length := by omega
      have e1 : decide ((l0.length : Int) < l0.length) = false := decide_eq_false (by omega)
      go_wp2_with fail
      refine (Tryd.Builder_String_any_k w.heap.size w.heap.size _ wr HI.out HB.out.size).mono ?_
      rintro e w2 ⟨rfl, _, b1, _⟩
      go_wp2_with fail
      go_ret3
      have h1 := HH.out
      rw [HA.out, List.drop_length] at h1
      simp only [badAt, textR, Prod.mk.injEq] at h1
      obtain ⟨rfl, rfl, rfl⟩ := h1
      exact ⟨rfl, HB.out.trans b1⟩
end Go.Proofs.YtcaojgdnhmgmlaaDoor.Q
end
section
/-
  DERIVED: THE SHELF's CONTRACTS AT THIS DUMP, IN PLAIN WORDS (tools/lay-plain.mjs out of 'YtcaojgdnhmgmlaaDoorShDec.lean', which tools/lay-shelf.mjs wrote): THE SAME DECLARATIONS UNDER THE SAME NAMES: 'import', 'namespace', 'open', 'def', 'theorem' AND NOTHING ELSE: no command of the shelf's: FOR A HAND-IN. Each laying: the table of numbers ('.._ren') and one theorem, a field a fact of the dump's own or the kernel's comparison; each contract: ONE APPLICATION.
-/
namespace Go.Proofs
open Go.Shelf
def Tryd.lays197_ren : Go.Shelf.Ren := ⟨fun | 197 => 64 | 260 => 103 | n => n, fun | 9 => 9 | 21 => 21 | 3 => 3 | 4 => 4 | 5 => 5 | 105 => 81 | 119 => 117 | 0 => 0 | 46 => 94 | 139 => 120 | 138 => 119 | n => n, fun | 3 => 0 | 4 => 1 | n => n⟩
theorem Tryd.lays197 : Go.Proofs.Lays.n197 Tryd.prog Tryd.lays197_ren := {
  mixed := by kernel_rfl
  f197 := Tryd.func64.trans (congrArg some (by kernel_rfl))
  f260 := Tryd.func103.trans (congrArg some (by kernel_rfl))
  t0 := Tryd.underlying0
  a0 := Tryd.isAgg0
  z0 := Tryd.sizeOf0
  v0 := Tryd.zeroValue0
  t3 := Tryd.underlying3
  a3 := Tryd.isAgg3
  z3 := Tryd.sizeOf3
  v3 := Tryd.zeroValue3
  t4 := Tryd.underlying4
  a4 := Tryd.isAgg4
  z4 := Tryd.sizeOf4
  v4 := Tryd.zeroValue4
  t5 := Tryd.underlying5
  a5 := Tryd.isAgg5
  z5 := Tryd.sizeOf5
  v5 := Tryd.zeroValue5
  t9 := Tryd.underlying9
  a9 := Tryd.isAgg9
  z9 := Tryd.sizeOf9
  v9 := Tryd.zeroValue9
  t21 := Tryd.underlying21
  a21 := Tryd.isAgg21
  z21 := Tryd.sizeOf21
  v21 := Tryd.zeroValue21
  t46 := Tryd.underlying94
  a46 := Tryd.isAgg94
  z46 := Tryd.sizeOf94
  v46 := Tryd.zeroValue94
  t105 := Tryd.underlying81
  a105 := Tryd.isAgg81
  z105 := Tryd.sizeOf81
  v105 := Tryd.zeroValue81
  t119 := Tryd.underlying117
  a119 := Tryd.isAgg117
  z119 := Tryd.sizeOf117
  t138 := Tryd.underlying119
  a138 := Tryd.isAgg119
  z138 := Tryd.sizeOf119
  v138 := Tryd.zeroValue119
  t139 := Tryd.underlying120
  a139 := Tryd.isAgg120
  z139 := Tryd.sizeOf120
  v139 := Tryd.zeroValue120
  g3 := by kernel_rfl
  g4 := by kernel_rfl }
open Go.RowKit Go.Lib in
/-- **unicode/utf8.DecodeRuneInString AT EVERY STRING.** (LAID: no walk: one application.) -/
theorem Tryd.utf8_DecodeRuneInString (s : ByteArray) (w : World) (hT : Lib.Utf8Tabs 0 1 w) :
    Calls Tryd.prog 64 #[.string s] w fun e w' => e = .returned (.tuple #[.int .i32 (Lib.decodeGo s).1, .int .i64 (Lib.decodeGo s).2]) ∧ Below w.heap.size w w' := Any.utf8_DecodeRuneInString Tryd.lays197 s w hT
end Go.Proofs
end
section
/- utf.Runes, by hand: the runes of a text, or where it has none. -/
namespace Go.Proofs.YtcaojgdnhmgmlaaDoor.Q
open Go.RowKit Go.Sort Go.Proofs.YtcaojgdnhmgmlaaDoorW.PrintWords Go.Proofs.YtcaojgdnhmgmlaaDoorW.PrintLast Go.Proofs.YtcaojgdnhmgmlaaDoorW.PrintMore
set_option linter.unusedVariables false

def runesR (q : List Int × Option Nat) : List Int × Int × Int := match q.2 with
  | none => (q.1, 0, 0)
  | some p => ([], (p : Int), 4)
def utf_Runes.f (a0 : ByteArray) : Option (List Int × Int × Int) := if a0.size < 1000000 then some (runesR (runesOf a0)) else none

/-- The runes from p on, behind those that were read. -/
def runesC (acc : List Int) (q : List Int × Option Nat) : List Int × Int × Int := runesR (acc ++ q.1, q.2)

set_option maxHeartbeats 4000000 in
set_option maxRecDepth 100000 in
theorem utf_Runes.calls (a0 : ByteArray) (r1 : List Int) (r2 : Int) (r3 : Int) (w : World) (hlaidU : LaidU w) (h : utf_Runes.f a0 = some (r1, r2, r3)) :
    Calls Tryd.prog 21 #[.string a0] w fun e w' => ∃ v0_ : Value, e = .returned (.tuple #[v0_, .int .i64 r2, .int .i64 r3]) ∧ Kd.R (Kd.int .i32) 21 w' w.heap.size (fun _ => True) v0_ r1 ∧ Below w.heap.size w w' := by
  unfold utf_Runes.f at h
  split at h
  case isFalse => cases h
  rename_i hs
  have h := Option.some.inj h
  have HH : Aside0 (runesC [] (scan a0 a0.size 0) = (r1, r2, r3)) := ⟨h⟩
  have HS := Aside0.mk hs
  have HL := Aside0.mk hlaidU
  clear h hs hlaidU
  go_enter Tryd.func21, Tryd.ntmps21
  go_wp2_with fail
  go_loopw [2] (fun v wr => ∃ (pos fuel : Nat) (acc : List Int), Aside0 (runesC acc (scan a0 fuel pos) = (r1, r2, r3)) ∧ Aside0 (acc.length ≤ pos) ∧ Aside0 (a0.size ≤ pos + fuel) ∧ Aside0 (Kd.R (Kd.int .i32) 21 wr w.heap.size (fun k => k ≠ w.heap.size) v acc) ∧ Aside0 (wr.heap[w.heap.size]? = some (.stringIter a0 pos)) ∧ Aside0 (Below w.heap.size w wr)) (fun _ wr => a0.size - wr.iterPos w.heap.size)
  case atStart => exact ⟨0, a0.size, [], HH, ⟨by simp⟩, ⟨by omega⟩, ⟨Kd.R_nil _ _ _ _ _⟩, ⟨World.iter_heap w a0 0⟩, ⟨below_alloc (Below.refl _ _) _⟩⟩
  case round =>
    clear HH
    obtain ⟨pos, fuel, acc, HH, HA, HF, HO, HI, HB⟩ := hrel
    by_cases hp : pos < a0.size
    · have hnx : ∀ ty, (Instr.next (.pointer (some ⟨w.heap.size, 0, none⟩)) true ty).run Tryd.prog wr = _ := fun ty => Lib.run_next_any_at wr w.heap.size a0 pos ty HI.out hp
      have HW := Aside0.mk (wid_pos a0 pos)
      have hpos : wr.iterPos w.heap.size = pos := by simp only [World.iterPos, HI.out]
      obtain ⟨c, n, hd⟩ : ∃ c n, Utf8.decode a0 pos = (c, n) := ⟨_, _, rfl⟩
      have hbk : brk a0 pos = (decide (c = 65533) && decide (n < 2)) := by simp [brk, hd]
      have hde := dec_ext a0 pos hp
      rw [hd] at hde
      simp only [hd] at hnx HW
      have HI2 := Aside0.mk (Lib.iterAt_heap wr w.heap.size a0 pos (pos + n) HI.out)
      have HB2 := Aside0.mk (Lib.below_iterAt HB.out (k := w.heap.size) (Nat.le_refl _) a0 (pos + n))
      have HO2 := Aside0.mk (Kd.R_step HO.out (w1 := wr.iterAt w.heap.size a0 (pos + n)) (fun k ho _ => Lib.iterAt_other wr w.heap.size k a0 _ ho))
      have hlt : w.heap.size < wr.heap.size := (Array.getElem?_eq_some_iff.1 HI.out).1
      have HZ := Aside0.mk (show w.heap.size < (wr.iterAt w.heap.size a0 (pos + n)).heap.size by rw [Lib.iterAt_size]; exact hlt)
      clear hlt HO HB HI
      obtain ⟨f, rfl⟩ : ∃ f, fuel = f + 1 := ⟨fuel - 1, by have := HF.out; omega⟩
      have HP := Aside0.mk hpos
      clear hpos h
      generalize hW1 : wr.iterAt w.heap.size a0 (pos + n) = W1 at hnx HI2 HB2 HO2 HZ
      clear hW1
      have HL2 := Aside0.mk (show acc.length < 1000000 by have := HA.out; have := HS.out; omega)
      by_cases he : c = 65533
      · have hed : ((c : Int) == 65533) = true := by rw [he]; rfl
        have he0 : (0 : Int) ≤ pos := by omega
        have he1 : decide ((pos : Int) ≤ a0.size) = true := decide_eq_true (by omega)
        go_wp2_with fail
        refine (Tryd.utf8_DecodeRuneInString _ W1 (LaidU.below HL.out HB2.out).tabs).mono ?_
        rw [hde]
        rintro e w2 ⟨rfl, hb2⟩
        replace HI2 := Aside0.mk ((hb2.block w.heap.size HZ.out).trans HI2.out)
        replace HO2 := Aside0.mk (Kd.R_below HO2.out hb2)
        replace HB2 := Aside0.mk (below_step HB2.out hb2)
        replace HZ := Aside0.mk (show w.heap.size < w2.heap.size by have := HZ.out; have := hb2.size; omega)
        clear hb2
        by_cases hn2 : n < 2
        · have hne : decide ((n : Int) < 2) = true := decide_eq_true (by omega)
          have hbt : brk a0 pos = true := by rw [hbk, decide_eq_true he, decide_eq_true hn2]; rfl
          go_wp2_with fail
          go_ret3
          have h1 := HH.out
          rw [scan_brk a0 f pos hp hbt] at h1
          simp only [runesC, runesR, Prod.mk.injEq] at h1
          obtain ⟨rfl, rfl, rfl⟩ := h1
          exact ⟨_, rfl, Kd.R_nil _ _ _ _ _, HB2.out⟩
        · have hne : decide ((n : Int) < 2) = false := decide_eq_false (by omega)
          have hbf : brk a0 pos = false := by rw [hbk, decide_eq_false hn2]; simp
          subst he
          go_wp2_with (first | ((with_reducible refine gate_builtin (b := .append) (xs := #[.tmp 27, .tmp 29]) rfl ?_); at_builtin; refine Kd.R_append (Kd.int .i32) (w0 := w) w.heap.size rfl (.tmp 27) (.tmp 29) 34 21 (.int .i32 0) 4 rfl Tryd.underlying34 info21 rfl (by decide) (by omega) u2 acc (65533 : Int) [.int .i32 65533] (fun k => k ≠ w.heap.size) (fun _ => False) rfl rfl rfl (fun _ hk => hk.elim) (fun k hk => by have := HZ.out; omega) HO2.out HB2.out HB2.out.size (by have := HL2.out; omega) ?_; intro v1 w1 ho hb hg hat; have HI3 := Aside0.mk ((hg.block w.heap.size HZ.out (fun e => HO2.out.1 _ e.symm rfl)).trans HI2.out); clear hg hat; have HO3 := Aside0.mk ho; have HB3 := Aside0.mk hb; clear ho hb HO2 HB2))
          go_roundw
          case rel => exact ⟨pos + n, f, acc ++ [(65533 : Int)], ⟨by rw [← HH.out, scan_next a0 f pos hp hbf, hd]; simp [runesC]⟩, ⟨by have := HA.out; have := HW.out; simp; omega⟩, ⟨by have := HF.out; have := HW.out; omega⟩, HO3, HI3, HB3⟩
          case measure =>
            have h1 := HP.out
            have h2 := HW.out
            simp only [World.iterPos, HI3.out] at h1 ⊢
            rw [h1]
            omega
      · have hed : ((c : Int) == 65533) = false := beq_eq_false_iff_ne.mpr (by omega)
        have hbf : brk a0 pos = false := by rw [hbk]; simp [he]
        go_wp2_with (first | ((with_reducible refine gate_builtin (b := .append) (xs := #[.tmp 27, .tmp 29]) rfl ?_); at_builtin; refine Kd.R_append (Kd.int .i32) (w0 := w) w.heap.size rfl (.tmp 27) (.tmp 29) 34 21 (.int .i32 0) 4 rfl Tryd.underlying34 info21 rfl (by decide) (by omega) u2 acc (c : Int) [.int .i32 c] (fun k => k ≠ w.heap.size) (fun _ => False) rfl rfl rfl (fun _ hk => hk.elim) (fun k hk => by have := HZ.out; omega) HO2.out HB2.out HB2.out.size (by have := HL2.out; omega) ?_; intro v1 w1 ho hb hg hat; have HI3 := Aside0.mk ((hg.block w.heap.size HZ.out (fun e => HO2.out.1 _ e.symm rfl)).trans HI2.out); clear hg hat; have HO3 := Aside0.mk ho; have HB3 := Aside0.mk hb; clear ho hb HO2 HB2))
        go_roundw
        case rel => exact ⟨pos + n, f, acc ++ [(c : Int)], ⟨by rw [← HH.out, scan_next a0 f pos hp hbf, hd]; simp [runesC]⟩, ⟨by have := HA.out; have := HW.out; simp; omega⟩, ⟨by have := HF.out; have := HW.out; omega⟩, HO3, HI3, HB3⟩
        case measure =>
          have h1 := HP.out
          have h2 := HW.out
          simp only [World.iterPos, HI3.out] at h1 ⊢
          rw [h1]
          omega
    · have hnx : ∀ ty, (Instr.next (.pointer (some ⟨w.heap.size, 0, none⟩)) true ty).run Tryd.prog wr = _ := fun ty => Lib.run_next_end_at wr w.heap.size a0 pos ty HI.out hp
      go_wp2_with fail
      go_ret3
      have h1 := HH.out
      rw [scan_end a0 fuel pos hp] at h1
      simp only [runesC, runesR, Prod.mk.injEq, List.append_nil] at h1
      obtain ⟨rfl, rfl, rfl⟩ := h1
      exact ⟨_, rfl, Kd.R_mono HO.out (fun _ _ => trivial), HB.out⟩
end Go.Proofs.YtcaojgdnhmgmlaaDoor.Q
end

/- utf.Text, by hand: the text of runes, or which of them is none. -/
import Derived.Test.YtcaojgdnhmgmlaaDoorUtfDefs
import Derived.Test.YtcaojgdnhmgmlaaDoorShRune
import Derived.Lib.OthersKept
namespace Go.Proofs.YtcaojgdnhmgmlaaDoor.Q
open Go.RowKit Go.Sort Go.Proofs.YtcaojgdnhmgmlaaDoorW.PrintWords Go.Proofs.YtcaojgdnhmgmlaaDoorW.PrintLast Go.Proofs.YtcaojgdnhmgmlaaDoorW.PrintMore
set_option linter.unusedVariables false

def badAt : List Int → Nat → Option Nat
  | [], _ => none
  | r :: t, i => if Lib.validRune r = true then badAt t (i + 1) else some i
def textR (l : List Int) (o : Option Nat) : ByteArray × Int × Int := match o with
  | none => (⟨(encL l).toArray⟩, 0, 0)
  | some i => (⟨#[]⟩, (i : Int), 4)
def utf_Text.f (l0 : List Int) : Option (ByteArray × Int × Int) := if l0.length < 1000000 then some (textR l0 (badAt l0 0)) else none

theorem drop_rd (l : List Int) (k : Nat) (h : k < l.length) : l.drop k = rd l k :: l.drop (k + 1) := by
  rw [List.drop_eq_getElem_cons h]
  simp [rd, List.getD, h]
theorem take_rd (l : List Int) (k : Nat) (h : k < l.length) : l.take (k + 1) = l.take k ++ [rd l k] := by
  rw [List.take_succ_eq_append_getElem h]
  simp [rd, List.getD, h]
theorem encL_append (a b : List Int) : encL (a ++ b) = encL a ++ encL b := by simp [encL]
theorem encL_len : ∀ l : List Int, (encL l).length ≤ 4 * l.length
  | [] => by simp [encL]
  | r :: t => by
    have h := encL_len t
    have h2 := Lib.runeCells_le r
    rw [Lib.runeCells_length] at h2
    simp only [encL, List.flatMap_cons, List.length_append, List.length_cons] at h ⊢
    omega

set_option maxHeartbeats 4000000 in
set_option maxRecDepth 100000 in
theorem utf_Text.calls (A0 : Option Addr) (c0 : Nat) (l0 : List Int) (r1 : ByteArray) (r2 : Int) (r3 : Int) (w : World) (hr0 : Kd.C (Kd.int .i32) w A0 l0.length l0) (hc0 : l0.length ≤ c0) (h : utf_Text.f l0 = some (r1, r2, r3)) :
    Calls Tryd.prog 23 #[.slice A0 l0.length c0] w fun e w' => e = .returned (.tuple #[.string r1, .int .i64 r2, .int .i64 r3]) ∧ Below w.heap.size w w' := by
  unfold utf_Text.f at h
  split at h
  case isFalse => cases h
  rename_i hs
  have h := Option.some.inj h
  have HH := Aside0.mk h
  have HS := Aside0.mk hs
  have HR := Aside0.mk hr0
  have HC := Aside0.mk hc0
  clear h hs hr0 hc0
  go_enter Tryd.func23, Tryd.ntmps23
  go_wp2_with fail
  go_loopw [10] (fun v wr => ∃ k : Nat, v = .int .i64 (k : Int) ∧ k ≤ l0.length ∧ Aside0 (Lib.IsBuilderF 85 5 w.heap.size w.heap.size (Lib.byteCells (encL (l0.take k))) wr) ∧ Aside0 (badAt l0 0 = badAt (l0.drop k) k) ∧ Aside0 (Below w.heap.size w wr)) (fun v _ => ((l0.length : Int) - intOf v).toNat)
  case atStart => exact ⟨0, rfl, Nat.zero_le _, ⟨Lib.IsBuilderF.of (Lib.fresh_isBuilder 85 5 w)⟩, ⟨rfl⟩, ⟨below_alloc (Below.refl _ _) _⟩⟩
  case round =>
    clear h
    obtain ⟨k, rfl, hk, HI, HA, HB⟩ := hrel
    by_cases hlt : k < l0.length
    · have e1 : decide ((k : Int) < l0.length) = true := decide_eq_true (by omega)
      have p1 : (0 : Int) ≤ k := by omega
      have q1 : (k : Int) < l0.length := by omega
      obtain ⟨ad1, ea1, hx1⟩ := Kd.at_int (Kd.C_below HR.out HB.out) (k : Int) p1 q1
      cases ea1
      rw [Int.toNat_natCast] at hx1
      replace p1 := eq_true p1
      replace q1 := eq_true q1
      have HQ := Aside0.mk (drop_rd l0 k hlt)
      have HT := Aside0.mk (take_rd l0 k hlt)
      cases hv : Lib.validRune (rd l0 k)
      · go_wp2_with fail
        refine (Tryd.utf8_ValidRune _ wr).mono ?_
        rw [hv]
        rintro e w2 ⟨rfl, rfl⟩
        go_wp2_with fail
        go_ret3
        have h1 := HH.out
        rw [HA.out, HQ.out, badAt, if_neg (by rw [hv]; simp)] at h1
        simp only [textR, Prod.mk.injEq] at h1
        obtain ⟨rfl, rfl, rfl⟩ := h1
        exact ⟨rfl, HB.out⟩
      · go_wp2_with fail
        refine (Tryd.utf8_ValidRune _ wr).mono ?_
        rw [hv]
        rintro e w2 ⟨rfl, rfl⟩
        have HV := Aside0.mk (show 0 ≤ rd l0 k ∧ rd l0 k ≤ 1114111 by simp [Lib.validRune] at hv; omega)
        go_wp2_with fail
        refine (Tryd.Builder_WriteRune_k w.heap.size w.heap.size _ (rd l0 k) (by have := HV.out; omega) (by have := HV.out; omega) w2 HI.out (by rw [Lib.byteCells_length]; have h1 := encL_len (l0.take k); have h2 := HS.out; rw [List.length_take] at h1; omega) HB.out.size).mono ?_
        rintro e w3 ⟨rfl, h1, b1, k1⟩
        have HI2 := Aside0.mk h1
        have HB2 := Aside0.mk (HB.out.trans b1)
        clear h1 b1 k1
        go_wp2_with fail
        have hw64 : wrap64 ((k : Int) + 1) = k + 1 := by have := HS.out; unfold wrap64; omega
        go_roundw
        case rel => exact ⟨k + 1, by rw [hw64]; rfl, by omega, ⟨by rw [HT.out, encL_append, Lib.byteCells_append]; exact Or.inr (by simpa [encL, Lib.byteCells_encodeRune] using HI2.out)⟩, ⟨by rw [HA.out, HQ.out, badAt, if_pos hv]⟩, HB2⟩
        case measure => rw [hw64]; simp [intOf]; omega
    · obtain rfl : k = l0.length := by omega
      have e1 : decide ((l0.length : Int) < l0.length) = false := decide_eq_false (by omega)
      go_wp2_with fail
      refine (Tryd.Builder_String_any_k w.heap.size w.heap.size _ wr HI.out HB.out.size).mono ?_
      rintro e w2 ⟨rfl, _, b1, _⟩
      go_wp2_with fail
      go_ret3
      have h1 := HH.out
      rw [HA.out, List.drop_length] at h1
      simp only [badAt, textR, Prod.mk.injEq] at h1
      obtain ⟨rfl, rfl, rfl⟩ := h1
      exact ⟨rfl, HB.out.trans b1⟩
end Go.Proofs.YtcaojgdnhmgmlaaDoor.Q

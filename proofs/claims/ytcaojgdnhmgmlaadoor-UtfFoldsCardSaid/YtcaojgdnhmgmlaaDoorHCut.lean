/- utf.Cut, by hand: a text's first runes. -/
import Derived.Test.YtcaojgdnhmgmlaaDoorUtfValid
import Derived.Test.YtcaojgdnhmgmlaaDoorUtfFacts
import Derived.Test.YtcaojgdnhmgmlaaDoorShValid
import Derived.Lib.OthersKept
namespace Go.Proofs.YtcaojgdnhmgmlaaDoor.Q
open Go.RowKit Go.Sort Go.Proofs.YtcaojgdnhmgmlaaDoorW.PrintWords Go.Proofs.YtcaojgdnhmgmlaaDoorW.PrintLast Go.Proofs.YtcaojgdnhmgmlaaDoorW.PrintMore
set_option linter.unusedVariables false

def cutR (s : ByteArray) (n : Int) : ByteArray := if n < 1 then ⟨#[]⟩ else if (runesOf s).2.isNone = true then ⟨(encL ((runesOf s).1.take n.toNat)).toArray⟩ else ⟨#[]⟩
def utf_Cut.f (a0 : ByteArray) (a1 : Int) : Option (ByteArray) := if a0.size < 1000000 ∧ -9223372036854775808 ≤ a1 ∧ a1 ≤ 9223372036854775807 then some (cutR a0 a1) else none

theorem ba_ext (a b : ByteArray) (h : a.data.toList = b.data.toList) : a = b := by
  cases a; cases b; simp at h; simp [h]
theorem pre_list (s : ByteArray) (p : Nat) : (s.extract 0 p).data.toList = s.data.toList.take p := by
  cases s with
  | mk d => simp

set_option maxHeartbeats 4000000 in
set_option maxRecDepth 100000 in
theorem utf_Cut.calls (a0 : ByteArray) (a1 : Int) (r : ByteArray) (w : World) (hlaidU : LaidU w) (h : utf_Cut.f a0 a1 = some r) :
    Calls Tryd.prog 28 #[.string a0, .int .i64 a1] w fun e w' => e = .returned (.string r) ∧ Below w.heap.size w w' := by
  unfold utf_Cut.f at h
  split at h
  case isFalse => cases h
  rename_i hs
  have h := Option.some.inj h
  have HH := Aside0.mk h
  have HS := Aside0.mk hs
  have HV := Aside0.mk (Tryd.utf8_ValidString a0 w (by omega) hlaidU.tabs)
  have HN := Aside0.mk (valid_runes a0)
  clear h hs hlaidU
  by_cases h1 : a1 < 1
  · have e1 : decide (a1 < 1) = true := decide_eq_true h1
    have HR := HH.out
    rw [cutR, if_pos h1] at HR
    subst HR
    clear HH HS HV HN h1
    go_enter Tryd.func28, Tryd.ntmps28
    go_wp2_with fail
    go_ret
    exact ⟨rfl, Below.refl _ _⟩
  · have e1 : decide (a1 < 1) = false := decide_eq_false h1
    have HP := Aside0.mk (show 1 ≤ a1 by omega)
    have HR := Aside0.mk (show (if (runesOf a0).2.isNone = true then (⟨(encL ((runesOf a0).1.take a1.toNat)).toArray⟩ : ByteArray) else ⟨#[]⟩) = r by have := HH.out; rwa [cutR, if_neg h1] at this)
    clear HH h1
    go_enter Tryd.func28, Tryd.ntmps28
    go_wp2_with fail
    refine HV.out.mono ?_
    rw [HN.out]
    rintro e w1 ⟨rfl, hb1⟩
    have HB1 := Aside0.mk hb1
    clear hb1 HV HN
    cases hv : (runesOf a0).2.isNone
    · go_wp2_with fail
      go_ret
      have h1 := HR.out
      rw [hv, if_neg (by simp)] at h1
      subst h1
      exact ⟨rfl, HB1.out⟩
    · go_wp2_with fail
      have HR2 := HR.out
      rw [hv, if_pos rfl] at HR2
      clear HR h
      have HR := Aside0.mk HR2
      clear HR2
      go_loopw [1] (fun v wr => ∃ (pos fuel : Nat) (acc : List Int), v = .int .i64 (a1 - acc.length) ∧ wr = w1.iter a0 pos ∧ Aside0 ((runesOf a0).1 = acc ++ (scan a0 fuel pos).1) ∧ Aside0 ((scan a0 fuel pos).2.isNone = true) ∧ Aside0 (a0.size ≤ pos + fuel) ∧ Aside0 ((acc.length : Int) ≤ a1) ∧ Aside0 (encL acc = a0.data.toList.take pos) ∧ Aside0 (pos ≤ a0.size)) (fun _ wr => a0.size - wr.iterPos w1.heap.size)
      case atStart => exact ⟨0, a0.size, [], by simp, rfl, ⟨by simp [runesOf]⟩, ⟨hv⟩, ⟨by omega⟩, ⟨by have := HP.out; simp; omega⟩, ⟨by simp [encL]⟩, ⟨Nat.zero_le _⟩⟩
      case round =>
        clear hv
        obtain ⟨pos, fuel, acc, rfl, rfl, HL, HN, HF, HK, HE, HZ⟩ := hrel
        by_cases hp : pos < a0.size
        · have hnx : ∀ ty, (Instr.next (.pointer (some ⟨w1.heap.size, 0, none⟩)) true ty).run Tryd.prog (w1.iter a0 pos) = _ := fun ty => run_next_any w1 a0 pos ty hp
          have HW := Aside0.mk (wid_pos a0 pos)
          obtain ⟨c, n, hd⟩ : ∃ c n, Utf8.decode a0 pos = (c, n) := ⟨_, _, rfl⟩
          simp only [hd] at hnx HW
          obtain ⟨f, rfl⟩ : ∃ f, fuel = f + 1 := ⟨fuel - 1, by have := HF.out; omega⟩
          have hb : brk a0 pos = false := by
            cases hb : brk a0 pos
            · rfl
            · have := HN.out
              rw [scan_brk a0 f pos hp hb] at this
              cases this
          have HC := Aside0.mk (scan_next a0 f pos hp hb)
          rw [hd] at HC
          have HD := Aside0.mk (dec_ok a0 pos c n hp hd hb)
          have hpos : (w1.iter a0 pos).iterPos w1.heap.size = pos := World.iterPos_iter ..
          rw [hpos]
          have HHP := Aside0.mk hp
          clear hpos hb hd
          by_cases h0 : a1 - acc.length = 0
          · have e2 : (a1 - acc.length == 0) = true := beq_iff_eq.mpr h0
            have q0 : (0 : Int) ≤ pos := by omega
            have q1 : (pos : Int) ≤ a0.size := by omega
            have q2 : decide ((pos : Int) ≤ a0.size) = true := decide_eq_true q1
            go_wp2_with fail
            go_ret
            refine ⟨?_, below_alloc HB1.out _⟩
            have h1 := HR.out
            rw [HL.out, show a1.toNat = acc.length by omega, List.take_left, HE.out] at h1
            rw [← h1]
            exact congrArg (fun x => Ending.returned (Value.string x)) (ba_ext _ _ (by rw [pre_list]))
          · have e2 : (a1 - acc.length == 0) = false := beq_eq_false_iff_ne.mpr h0
            have hw64 : wrap64 (a1 - acc.length - 1) = a1 - (acc ++ [(c : Int)]).length := by have := HS.out; have := HK.out; have := HP.out; rw [List.length_append]; unfold wrap64; simp; omega
            go_wp2_with fail
            go_roundw
            case rel =>
              refine ⟨pos + n, f, acc ++ [(c : Int)], by rw [hw64], rfl, ⟨by rw [HL.out, HC.out]; simp⟩, ⟨by have := HN.out; rw [HC.out] at this; exact this⟩, ⟨by have := HF.out; have := HW.out; omega⟩, ⟨by have := HK.out; simp; omega⟩, ⟨?_⟩, ⟨HD.out.1⟩⟩
              have hsz : a0.data.toList.length = a0.size := by cases a0; simp [ByteArray.size]
              rw [List.take_add, HD.out.2.2, ← HE.out]
              simp [encL]
            case measure =>
              have h2 := HW.out
              have h3 := HHP.out
              rw [World.iterPos_iter]
              omega
        · have hnx : ∀ ty, (Instr.next (.pointer (some ⟨w1.heap.size, 0, none⟩)) true ty).run Tryd.prog (w1.iter a0 pos) = _ := fun ty => run_next_end w1 a0 pos ty hp
          have HHP := Aside0.mk hp
          go_wp2_with fail
          go_ret
          refine ⟨?_, below_alloc HB1.out _⟩
          have hsz : a0.data.toList.length = a0.size := by cases a0; simp [ByteArray.size]
          have h1 := HR.out
          rw [HL.out, scan_end a0 fuel pos hp, List.append_nil, List.take_of_length_le (by have := HK.out; omega), HE.out, List.take_of_length_le (by omega)] at h1
          rw [← h1]
          rfl
end Go.Proofs.YtcaojgdnhmgmlaaDoor.Q

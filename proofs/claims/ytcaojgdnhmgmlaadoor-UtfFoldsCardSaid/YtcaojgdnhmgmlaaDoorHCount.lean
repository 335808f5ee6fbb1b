/- utf.Count, by hand: how many runes a text has; -1 where it is none. -/
import Derived.Test.YtcaojgdnhmgmlaaDoorUtfValid
import Derived.Test.YtcaojgdnhmgmlaaDoorShValid
import Derived.Lib.OthersKept
namespace Go.Proofs.YtcaojgdnhmgmlaaDoor.Q
open Go.RowKit Go.Sort Go.Proofs.YtcaojgdnhmgmlaaDoorW.PrintWords Go.Proofs.YtcaojgdnhmgmlaaDoorW.PrintLast Go.Proofs.YtcaojgdnhmgmlaaDoorW.PrintMore
set_option linter.unusedVariables false

def utf_Count.f (a0 : ByteArray) : Option (Int) := if a0.size < 1000000 then some (if (runesOf a0).2.isNone = true then ((runesOf a0).1.length : Int) else -1) else none

set_option maxHeartbeats 4000000 in
set_option maxRecDepth 100000 in
theorem utf_Count.calls (a0 : ByteArray) (r : Int) (w : World) (hlaidU : LaidU w) (h : utf_Count.f a0 = some r) :
    Calls Tryd.prog 26 #[.string a0] w fun e w' => e = .returned (.int .i64 r) ∧ Below w.heap.size w w' := by
  unfold utf_Count.f at h
  split at h
  case isFalse => cases h
  rename_i hs
  have h := Option.some.inj h
  have HH := Aside0.mk h
  have HS := Aside0.mk hs
  have HV := Aside0.mk (Tryd.utf8_ValidString a0 w (by omega) hlaidU.tabs)
  have HN := Aside0.mk (valid_runes a0)
  clear h hs hlaidU
  go_enter Tryd.func26, Tryd.ntmps26
  go_wp2_with fail
  refine HV.out.mono ?_
  rw [HN.out]
  rintro e w1 ⟨rfl, hb1⟩
  have HB1 := Aside0.mk hb1
  clear hb1 HV HN
  cases hv : (runesOf a0).2.isNone
  · go_wp2_with fail
    go_ret
    have h1 := HH.out
    rw [hv, if_neg (by simp)] at h1
    subst h1
    exact ⟨rfl, HB1.out⟩
  · go_wp2_with fail
    have h1 := HH.out
    rw [hv, if_pos rfl] at h1
    clear HH h
    have HR := Aside0.mk h1
    clear h1
    go_loopw [2] (fun v wr => ∃ (pos fuel k : Nat), v = .int .i64 (k : Int) ∧ wr = w1.iter a0 pos ∧ Aside0 ((runesOf a0).1.length = k + (scan a0 fuel pos).1.length) ∧ Aside0 ((scan a0 fuel pos).2.isNone = true) ∧ Aside0 (a0.size ≤ pos + fuel) ∧ Aside0 (k ≤ pos)) (fun _ wr => a0.size - wr.iterPos w1.heap.size)
    case atStart => exact ⟨0, a0.size, 0, rfl, rfl, ⟨by simp [runesOf]⟩, ⟨hv⟩, ⟨by omega⟩, ⟨Nat.le_refl _⟩⟩
    case round =>
      clear hv
      obtain ⟨pos, fuel, k, rfl, rfl, HL, HN, HF, HK⟩ := hrel
      by_cases hp : pos < a0.size
      · have hnx : ∀ ty, (Instr.next (.pointer (some ⟨w1.heap.size, 0, none⟩)) true ty).run Tryd.prog (w1.iter a0 pos) = _ := fun ty => run_next_any w1 a0 pos ty hp
        have HW := Aside0.mk (wid_pos a0 pos)
        obtain ⟨c, n, hd⟩ : ∃ c n, Utf8.decode a0 pos = (c, n) := ⟨_, _, rfl⟩
        simp only [hd] at hnx HW
        obtain ⟨f, rfl⟩ : ∃ f, fuel = f + 1 := ⟨fuel - 1, by have := HF.out; omega⟩
        have hb : brk a0 pos = false := by
          cases hb : brk a0 pos
          · rfl
          · have := HN.out
            rw [scan_brk a0 f pos hp hb] at this
            cases this
        have HC := Aside0.mk (scan_next a0 f pos hp hb)
        rw [hd] at HC
        have hw64 : wrap64 ((k : Int) + 1) = k + 1 := by have := HS.out; have := HK.out; unfold wrap64; omega
        have hpos : (w1.iter a0 pos).iterPos w1.heap.size = pos := World.iterPos_iter ..
        rw [hpos]
        clear hpos hb hd
        go_wp2_with fail
        go_roundw
        case rel => exact ⟨pos + n, f, k + 1, by rw [hw64]; rfl, rfl, ⟨by rw [HL.out, HC.out]; simp; omega⟩, ⟨by have := HN.out; rw [HC.out] at this; exact this⟩, ⟨by have := HF.out; have := HW.out; omega⟩, ⟨by have := HK.out; have := HW.out; omega⟩⟩
        case measure =>
          have h2 := HW.out
          rw [World.iterPos_iter]
          omega
      · have hnx : ∀ ty, (Instr.next (.pointer (some ⟨w1.heap.size, 0, none⟩)) true ty).run Tryd.prog (w1.iter a0 pos) = _ := fun ty => run_next_end w1 a0 pos ty hp
        go_wp2_with fail
        go_ret
        have h1 := HL.out
        rw [scan_end a0 fuel pos hp] at h1
        have h2 := HR.out
        rw [h1] at h2
        subst h2
        exact ⟨rfl, below_alloc HB1.out _⟩
end Go.Proofs.YtcaojgdnhmgmlaaDoor.Q

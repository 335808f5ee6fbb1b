/- utf.Runes, by hand: the runes of a text, or where it has none. -/
import Derived.Test.YtcaojgdnhmgmlaaDoorUtfDefs
import Derived.Test.YtcaojgdnhmgmlaaDoorShDec
import Derived.Lib.OthersKept
namespace Go.Proofs.YtcaojgdnhmgmlaaDoor.Q
open Go.RowKit Go.Sort Go.Proofs.YtcaojgdnhmgmlaaDoorW.PrintWords Go.Proofs.YtcaojgdnhmgmlaaDoorW.PrintLast Go.Proofs.YtcaojgdnhmgmlaaDoorW.PrintMore
set_option linter.unusedVariables false

def runesR (q : List Int × Option Nat) : List Int × Int × Int := match q.2 with
  | none => (q.1, 0, 0)
  | some p => ([], (p : Int), 4)
def utf_Runes.f (a0 : ByteArray) : Option (List Int × Int × Int) := if a0.size < 1000000 then some (runesR (runesOf a0)) else none

/-- The runes from p on, behind those that were read. -/
def runesC (acc : List Int) (q : List Int × Option Nat) : List Int × Int × Int := runesR (acc ++ q.1, q.2)

set_option maxHeartbeats 4000000 in
set_option maxRecDepth 100000 in
theorem utf_Runes.calls (a0 : ByteArray) (r1 : List Int) (r2 : Int) (r3 : Int) (w : World) (hlaidU : LaidU w) (h : utf_Runes.f a0 = some (r1, r2, r3)) :
    Calls Tryd.prog 21 #[.string a0] w fun e w' => ∃ v0_ : Value, e = .returned (.tuple #[v0_, .int .i64 r2, .int .i64 r3]) ∧ Kd.R (Kd.int .i32) 21 w' w.heap.size (fun _ => True) v0_ r1 ∧ Below w.heap.size w w' := by
  unfold utf_Runes.f at h
  split at h
  case isFalse => cases h
  rename_i hs
  have h := Option.some.inj h
  have HH : Aside0 (runesC [] (scan a0 a0.size 0) = (r1, r2, r3)) := ⟨h⟩
  have HS := Aside0.mk hs
  have HL := Aside0.mk hlaidU
  clear h hs hlaidU
  go_enter Tryd.func21, Tryd.ntmps21
  go_wp2_with fail
  go_loopw [2] (fun v wr => ∃ (pos fuel : Nat) (acc : List Int), Aside0 (runesC acc (scan a0 fuel pos) = (r1, r2, r3)) ∧ Aside0 (acc.length ≤ pos) ∧ Aside0 (a0.size ≤ pos + fuel) ∧ Aside0 (Kd.R (Kd.int .i32) 21 wr w.heap.size (fun k => k ≠ w.heap.size) v acc) ∧ Aside0 (wr.heap[w.heap.size]? = some (.stringIter a0 pos)) ∧ Aside0 (Below w.heap.size w wr)) (fun _ wr => a0.size - wr.iterPos w.heap.size)
  case atStart => exact ⟨0, a0.size, [], HH, ⟨by simp⟩, ⟨by omega⟩, ⟨Kd.R_nil _ _ _ _ _⟩, ⟨World.iter_heap w a0 0⟩, ⟨below_alloc (Below.refl _ _) _⟩⟩
  case round =>
    clear HH
    obtain ⟨pos, fuel, acc, HH, HA, HF, HO, HI, HB⟩ := hrel
    by_cases hp : pos < a0.size
    · have hnx : ∀ ty, (Instr.next (.pointer (some ⟨w.heap.size, 0, none⟩)) true ty).run Tryd.prog wr = _ := fun ty => Lib.run_next_any_at wr w.heap.size a0 pos ty HI.out hp
      have HW := Aside0.mk (wid_pos a0 pos)
      have hpos : wr.iterPos w.heap.size = pos := by simp only [World.iterPos, HI.out]
      obtain ⟨c, n, hd⟩ : ∃ c n, Utf8.decode a0 pos = (c, n) := ⟨_, _, rfl⟩
      have hbk : brk a0 pos = (decide (c = 65533) && decide (n < 2)) := by simp [brk, hd]
      have hde := dec_ext a0 pos hp
      rw [hd] at hde
      simp only [hd] at hnx HW
      have HI2 := Aside0.mk (Lib.iterAt_heap wr w.heap.size a0 pos (pos + n) HI.out)
      have HB2 := Aside0.mk (Lib.below_iterAt HB.out (k := w.heap.size) (Nat.le_refl _) a0 (pos + n))
      have HO2 := Aside0.mk (Kd.R_step HO.out (w1 := wr.iterAt w.heap.size a0 (pos + n)) (fun k ho _ => Lib.iterAt_other wr w.heap.size k a0 _ ho))
      have hlt : w.heap.size < wr.heap.size := (Array.getElem?_eq_some_iff.1 HI.out).1
      have HZ := Aside0.mk (show w.heap.size < (wr.iterAt w.heap.size a0 (pos + n)).heap.size by rw [Lib.iterAt_size]; exact hlt)
      clear hlt HO HB HI
      obtain ⟨f, rfl⟩ : ∃ f, fuel = f + 1 := ⟨fuel - 1, by have := HF.out; omega⟩
      have HP := Aside0.mk hpos
      clear hpos h
      generalize hW1 : wr.iterAt w.heap.size a0 (pos + n) = W1 at hnx HI2 HB2 HO2 HZ
      clear hW1
      have HL2 := Aside0.mk (show acc.length < 1000000 by have := HA.out; have := HS.out; omega)
      by_cases he : c = 65533
      · have hed : ((c : Int) == 65533) = true := by rw [he]; rfl
        have he0 : (0 : Int) ≤ pos := by omega
        have he1 : decide ((pos : Int) ≤ a0.size) = true := decide_eq_true (by omega)
        go_wp2_with fail
        refine (Tryd.utf8_DecodeRuneInString _ W1 (LaidU.below HL.out HB2.out).tabs).mono ?_
        rw [hde]
        rintro e w2 ⟨rfl, hb2⟩
        replace HI2 := Aside0.mk ((hb2.block w.heap.size HZ.out).trans HI2.out)
        replace HO2 := Aside0.mk (Kd.R_below HO2.out hb2)
        replace HB2 := Aside0.mk (below_step HB2.out hb2)
        replace HZ := Aside0.mk (show w.heap.size < w2.heap.size by have := HZ.out; have := hb2.size; omega)
        clear hb2
        by_cases hn2 : n < 2
        · have hne : decide ((n : Int) < 2) = true := decide_eq_true (by omega)
          have hbt : brk a0 pos = true := by rw [hbk, decide_eq_true he, decide_eq_true hn2]; rfl
          go_wp2_with fail
          go_ret3
          have h1 := HH.out
          rw [scan_brk a0 f pos hp hbt] at h1
          simp only [runesC, runesR, Prod.mk.injEq] at h1
          obtain ⟨rfl, rfl, rfl⟩ := h1
          exact ⟨_, rfl, Kd.R_nil _ _ _ _ _, HB2.out⟩
        · have hne : decide ((n : Int) < 2) = false := decide_eq_false (by omega)
          have hbf : brk a0 pos = false := by rw [hbk, decide_eq_false hn2]; simp
          subst he
          go_wp2_with (first | ((with_reducible refine gate_builtin (b := .append) (xs := #[.tmp 27, .tmp 29]) rfl ?_); at_builtin; refine Kd.R_append (Kd.int .i32) (w0 := w) w.heap.size rfl (.tmp 27) (.tmp 29) 34 21 (.int .i32 0) 4 rfl Tryd.underlying34 info21 rfl (by decide) (by omega) u2 acc (65533 : Int) [.int .i32 65533] (fun k => k ≠ w.heap.size) (fun _ => False) rfl rfl rfl (fun _ hk => hk.elim) (fun k hk => by have := HZ.out; omega) HO2.out HB2.out HB2.out.size (by have := HL2.out; omega) ?_; intro v1 w1 ho hb hg hat; have HI3 := Aside0.mk ((hg.block w.heap.size HZ.out (fun e => HO2.out.1 _ e.symm rfl)).trans HI2.out); clear hg hat; have HO3 := Aside0.mk ho; have HB3 := Aside0.mk hb; clear ho hb HO2 HB2))
          go_roundw
          case rel => exact ⟨pos + n, f, acc ++ [(65533 : Int)], ⟨by rw [← HH.out, scan_next a0 f pos hp hbf, hd]; simp [runesC]⟩, ⟨by have := HA.out; have := HW.out; simp; omega⟩, ⟨by have := HF.out; have := HW.out; omega⟩, HO3, HI3, HB3⟩
          case measure =>
            have h1 := HP.out
            have h2 := HW.out
            simp only [World.iterPos, HI3.out] at h1 ⊢
            rw [h1]
            omega
      · have hed : ((c : Int) == 65533) = false := beq_eq_false_iff_ne.mpr (by omega)
        have hbf : brk a0 pos = false := by rw [hbk]; simp [he]
        go_wp2_with (first | ((with_reducible refine gate_builtin (b := .append) (xs := #[.tmp 27, .tmp 29]) rfl ?_); at_builtin; refine Kd.R_append (Kd.int .i32) (w0 := w) w.heap.size rfl (.tmp 27) (.tmp 29) 34 21 (.int .i32 0) 4 rfl Tryd.underlying34 info21 rfl (by decide) (by omega) u2 acc (c : Int) [.int .i32 c] (fun k => k ≠ w.heap.size) (fun _ => False) rfl rfl rfl (fun _ hk => hk.elim) (fun k hk => by have := HZ.out; omega) HO2.out HB2.out HB2.out.size (by have := HL2.out; omega) ?_; intro v1 w1 ho hb hg hat; have HI3 := Aside0.mk ((hg.block w.heap.size HZ.out (fun e => HO2.out.1 _ e.symm rfl)).trans HI2.out); clear hg hat; have HO3 := Aside0.mk ho; have HB3 := Aside0.mk hb; clear ho hb HO2 HB2))
        go_roundw
        case rel => exact ⟨pos + n, f, acc ++ [(c : Int)], ⟨by rw [← HH.out, scan_next a0 f pos hp hbf, hd]; simp [runesC]⟩, ⟨by have := HA.out; have := HW.out; simp; omega⟩, ⟨by have := HF.out; have := HW.out; omega⟩, HO3, HI3, HB3⟩
        case measure =>
          have h1 := HP.out
          have h2 := HW.out
          simp only [World.iterPos, HI3.out] at h1 ⊢
          rw [h1]
          omega
    · have hnx : ∀ ty, (Instr.next (.pointer (some ⟨w.heap.size, 0, none⟩)) true ty).run Tryd.prog wr = _ := fun ty => Lib.run_next_end_at wr w.heap.size a0 pos ty HI.out hp
      go_wp2_with fail
      go_ret3
      have h1 := HH.out
      rw [scan_end a0 fuel pos hp] at h1
      simp only [runesC, runesR, Prod.mk.injEq, List.append_nil] at h1
      obtain ⟨rfl, rfl, rfl⟩ := h1
      exact ⟨_, rfl, Kd.R_mono HO.out (fun _ _ => trivial), HB.out⟩
end Go.Proofs.YtcaojgdnhmgmlaaDoor.Q

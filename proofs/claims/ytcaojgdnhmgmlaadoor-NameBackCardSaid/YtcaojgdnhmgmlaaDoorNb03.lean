import Derived.Test.YtcaojgdnhmgmlaaDoorNb01
import Derived.Test.YtcaojgdnhmgmlaaDoorNb02
import Derived.Lib.OthersKept
import Derived.Lib.Bytealg
import Derived.RangeFuncNested
import Derived.RangeFuncBound
import Derived.RangeFuncCalls
import Derived.RangeFuncLeaves
import Derived.Shelf.Abstract
import Derived.Shelf.RegionOpen
import Derived.WalkKit
import Derived.OwnWalkIn
import Derived.TacticsInMore
import Derived.LoopNIn
import Derived.LoopIn
section
/- Functions of the seat as plain Lean functions, and that the calls do what these say; conditions stand in each theorem. (Written by a program of this seat's prover, by the kit's printer; Lean checks it.) -/
namespace Go.Proofs.YtcaojgdnhmgmlaaDoor.Q
open Go.RowKit Go.Proofs.YtcaojgdnhmgmlaaDoorW.PrintWords Go.Proofs.YtcaojgdnhmgmlaaDoorW.PrintLast Go.Proofs.YtcaojgdnhmgmlaaDoorW.PrintMore
attribute [local go_sem] max2_int min2_int max_two min_two max_three min_three max_four min_four   -- for this text's walks alone
set_option linter.unusedVariables false
set_option linter.unusedSimpArgs false

/-! ### utf_Letter: function 32 -/
def utf_Letter.f (a0 : Int) : Option (Bool) := (utf_Upper.f a0).bind fun t259 => (if t259 = true then (some true) else (if a0 = 247 then (some false) else (if 97 ≤ a0 then (if a0 ≤ 122 then (some true) else (if 223 ≤ a0 then (some (decide (a0 ≤ 255))) else (some false))) else (if 223 ≤ a0 then (some (decide (a0 ≤ 255))) else (some false)))))
set_option maxHeartbeats 8000000 in
set_option maxRecDepth 100000 in
theorem utf_Letter.calls (a0 : Int) (r : Bool) (w : World) (h : utf_Letter.f a0 = some r) :
    Calls Tryd.prog 32 #[.int .i32 a0] w fun e w' => e = .returned (.bool r) ∧ Drawn0 w w' := by
  have H : ((utf_Upper.f a0).bind fun t259 => (if t259 = true then (some true) else (if a0 = 247 then (some false) else (if 97 ≤ a0 then (if a0 ≤ 122 then (some true) else (if 223 ≤ a0 then (some (decide (a0 ≤ 255))) else (some false))) else (if 223 ≤ a0 then (some (decide (a0 ≤ 255))) else (some false)))))) = some r := h
  clear h
  replace H := Option.bind_eq_some_iff.mp H
  obtain ⟨t259, A20, H⟩ := H
  replace H : (if t259 = true then (some true) else (if a0 = 247 then (some false) else (if 97 ≤ a0 then (if a0 ≤ 122 then (some true) else (if 223 ≤ a0 then (some (decide (a0 ≤ 255))) else (some false))) else (if 223 ≤ a0 then (some (decide (a0 ≤ 255))) else (some false))))) = some r := H
  have A2 := Aside0.mk A20
  clear A20
  by_cases c3 : t259 = true
  · subst c3
    have H1 : (some true) = some r := by rw [if_pos rfl] at H; exact H
    clear H
    have H := H1
    clear H1
    obtain rfl := Option.some.inj H
    go_enter Tryd.func32, Tryd.ntmps32
    go_wp2_with (first | ((with_reducible refine gate_callee (f := 34) rfl ?_); refine goesL_ (some 5) rfl rfl Tryd.func34 (by kernel_rfl) rfl #[.int .i32 a0] rfl (by (try simp only [List.map_toArray, List.map_cons, List.map_nil]); first | done | rfl | (simp only [List.length_drop, List.length_take]; rfl)) ?_; (with_reducible refine (utf_Upper.calls a0 true _ A2.out).mono ?_); rintro e w' ⟨rfl, ⟨nd, rfl⟩⟩; refine ⟨_, rfl, ?_⟩))
    go_ret
    exact ⟨by first | rfl | (simp; done) | (simp [*]; done), by repeat (first | exact Drawn0.refl _ | apply Drawn0.step)⟩
  · replace c3 := Bool.eq_false_iff.mpr c3
    subst c3
    have H1 : (if a0 = 247 then (some false) else (if 97 ≤ a0 then (if a0 ≤ 122 then (some true) else (if 223 ≤ a0 then (some (decide (a0 ≤ 255))) else (some false))) else (if 223 ≤ a0 then (some (decide (a0 ≤ 255))) else (some false)))) = some r := by rw [if_neg (show ¬ (false = true) by decide)] at H; exact H
    clear H
    have H := H1
    clear H1
    by_cases c4 : a0 = 247
    · rw [if_pos c4] at H
      have c4b0 : (a0 == 247) = true := beq_iff_eq.mpr c4
      have c4b1 : (a0 != 247) = false := bne_eq_false_iff_eq.mpr c4
      clear c4
      obtain rfl := Option.some.inj H
      go_enter Tryd.func32, Tryd.ntmps32
      go_wp2_with (first | ((with_reducible refine gate_callee (f := 34) rfl ?_); refine goesL_ (some 5) rfl rfl Tryd.func34 (by kernel_rfl) rfl #[.int .i32 a0] rfl (by (try simp only [List.map_toArray, List.map_cons, List.map_nil]); first | done | rfl | (simp only [List.length_drop, List.length_take]; rfl)) ?_; (with_reducible refine (utf_Upper.calls a0 false _ A2.out).mono ?_); rintro e w' ⟨rfl, ⟨nd, rfl⟩⟩; refine ⟨_, rfl, ?_⟩))
      go_ret
      exact ⟨by first | rfl | (simp; done) | (simp [*]; done), by repeat (first | exact Drawn0.refl _ | apply Drawn0.step)⟩
    · rw [if_neg c4] at H
      have c4b0 : (a0 == 247) = false := beq_eq_false_iff_ne.mpr c4
      have c4b1 : (a0 != 247) = true := bne_iff_ne.mpr c4
      by_cases c5 : 97 ≤ a0
      · rw [if_pos c5] at H
        have c5b0 : decide (97 ≤ a0) = true := decide_eq_true c5
        clear c5
        by_cases c6 : a0 ≤ 122
        · rw [if_pos c6] at H
          have c6b0 : decide (a0 ≤ 122) = true := decide_eq_true c6
          clear c6
          obtain rfl := Option.some.inj H
          go_enter Tryd.func32, Tryd.ntmps32
          go_wp2_with (first | ((with_reducible refine gate_callee (f := 34) rfl ?_); refine goesL_ (some 5) rfl rfl Tryd.func34 (by kernel_rfl) rfl #[.int .i32 a0] rfl (by (try simp only [List.map_toArray, List.map_cons, List.map_nil]); first | done | rfl | (simp only [List.length_drop, List.length_take]; rfl)) ?_; (with_reducible refine (utf_Upper.calls a0 false _ A2.out).mono ?_); rintro e w' ⟨rfl, ⟨nd, rfl⟩⟩; refine ⟨_, rfl, ?_⟩))
          go_ret
          exact ⟨by first | rfl | (simp; done) | (simp [*]; done), by repeat (first | exact Drawn0.refl _ | apply Drawn0.step)⟩
        · rw [if_neg c6] at H
          have c6b0 : decide (a0 ≤ 122) = false := decide_eq_false c6
          clear c6
          by_cases c7 : 223 ≤ a0
          · rw [if_pos c7] at H
            have c7b0 : decide (223 ≤ a0) = true := decide_eq_true c7
            clear c7
            obtain rfl := Option.some.inj H
            go_enter Tryd.func32, Tryd.ntmps32
            go_wp2_with (first | ((with_reducible refine gate_callee (f := 34) rfl ?_); refine goesL_ (some 5) rfl rfl Tryd.func34 (by kernel_rfl) rfl #[.int .i32 a0] rfl (by (try simp only [List.map_toArray, List.map_cons, List.map_nil]); first | done | rfl | (simp only [List.length_drop, List.length_take]; rfl)) ?_; (with_reducible refine (utf_Upper.calls a0 false _ A2.out).mono ?_); rintro e w' ⟨rfl, ⟨nd, rfl⟩⟩; refine ⟨_, rfl, ?_⟩))
            go_ret
            exact ⟨by first | rfl | (simp; done) | (simp [*]; done), by repeat (first | exact Drawn0.refl _ | apply Drawn0.step)⟩
          · rw [if_neg c7] at H
            have c7b0 : decide (223 ≤ a0) = false := decide_eq_false c7
            clear c7
            obtain rfl := Option.some.inj H
            go_enter Tryd.func32, Tryd.ntmps32
            go_wp2_with (first | ((with_reducible refine gate_callee (f := 34) rfl ?_); refine goesL_ (some 5) rfl rfl Tryd.func34 (by kernel_rfl) rfl #[.int .i32 a0] rfl (by (try simp only [List.map_toArray, List.map_cons, List.map_nil]); first | done | rfl | (simp only [List.length_drop, List.length_take]; rfl)) ?_; (with_reducible refine (utf_Upper.calls a0 false _ A2.out).mono ?_); rintro e w' ⟨rfl, ⟨nd, rfl⟩⟩; refine ⟨_, rfl, ?_⟩))
            go_ret
            exact ⟨by first | rfl | (simp; done) | (simp [*]; done), by repeat (first | exact Drawn0.refl _ | apply Drawn0.step)⟩
      · rw [if_neg c5] at H
        have c5b0 : decide (97 ≤ a0) = false := decide_eq_false c5
        clear c5
        by_cases c8 : 223 ≤ a0
        · rw [if_pos c8] at H
          have c8b0 : decide (223 ≤ a0) = true := decide_eq_true c8
          clear c8
          obtain rfl := Option.some.inj H
          go_enter Tryd.func32, Tryd.ntmps32
          go_wp2_with (first | ((with_reducible refine gate_callee (f := 34) rfl ?_); refine goesL_ (some 5) rfl rfl Tryd.func34 (by kernel_rfl) rfl #[.int .i32 a0] rfl (by (try simp only [List.map_toArray, List.map_cons, List.map_nil]); first | done | rfl | (simp only [List.length_drop, List.length_take]; rfl)) ?_; (with_reducible refine (utf_Upper.calls a0 false _ A2.out).mono ?_); rintro e w' ⟨rfl, ⟨nd, rfl⟩⟩; refine ⟨_, rfl, ?_⟩))
          go_ret
          exact ⟨by first | rfl | (simp; done) | (simp [*]; done), by repeat (first | exact Drawn0.refl _ | apply Drawn0.step)⟩
        · rw [if_neg c8] at H
          have c8b0 : decide (223 ≤ a0) = false := decide_eq_false c8
          clear c8
          obtain rfl := Option.some.inj H
          go_enter Tryd.func32, Tryd.ntmps32
          go_wp2_with (first | ((with_reducible refine gate_callee (f := 34) rfl ?_); refine goesL_ (some 5) rfl rfl Tryd.func34 (by kernel_rfl) rfl #[.int .i32 a0] rfl (by (try simp only [List.map_toArray, List.map_cons, List.map_nil]); first | done | rfl | (simp only [List.length_drop, List.length_take]; rfl)) ?_; (with_reducible refine (utf_Upper.calls a0 false _ A2.out).mono ?_); rintro e w' ⟨rfl, ⟨nd, rfl⟩⟩; refine ⟨_, rfl, ?_⟩))
          go_ret
          exact ⟨by first | rfl | (simp; done) | (simp [*]; done), by repeat (first | exact Drawn0.refl _ | apply Drawn0.step)⟩

end Go.Proofs.YtcaojgdnhmgmlaaDoor.Q
end
section
/- name.small and name.Part, by hand: which runes are small, which texts are parts. -/
namespace Go.Proofs.YtcaojgdnhmgmlaaDoor.Q
open Go.RowKit Go.Sort Go.Proofs.YtcaojgdnhmgmlaaDoorW.PrintWords Go.Proofs.YtcaojgdnhmgmlaaDoorW.PrintLast Go.Proofs.YtcaojgdnhmgmlaaDoorW.PrintMore
set_option linter.unusedVariables false
set_option linter.unusedSimpArgs false

/-- Is a rune a letter? -/
def ltr (r : Int) : Bool := upr r || (decide (r ≠ 247) && (decide (97 ≤ r ∧ r ≤ 122) || decide (223 ≤ r ∧ r ≤ 255)))
/-- Is it small: a digit, or a letter that is not great? -/
def smallR (r : Int) : Bool := decide (48 ≤ r ∧ r ≤ 57) || (ltr r && !upr r)
theorem letter_eq1 (a : Int) : utf_Letter.f a = some (ltr a) := by
  unfold utf_Letter.f ltr
  rw [upper_eq, Option.bind_some]
  cases hu : upr a
  · by_cases h0 : a = 247
    · subst h0; simp
    · by_cases h1 : 97 ≤ a <;> by_cases h2 : a ≤ 122 <;> by_cases h3 : 223 ≤ a <;> by_cases h4 : a ≤ 255 <;> simp [h0, h1, h2, h3, h4]
  · simp
theorem small_eq (a : Int) (w : World) : Calls Tryd.prog 95 #[.int .i32 a] w fun e w' => e = .returned (.bool (smallR a)) ∧ Drawn0 w w' := by
  have HU := Aside0.mk (fun w => utf_Upper.calls a (upr a) w (upper_eq a))
  have HL := Aside0.mk (fun w => utf_Letter.calls a (ltr a) w (letter_eq1 a))
  by_cases hd : 48 ≤ a ∧ a ≤ 57
  · have e1 : decide ((48 : Int) ≤ a) = true := decide_eq_true hd.1
    have e2 : decide (a ≤ 57) = true := decide_eq_true hd.2
    have hs : smallR a = true := by simp [smallR, hd]
    rw [hs]
    clear hs hd
    go_enter Tryd.func95, Tryd.ntmps95
    go_wp2_with fail
    go_ret
    exact ⟨rfl, Drawn0.refl _⟩
  · have hs : smallR a = (ltr a && !upr a) := by simp [smallR, hd]
    rw [hs]
    have hcase : decide ((48 : Int) ≤ a) = false ∨ (decide ((48 : Int) ≤ a) = true ∧ decide (a ≤ 57) = false) := by
      by_cases h1 : 48 ≤ a
      · exact .inr ⟨decide_eq_true h1, decide_eq_false (fun h2 => hd ⟨h1, h2⟩)⟩
      · exact .inl (decide_eq_false h1)
    clear hs hd
    rcases hcase with e1 | ⟨e1, e2⟩
    all_goals
      cases hl : ltr a
      · go_enter Tryd.func95, Tryd.ntmps95
        go_wp2_with fail
        refine (HL.out _).mono ?_
        rw [hl]
        rintro e w1 ⟨rfl, hb⟩
        go_wp2_with fail
        go_ret
        exact ⟨rfl, hb⟩
      · cases hu : upr a
        all_goals
          go_enter Tryd.func95, Tryd.ntmps95
          go_wp2_with fail
          refine (HL.out _).mono ?_
          rw [hl]
          rintro e w1 ⟨rfl, hb⟩
          obtain ⟨n1, rfl⟩ := hb.out
          go_wp2_with fail
          refine (HU.out _).mono ?_
          rw [hu]
          rintro e w2 ⟨rfl, hb⟩
          go_wp2_with fail
          go_ret
          obtain ⟨n2, rfl⟩ := hb.out
          exact ⟨rfl, ((Drawn0.refl _).step n1).step n2⟩

/-- Is a text a part: one to eight small runes, and nothing else? -/
def partL (l : List Int × Option Nat) : Bool := l.2.isNone && l.1.all smallR && decide (1 ≤ l.1.length ∧ l.1.length ≤ 8)
def partB (s : ByteArray) : Bool := partL (runesOf s)
theorem not_small : smallR 65533 = false := by decide
theorem partL_cut (l1 : List Int) (o : Option Nat) (k : Nat) (r : Int) (t : List Int) (hr : smallR r = false) : partL (l1 ++ r :: t, o) = false := by
  have h : (l1 ++ r :: t).all smallR = false := by rw [List.all_append, List.all_cons, hr]; simp
  simp [partL, h]
theorem partL_some (l1 : List Int) (p : Nat) : partL (l1, some p) = false := by simp [partL]
set_option maxHeartbeats 4000000 in
set_option maxRecDepth 100000 in
theorem part_calls (s : ByteArray) (w : World) (hs : s.size < 1000000) :
    Calls Tryd.prog 54 #[.string s] w fun e w' => e = .returned (.bool (partB s)) ∧ Below w.heap.size w w' := by
  have HS := Aside0.mk hs
  clear hs
  obtain ⟨b, hb⟩ : ∃ b, partB s = b := ⟨_, rfl⟩
  have HB := Aside0.mk hb
  rw [hb]
  clear hb
  go_enter Tryd.func54, Tryd.ntmps54
  go_wp2_with fail
  go_loopw [3] (fun v wr => ∃ (pos fuel k : Nat) (pre : List Int), v = .int .i64 (k : Int) ∧ Aside0 (pre.length = k) ∧ Aside0 (pre.all smallR = true) ∧ Aside0 (runesOf s = (pre ++ (scan s fuel pos).1, (scan s fuel pos).2)) ∧ Aside0 (s.size ≤ pos + fuel) ∧ Aside0 (k ≤ pos) ∧ Aside0 (wr.heap[w.heap.size]? = some (.stringIter s pos)) ∧ Aside0 (Below w.heap.size w wr)) (fun _ wr => s.size - wr.iterPos w.heap.size)
  case atStart => exact ⟨0, s.size, 0, [], rfl, ⟨rfl⟩, ⟨rfl⟩, ⟨rfl⟩, ⟨by omega⟩, ⟨Nat.le_refl _⟩, ⟨World.iter_heap w s 0⟩, ⟨below_alloc (Below.refl _ _) _⟩⟩
  case round =>
    obtain ⟨pos, fuel, k, pre, rfl, HP, HA, HR, HF, HK, HI, HBW⟩ := hrel
    by_cases hp : pos < s.size
    · have hnx : ∀ ty, (Instr.next (.pointer (some ⟨w.heap.size, 0, none⟩)) true ty).run Tryd.prog wr = _ := fun ty => Lib.run_next_any_at wr w.heap.size s pos ty HI.out hp
      have HW := Aside0.mk (wid_pos s pos)
      have hpos : wr.iterPos w.heap.size = pos := by simp only [World.iterPos, HI.out]
      obtain ⟨c, n, hd⟩ : ∃ c n, Utf8.decode s pos = (c, n) := ⟨_, _, rfl⟩
      have hbk : brk s pos = (decide (c = 65533) && decide (n < 2)) := by simp [brk, hd]
      have hsc := scan_next s (fuel - 1) pos hp
      have hsb := scan_brk s (fuel - 1) pos hp
      simp only [hd] at hnx HW hsc
      rw [show fuel - 1 + 1 = fuel by have := HF.out; omega] at hsc hsb
      have HI2 := Aside0.mk (Lib.iterAt_heap wr w.heap.size s pos (pos + n) HI.out)
      have HB2 := Aside0.mk (Lib.below_iterAt HBW.out (k := w.heap.size) (Nat.le_refl _) s (pos + n))
      have hlt : w.heap.size < wr.heap.size := (Array.getElem?_eq_some_iff.1 HI.out).1
      have HZ := Aside0.mk (show w.heap.size < (wr.iterAt w.heap.size s (pos + n)).heap.size by rw [Lib.iterAt_size]; exact hlt)
      clear hlt HBW HI
      generalize hW1 : wr.iterAt w.heap.size s (pos + n) = W1 at hnx HI2 HB2 HZ
      clear hW1
      have HSM := Aside0.mk (small_eq c W1)
      have HPP := Aside0.mk hpos
      clear hpos
      have hw64 : wrap64 ((k : Int) + 1) = ((k + 1 : Nat) : Int) := by have := HS.out; have := HK.out; unfold wrap64; omega
      cases hsm : smallR c
      · have hb : b = false := by
          rw [← HB.out, partB, HR.out]
          cases hbr : brk s pos
          · rw [hsc hbr]; exact partL_cut pre _ k _ _ hsm
          · rw [hsb hbr]; exact partL_some _ _
        have HBF := Aside0.mk hb
        clear hb hsc hsb hbk hd
        go_wp2_with fail
        refine HSM.out.mono ?_
        rw [hsm]
        rintro e w2 ⟨rfl, hdr⟩
        have HB3 := Aside0.mk (below_step HB2.out hdr.below)
        clear hdr
        go_wp2_with fail
        go_ret
        rw [HBF.out]
        exact ⟨rfl, HB3.out⟩
      · have hbr : brk s pos = false := by
          rw [hbk]
          by_cases h : c = 65533
          · subst h; exact absurd hsm (by decide)
          · simp [h]
        have HSC := Aside0.mk (hsc hbr)
        clear hsc hsb hbk hd hbr
        go_wp2_with fail
        refine HSM.out.mono ?_
        rw [hsm]
        rintro e w2 ⟨rfl, hdr⟩
        have HB3 := Aside0.mk (below_step HB2.out hdr.below)
        have HI3 := Aside0.mk ((hdr.below.block w.heap.size HZ.out).trans HI2.out)
        clear hdr
        have HSMT := Aside0.mk hsm
        clear hsm
        go_wp2_with fail
        go_roundw
        case rel => exact ⟨pos + n, fuel - 1, k + 1, pre ++ [(c : Int)], by rw [hw64], ⟨by simp [HP.out]⟩, ⟨by rw [List.all_append, HA.out]; simp [HSMT.out]⟩, ⟨by rw [HR.out, HSC.out]; simp⟩, ⟨by have := HF.out; have := HW.out; omega⟩, ⟨by have := HK.out; have := HW.out; omega⟩, HI3, HB3⟩
        case measure =>
          have h1 := HPP.out
          have h2 := HW.out
          simp only [World.iterPos, HI3.out] at h1 ⊢
          rw [h1]
          omega
    · have hnx : ∀ ty, (Instr.next (.pointer (some ⟨w.heap.size, 0, none⟩)) true ty).run Tryd.prog wr = _ := fun ty => Lib.run_next_end_at wr w.heap.size s pos ty HI.out hp
      have hb : b = decide (1 ≤ k ∧ k ≤ 8) := by
        have h1 := HA.out
        have h2 := HP.out
        rw [← HB.out, partB, HR.out, scan_end s fuel pos hp, List.append_nil, partL, h1, h2]
        simp
      have HBF := Aside0.mk hb
      clear hb
      by_cases h1 : 1 ≤ k
      · by_cases h8 : k ≤ 8
        · have e1 : decide ((1 : Int) ≤ k) = true := decide_eq_true (by omega)
          have e2 : decide ((k : Int) ≤ 8) = true := decide_eq_true (by omega)
          have HH := Aside0.mk (And.intro h1 h8)
          clear h1 h8
          go_wp2_with fail
          go_ret
          rw [HBF.out, decide_eq_true HH.out]
          exact ⟨rfl, HBW.out⟩
        · have e1 : decide ((1 : Int) ≤ k) = true := decide_eq_true (by omega)
          have e2 : decide ((k : Int) ≤ 8) = false := decide_eq_false (by omega)
          have HH := Aside0.mk h8
          clear h1 h8
          go_wp2_with fail
          go_ret
          rw [HBF.out, decide_eq_false (fun h => HH.out h.2)]
          exact ⟨rfl, HBW.out⟩
      · have e1 : decide ((1 : Int) ≤ k) = false := decide_eq_false (by omega)
        have HH := Aside0.mk h1
        clear h1
        go_wp2_with fail
        go_ret
        rw [HBF.out, decide_eq_false (fun h => HH.out h.1)]
        exact ⟨rfl, HBW.out⟩
end Go.Proofs.YtcaojgdnhmgmlaaDoor.Q
end
section
/- A name's pieces, in plain Lean: a text parted at its points. -/
namespace Go.Proofs.YtcaojgdnhmgmlaaDoor.Q
open Go.RowKit Go.Lib
set_option linter.unusedVariables false

/-- Parted at each point. -/
def pcs : List UInt8 → List (List UInt8)
  | [] => [[]]
  | c :: t => if c = 46 then [] :: pcs t else match pcs t with
    | [] => [[c]]
    | p :: ps => (c :: p) :: ps
def pieces (s : ByteArray) : List ByteArray := (pcs s.data.toList).map fun l => ⟨l.toArray⟩
theorem pcs_ne : ∀ l, pcs l ≠ []
  | [] => by simp [pcs]
  | c :: t => by
    unfold pcs
    split
    · simp
    · split <;> simp
theorem pcs_point (t : List UInt8) : pcs (46 :: t) = [] :: pcs t := by simp [pcs]
theorem pcs_other (c : UInt8) (t : List UInt8) (h : c ≠ 46) : ∃ p ps, pcs t = p :: ps ∧ pcs (c :: t) = (c :: p) :: ps := by
  rcases hq : pcs t with _ | ⟨p, ps⟩
  · exact absurd hq (pcs_ne t)
  · exact ⟨p, ps, rfl, by rw [pcs, if_neg h, hq]⟩
theorem pcs_miss : ∀ l, Lib.indexByte l 46 = -1 → pcs l = [l]
  | [], _ => rfl
  | c :: t, h => by
    unfold Lib.indexByte at h
    have hge := Lib.indexByte_ge t 46
    split at h
    · cases h
    · rename_i hc
      split at h
      · rename_i ht
        have hcc : c ≠ 46 := by simpa using hc
        obtain ⟨p, ps, h1, h2⟩ := pcs_other c t hcc
        rw [pcs_miss t (by simpa using ht)] at h1
        obtain ⟨rfl, rfl⟩ := List.cons.inj h1
        exact h2
      · omega
theorem pcs_hit : ∀ l (i : Nat), Lib.indexByte l 46 = i → i < l.length ∧ l = l.take i ++ 46 :: l.drop (i + 1) ∧ pcs l = l.take i :: pcs (l.drop (i + 1))
  | [], i, h => by
    simp only [Lib.indexByte] at h; omega
  | c :: t, i, h => by
    unfold Lib.indexByte at h
    have hge := Lib.indexByte_ge t 46
    split at h
    · rename_i hc
      have hcc : c = 46 := by simpa using hc
      obtain rfl : i = 0 := by omega
      subst hcc
      exact ⟨by simp, by simp, by rw [pcs_point]; simp⟩
    · rename_i hc
      have hcc : c ≠ 46 := by simpa using hc
      split at h
      · omega
      · rename_i ht
        have ht' : Lib.indexByte t 46 ≠ -1 := by simpa using ht
        obtain ⟨j, rfl⟩ : ∃ j, i = j + 1 := ⟨i - 1, by omega⟩
        obtain ⟨h1, h2, h3⟩ := pcs_hit t j (by omega)
        obtain ⟨p, ps, q1, q2⟩ := pcs_other c t hcc
        rw [h3] at q1
        obtain ⟨rfl, rfl⟩ := List.cons.inj q1
        refine ⟨by simp; omega, ?_, ?_⟩
        · simp only [List.take_succ_cons, List.drop_succ_cons, List.cons_append]
          rw [← h2]
        · rw [q2]; simp
theorem str_of (s : ByteArray) : (⟨s.data.toList.toArray⟩ : ByteArray) = s := by cases s; simp
theorem pieces_miss (s : ByteArray) (h : Lib.indexByte s.data.toList 46 = -1) : pieces s = [s] := by
  rw [pieces, pcs_miss _ h, List.map_cons, List.map_nil, str_of]
theorem str_take (s : ByteArray) (i : Nat) : (⟨(s.data.toList.take i).toArray⟩ : ByteArray) = s.extract 0 i := by
  apply ByteArray.ext
  show _ = (s.extract 0 i).data
  rw [← Array.toList_inj]
  simp [List.extract]
theorem str_drop (s : ByteArray) (i : Nat) : (⟨(s.data.toList.drop i).toArray⟩ : ByteArray) = s.extract i s.size := by
  apply ByteArray.ext
  show _ = (s.extract i s.size).data
  rw [← Array.toList_inj, ext_list]
theorem pieces_hit (s : ByteArray) (i : Nat) (h : Lib.indexByte s.data.toList 46 = i) : i < s.size ∧ pieces s = s.extract 0 i :: pieces (s.extract (i + 1) s.size) := by
  obtain ⟨h1, h2, h3⟩ := pcs_hit _ i h
  refine ⟨by simpa using h1, ?_⟩
  rw [pieces, h3, List.map_cons, str_take, pieces, ext_list]
theorem pieces_size : ∀ (n : Nat) (s : ByteArray), s.size = n → ∀ p ∈ pieces s, p.size ≤ s.size := by
  intro n
  induction n using Nat.strongRecOn with
  | ind n ih =>
    intro s hs p hp
    have hge := Lib.indexByte_ge s.data.toList 46
    by_cases hi : Lib.indexByte s.data.toList 46 = -1
    · rw [pieces_miss s hi] at hp
      obtain rfl := List.mem_singleton.1 hp
      exact Nat.le_refl _
    · obtain ⟨i, hi⟩ := Int.eq_ofNat_of_zero_le (show 0 ≤ Lib.indexByte s.data.toList 46 by omega)
      obtain ⟨h1, h2⟩ := pieces_hit s i hi
      rw [h2] at hp
      rcases List.mem_cons.1 hp with rfl | hp
      · simp; omega
      · have := ih (s.extract (i + 1) s.size).size (by simp; omega) _ rfl p hp
        simp at this
        omega
theorem pieces_len : ∀ (n : Nat) (s : ByteArray), s.size = n → 1 ≤ (pieces s).length ∧ (pieces s).length ≤ s.size + 1 := by
  intro n
  induction n using Nat.strongRecOn with
  | ind n ih =>
    intro s hs
    have hge := Lib.indexByte_ge s.data.toList 46
    by_cases hi : Lib.indexByte s.data.toList 46 = -1
    · rw [pieces_miss s hi]; simp
    · obtain ⟨i, hi⟩ := Int.eq_ofNat_of_zero_le (show 0 ≤ Lib.indexByte s.data.toList 46 by omega)
      obtain ⟨h1, h2⟩ := pieces_hit s i hi
      have := ih (s.extract (i + 1) s.size).size (by simp; omega) _ rfl
      rw [h2]
      simp at this ⊢
      omega
/-- Right: all pieces parts, at most four, and at most 24 runes with the points between. -/
def runesN (l : List ByteArray) : Nat := (l.map fun p => (runesOf p).1.length + 1).foldl (· + ·) 0
def rightB (s : ByteArray) : Bool := (pieces s).all partB && decide ((pieces s).length ≤ 4) && decide (runesN (pieces s) ≤ 25)
theorem partB_len (s : ByteArray) (h : partB s = true) : (runesOf s).2.isNone = true ∧ 1 ≤ (runesOf s).1.length ∧ (runesOf s).1.length ≤ 8 := by
  unfold partB partL at h
  simp only [Bool.and_eq_true, decide_eq_true_eq] at h
  exact ⟨h.1.1, h.2⟩
end Go.Proofs.YtcaojgdnhmgmlaaDoor.Q
end
section
/- A range over a function that keeps its state in a box of its own (strings.SplitSeq's closure): the statement's law at such an iterator, and the iterator's contract; by hand. -/
namespace Go.Proofs.YtcaojgdnhmgmlaaDoor.Q
open Go.RowKit Go.Shelf
set_option linter.unusedVariables false
attribute [local go_sem] Oper.semAt_some

/-- The iterator's three boxes lie as they lay. -/
def KeepB (k0 : Nat) (W W' : World) : Prop := ∀ k, k0 ≤ k → k < k0 + 3 → W'.heap[k]? = W.heap[k]?
theorem KeepB.trans {k0 : Nat} {A B C : World} (h : KeepB k0 A B) (k : KeepB k0 B C) : KeepB k0 A C := fun j a b => (k j a b).trans (h j a b)
/-- What the round's state abides: new blocks; a turn of a block that is no cells, from B on; a store into the iterator's box. -/
structure AbB (k0 B : Nat) (J : List ByteArray → World → Prop) : Prop where
  al : ∀ pre W o, J pre W → J pre (W.alloc o)
  tn : ∀ pre W l o o', B ≤ l → W.heap[l]? = some o → J pre W → J pre (W.putObj l o')
  st : ∀ pre W v, J pre W → J pre (W.setCell ⟨k0, 0, none⟩ v)
/-- How a round may be left. -/
def postB (k0 : Nat) (I : List ByteArray → World → Prop) (Ix : List ByteArray → World → Prop) (xs : List ByteArray) (W : World) : Exit → Act → World → Prop
  | .normal, _, W' => KeepsOthers W W' ∧ KeepB k0 W W' ∧ I xs W'
  | .ret, _, W' => KeepsOthers W W' ∧ Ix xs W'
  | _, _, _ => False
/-- The contract of an iterator over the list l, whose box is k0. -/
def SeqB (F : Fence) (n : Nat) (P : Program) (g : Nat) (lb : Array Value) (k0 : Nat) (l : List ByteArray) (w : World) : Prop :=
  ∀ (r : Nat) (J Jx : List ByteArray → World → Prop) (W : World), KeepB k0 w W → (∀ pre W v, J pre W → J pre (W.setCell ⟨k0, 0, none⟩ v)) →
    (∀ pre x W1, pre ++ [x] <+: l → J pre W1 → YieldAt F (n - 1) P r #[.string x] W1 fun e W' =>
      (e = .returned (.bool true) ∧ J (pre ++ [x]) W' ∧ KeepB k0 W1 W') ∨ (e = .returned (.bool false) ∧ Jx (pre ++ [x]) W')) →
    J [] W →
    CallsIn F n P g (#[.func (.yield r) #[] #[]] ++ lb) W fun e W' => (∃ v, e = .returned v) ∧ (J l W' ∨ ∃ pre, pre <+: l ∧ Jx pre W')

variable {F : Fence} {n : Nat} {P : Program}
theorem range_box {g : Operand} {ps : Array Tmp} {assign body : Code} {Q : Exit → Act → World → Prop} {a : Act} {w : World}
    (hro : F.round = none) (h1 : 1 ≤ n) {gf : Nat} {lb : Array Value} (hg : a.eval g = .func (.func gf) #[] lb) (hFg : F.fn gf) (eg : ∀ args w, (callFunc gf args).run P w = .ok (.enter gf args) w)
    {k0 : Nat} (hk0 : k0 + 3 ≤ w.heap.size) {l : List ByteArray} (hseq : SeqB F (n - 1) P gf lb k0 l w) (hps : ps.size = 1)
    (I Ix : List ByteArray → World → Prop) (hI : AbB k0 w.heap.size I) (hIx : AbB k0 w.heap.size Ix) (h0 : I [] w) (a₁ : ByteArray → Act)
    (hassign : ∀ (r : Nat) (x : ByteArray) (W : World) (K : Act → World → Prop), K (a₁ x) W →
      assign.wpIn (F.inRound r) (n - 1 - 1) P (Exit.then K (fun _ _ _ => False)) { tmps := (ps.zip #[Value.string x]).foldl (fun t (p, v) => t.setIfInBounds p v) a.tmps, defers := [] } W)
    (hbody : ∀ (r : Nat) (pre : List ByteArray) (x : ByteArray) (W : World), pre ++ [x] <+: l → I pre W → w.heap.size + 2 ≤ W.heap.size → body.wpIn (F.inRound r) (n - 1 - 1) P (postB k0 I Ix (pre ++ [x]) W) (a₁ x) W)
    (hdone : ∀ (D : Nat) (W : World), w.heap.size ≤ D → I l W → W.heap[D]? = some (.deferred (some [])) → Q .normal { a with defers := { target := .collected D, args := #[] } :: a.defers } W)
    (hstop : ∀ (D : Nat) (pre : List ByteArray) (W : World), w.heap.size ≤ D → pre <+: l → Ix pre W → W.heap[D]? = some (.deferred (some [])) → Code.ret.wpIn F n P Q { a with defers := { target := .collected D, args := #[] } :: a.defers } W) :
    (Code.rangeFunc g ps assign body).wpIn F n P Q a w := by
  refine wpIn_rangeFunc ?_
  intro fn hfn
  rw [hro]
  obtain ⟨rec, hrec⟩ : ∃ rec : LoopState → Option Code → Loop, rec = fun st pe => { state := st, pending := pe, fn, tmps := a.tmps, params := ps, assign, body, defers := w.heap.size } := ⟨_, rfl⟩
  obtain ⟨W1, hW1⟩ : ∃ W1, (w.alloc (.deferred (some []))).alloc (.loop (rec .ready none)) = W1 := ⟨_, rfl⟩
  have hL1 : W1.heap[w.heap.size + 1]? = some (.loop (rec .ready none)) := by
    rw [← hW1]; have := World.alloc_heap_new (w.alloc (.deferred (some []))) (.loop (rec .ready none)); rwa [World.size_alloc] at this
  have hK1 : W1.heap[w.heap.size]? = some (.deferred (some [])) := by
    rw [← hW1]; exact (Below.heap_alloc _ _ _ (by simp)).trans (World.alloc_heap_new w _)
  have hI1 : I [] W1 := by rw [← hW1]; exact hI.al _ _ _ (hI.al _ _ _ h0)
  have hb1 : KeepB k0 w W1 := fun k a b => by
    rw [← hW1, Below.heap_alloc _ _ _ (by simp; omega), Below.heap_alloc _ _ _ (by omega)]
  refine ⟨w.heap.size + 1, [{ target := .collected w.heap.size, args := #[] }], W1, { target := .fn (.func gf) lb, args := #[.func (.yield (w.heap.size + 1)) #[] #[]] }, W1, gf,
    #[.func (.yield (w.heap.size + 1)) #[] #[]] ++ lb, W1, ?_, ?_, ?_, ?_, fun _ => h1, ?_⟩
  · rw [← hW1, hrec]; exact run_enterLoop_outer _ _ _ _ _
  · simp only [resolve, hg]
    simp [go_sem]
  · intro f' hf'; simp [Target.leads] at hf'; subst hf'; exact hFg
  · simp [invoke, go_sem, eg]
  · have hset : ∀ (W : World) (v : Value) (k : Nat) (o : Obj), k0 + 3 ≤ k → W.heap[k]? = some o → (W.setCell ⟨k0, 0, none⟩ v).heap[k]? = some o := fun W v k o hk h =>
      (Below.heap_setCell W ⟨k0, 0, none⟩ v k (by show k ≠ k0; omega)).trans h
    refine (hseq (w.heap.size + 1)
      (fun pre W => I pre W ∧ W.heap[w.heap.size + 1]? = some (.loop (rec .ready none)) ∧ W.heap[w.heap.size]? = some (.deferred (some [])))
      (fun pre W => Ix pre W ∧ W.heap[w.heap.size + 1]? = some (.loop (rec .done (some .ret))) ∧ W.heap[w.heap.size]? = some (.deferred (some [])))
      W1 hb1 (fun pre W v h => ⟨hI.st _ _ _ h.1, hset W v _ _ (by omega) h.2.1, hset W v _ _ (by omega) h.2.2⟩) ?_ ⟨hI1, hL1, hK1⟩).mono ?_
    · rintro pre x W hpre ⟨hi, hl, hk⟩
      have hlt : w.heap.size + 1 < W.heap.size := (Array.getElem?_eq_some_iff.1 hl).1
      have hy := run_yield (P := P) (args := #[Value.string x]) hl (by rw [hrec]; simp [hps])
      rw [hrec] at hy
      refine ⟨fn, _, assign, body, hy, roundIn_of_wpIn hfn (hassign _ x W _ ⟨_, run_beginRound hl (by rw [hrec]), ?_⟩)⟩
      have hl2 : (W.putObj (w.heap.size + 1) (.loop { rec .ready none with state := .busy })).heap[w.heap.size + 1]? = some (.loop { rec .ready none with state := .busy }) := World.putObj_heap_same hlt
      have hk2 : (W.putObj (w.heap.size + 1) (.loop { rec .ready none with state := .busy })).heap[w.heap.size]? = some (.deferred (some [])) := (World.putObj_heap_other (by omega)).trans hk
      have hp2 : ∀ (W : World) (o : Obj), KeepB k0 W (W.putObj (w.heap.size + 1) o) := fun W o k a b => World.putObj_heap_other (by omega)
      refine wpIn_mono (hbody _ pre x _ hpre (hI.tn _ _ _ _ _ (by omega) hl hi) (by show _ ≤ (W.heap.setIfInBounds _ _).size; simp; omega)) ?_
      have fin : ∀ (jump : Option Code) (W3 : World), KeepsOthers (W.putObj (w.heap.size + 1) (.loop { rec .ready none with state := .busy })) W3 →
          (Instr.endRound (w.heap.size + 1) jump).run P W3 = .ok (.bool jump.isNone) (W3.putObj (w.heap.size + 1) (.loop (rec (if jump.isNone then .ready else .done) jump))) ∧
          W3.heap[w.heap.size + 1]? = some (.loop { rec .ready none with state := .busy }) ∧
          (W3.putObj (w.heap.size + 1) (.loop (rec (if jump.isNone then .ready else .done) jump))).heap[w.heap.size + 1]? = some (.loop (rec (if jump.isNone then .ready else .done) jump)) ∧
          (W3.putObj (w.heap.size + 1) (.loop (rec (if jump.isNone then .ready else .done) jump))).heap[w.heap.size]? = some (.deferred (some [])) := fun jump W3 hk3 => by
        have hl3 := hk3.same _ _ hl2 rfl
        have := run_endRound (P := P) jump hl3
        rw [hrec] at this ⊢
        exact ⟨this, by rw [hrec] at hl3; exact hl3, World.putObj_heap_same (Array.getElem?_eq_some_iff.1 hl3).1, (World.putObj_heap_other (by omega)).trans (hk3.same _ _ hk2 rfl)⟩
      rintro e a3 W3 hp
      cases e with
      | normal =>
        obtain ⟨hk3, hkp3, hi3⟩ := hp
        obtain ⟨hr, hl3, hl4, hk4⟩ := fin none W3 hk3
        exact ⟨_, _, hr, .inl ⟨rfl, ⟨hI.tn _ _ _ _ _ (by omega) hl3 hi3, hl4, hk4⟩, ((hp2 W _).trans hkp3).trans (hp2 W3 _)⟩⟩
      | ret =>
        obtain ⟨hk3, hi3⟩ := hp
        obtain ⟨hr, hl3, hl4, hk4⟩ := fin (some .ret) W3 hk3
        exact ⟨_, _, hr, .inr ⟨rfl, hIx.tn _ _ _ _ _ (by omega) hl3 hi3, hl4, hk4⟩⟩
      | exit id => exact hp.elim
      | goto t => exact hp.elim
      | panic ch => exact hp.elim
      | outgrown => exact hp.elim
    · rintro e W2 ⟨⟨v, rfl⟩, (⟨hi, hl, hk⟩ | ⟨pre, hSp, hi, hl, hk⟩)⟩
      · exact ⟨none, _, by have := run_endLoop (P := P) hl (by rw [hrec]; simp); rw [hrec] at this; exact this, hdone _ _ (Nat.le_refl _) (hI.tn _ _ _ _ _ (by omega) hl hi) ((World.putObj_heap_other (by omega)).trans hk)⟩
      · exact ⟨some .ret, _, by have := run_endLoop (P := P) hl (by rw [hrec]; simp); rw [hrec] at this; exact this, hstop _ pre _ (Nat.le_refl _) hSp (hIx.tn _ _ _ _ _ (by omega) hl hi) ((World.putObj_heap_other (by omega)).trans hk)⟩
end Go.Proofs.YtcaojgdnhmgmlaaDoor.Q
end

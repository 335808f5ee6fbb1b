/- Functions of the document's side as plain Lean functions, and that the calls do what these say; conditions stand in each theorem. (By the kit's printer, mended by a program of this seat's prover; Lean checks it.) -/
import Derived.Test.YtcaojgdnhmgmlaaDoorPTermPlaysx0
import Derived.Test.YtcaojgdnhmgmlaaDoorPTermPlaysx2
import Derived.Test.YtcaojgdnhmgmlaaDoorPTermPlaysx3
set_option linter.unusedVariables false
set_option linter.unusedSimpArgs false
namespace Go.Proofs.YtcaojgdnhmgmlaaDoor.PTermPlays
open Go.RowKit Go.Proofs.YtcaojgdnhmgmlaaDoorW.PrintWords Go.Proofs.YtcaojgdnhmgmlaaDoorW.PrintLast Go.Proofs.YtcaojgdnhmgmlaaDoorW.PrintMore
attribute [local go_sem] max2_int min2_int max_two min_two max_three min_three max_four min_four   -- for this text's walks alone
set_option linter.unusedVariables false
set_option linter.unusedSimpArgs false

/-! ### oublietteref15_Table_text: function 114 -/
def oublietteref15_Table_text.f : Nat → List (S104) → Int → Option (ByteArray)
  | 0, _, _ => none
  | k + 1, l0, a1 => if 0 ≤ (wrap64 (a1 - 1)) then (if (wrap64 (a1 - 1)) < (l0.length : Int) then (if ((rd_T104 l0 (wrap64 (a1 - 1))).f0) = 1 then ((oublietteref01_Print.f k ((rd_T104 l0 (wrap64 (a1 - 1))).f4)).bind fun t171 => (if 1 + t171.size ≤ 9223372036854775807 then (some ((⟨#[97]⟩ : ByteArray) ++ t171)) else (none))) else (if ((rd_T104 l0 (wrap64 (a1 - 1))).f0) = 2 then (if 1 + ((rd_T104 l0 (wrap64 (a1 - 1))).f3).size ≤ 9223372036854775807 then (if ((⟨#[39]⟩ : ByteArray) ++ ((rd_T104 l0 (wrap64 (a1 - 1))).f3)).size + 1 ≤ 9223372036854775807 then (some (((⟨#[39]⟩ : ByteArray) ++ ((rd_T104 l0 (wrap64 (a1 - 1))).f3)) ++ (⟨#[39]⟩ : ByteArray))) else (none)) else (none)) else (if ((rd_T104 l0 (wrap64 (a1 - 1))).f0) = 3 then ((oublietteref15_Table_text.f k l0 ((rd_T104 l0 (wrap64 (a1 - 1))).f1)).bind fun t172 => (if 4 + t172.size ≤ 9223372036854775807 then (if ((⟨#[107, 100, 102, 40]⟩ : ByteArray) ++ t172).size + 1 ≤ 9223372036854775807 then (if (((⟨#[107, 100, 102, 40]⟩ : ByteArray) ++ t172) ++ (⟨#[44]⟩ : ByteArray)).size + ((rd_T104 l0 (wrap64 (a1 - 1))).f3).size ≤ 9223372036854775807 then (if ((((⟨#[107, 100, 102, 40]⟩ : ByteArray) ++ t172) ++ (⟨#[44]⟩ : ByteArray)) ++ ((rd_T104 l0 (wrap64 (a1 - 1))).f3)).size + 1 ≤ 9223372036854775807 then (some (((((⟨#[107, 100, 102, 40]⟩ : ByteArray) ++ t172) ++ (⟨#[44]⟩ : ByteArray)) ++ ((rd_T104 l0 (wrap64 (a1 - 1))).f3)) ++ (⟨#[41]⟩ : ByteArray))) else (none)) else (none)) else (none)) else (none))) else (if ((rd_T104 l0 (wrap64 (a1 - 1))).f0) = 4 then ((oublietteref15_Table_text.f k l0 ((rd_T104 l0 (wrap64 (a1 - 1))).f1)).bind fun t173 => (if 4 + t173.size ≤ 9223372036854775807 then (if ((⟨#[109, 105, 120, 40]⟩ : ByteArray) ++ t173).size + 1 ≤ 9223372036854775807 then ((oublietteref15_Table_text.f k l0 ((rd_T104 l0 (wrap64 (a1 - 1))).f2)).bind fun t174 => (if (((⟨#[109, 105, 120, 40]⟩ : ByteArray) ++ t173) ++ (⟨#[44]⟩ : ByteArray)).size + t174.size ≤ 9223372036854775807 then (if ((((⟨#[109, 105, 120, 40]⟩ : ByteArray) ++ t173) ++ (⟨#[44]⟩ : ByteArray)) ++ t174).size + 1 ≤ 9223372036854775807 then (some (((((⟨#[109, 105, 120, 40]⟩ : ByteArray) ++ t173) ++ (⟨#[44]⟩ : ByteArray)) ++ t174) ++ (⟨#[41]⟩ : ByteArray))) else (none)) else (none))) else (none)) else (none))) else ((oublietteref15_Table_text.f k l0 ((rd_T104 l0 (wrap64 (a1 - 1))).f1)).bind fun t175 => (if 4 + t175.size ≤ 9223372036854775807 then (if ((⟨#[101, 110, 99, 40]⟩ : ByteArray) ++ t175).size + 1 ≤ 9223372036854775807 then ((oublietteref15_Table_text.f k l0 ((rd_T104 l0 (wrap64 (a1 - 1))).f2)).bind fun t176 => (if (((⟨#[101, 110, 99, 40]⟩ : ByteArray) ++ t175) ++ (⟨#[44]⟩ : ByteArray)).size + t176.size ≤ 9223372036854775807 then (if ((((⟨#[101, 110, 99, 40]⟩ : ByteArray) ++ t175) ++ (⟨#[44]⟩ : ByteArray)) ++ t176).size + 1 ≤ 9223372036854775807 then (some (((((⟨#[101, 110, 99, 40]⟩ : ByteArray) ++ t175) ++ (⟨#[44]⟩ : ByteArray)) ++ t176) ++ (⟨#[41]⟩ : ByteArray))) else (none)) else (none))) else (none)) else (none))))))) else (none)) else (none)
theorem oublietteref15_Table_text.mono_l : ∀ k, (∀ y0 y1, LeO (oublietteref15_Table_text.f k y0 y1) (oublietteref15_Table_text.f (k + 1) y0 y1))
  | 0 => fun _ _ r h => by simp [oublietteref15_Table_text.f] at h
  | k + 1 => by
    have ih0 := oublietteref15_Table_text.mono_l k
    · intro y0 y1
      unfold oublietteref15_Table_text.f
      repeat' first
      | (with_reducible exact ih0 _ _)
      | (with_reducible exact oublietteref01_Print.mono _ _)
      | (with_reducible exact LeO.refl _)
      | (with_reducible exact LeO.none _)
      | (with_reducible refine LeO.ite ?_ ?_)
      | (with_reducible refine LeO.bind ?_ (fun _ => ?_))
      | exact ih0 _ _
      | exact oublietteref01_Print.mono _ _
      | exact LeO.none _
      | refine LeO.ite ?_ ?_
      | refine LeO.bind ?_ (fun _ => ?_)
theorem oublietteref15_Table_text.mono : ∀ a0 a1 k, LeO (oublietteref15_Table_text.f k a0 a1) (oublietteref15_Table_text.f (k + 1) a0 a1) := by
  intro a0 a1 k
  have ih0 := oublietteref15_Table_text.mono_l k
  exact ih0 a0 a1
def oublietteref15_Table_text.T8 : Bool × List (List Nat × List Nat) := (true, [([], []), ([], []), ([1], [1]), ([0, 2], [0, 2]), ([3], [3]), ([4], [4]), ([], []), ([6], [6]), ([5, 7], [5, 7]), ([8], [8]), ([9, 3, 0, 1, 2, 3, 4, 5, 6, 7, 8, 9], [9])])
def oublietteref15_Table_text.B8 : List Nat := [0, 0, 2, 7, 15, 31, 0, 64, 255, 511, 1023]
theorem oublietteref15_Table_text.tab8 : rtab .any (opsOf Tryd.f114 8) = oublietteref15_Table_text.T8 := by kernel_rfl
theorem oublietteref15_Table_text.bits8 : waitsOk oublietteref15_Table_text.T8.2 oublietteref15_Table_text.B8 = true := by kernel_rfl
def oublietteref15_Table_text.T10 : Bool × List (List Nat × List Nat) := (true, [([], []), ([], []), ([1], [1]), ([0, 2], [0, 2]), ([3], [3]), ([4], [4]), ([], []), ([], []), ([7], [7]), ([6, 8, 3], [6, 8]), ([5, 9], [5, 9]), ([10], [10]), ([11, 9, 0, 1, 2, 3, 4, 5, 6, 7, 8, 9, 10, 11], [11])])
def oublietteref15_Table_text.B10 : List Nat := [0, 0, 2, 7, 15, 31, 0, 0, 128, 463, 1023, 2047, 4095]
theorem oublietteref15_Table_text.tab10 : rtab .any (opsOf Tryd.f114 10) = oublietteref15_Table_text.T10 := by kernel_rfl
theorem oublietteref15_Table_text.bits10 : waitsOk oublietteref15_Table_text.T10.2 oublietteref15_Table_text.B10 = true := by kernel_rfl
def oublietteref15_Table_text.T11 : Bool × List (List Nat × List Nat) := (true, [([], []), ([], []), ([1], [1]), ([0, 2], [0, 2]), ([3], [3]), ([4], [4]), ([], []), ([], []), ([7], [7]), ([6, 8, 3], [6, 8]), ([5, 9], [5, 9]), ([10], [10]), ([11, 9, 0, 1, 2, 3, 4, 5, 6, 7, 8, 9, 10, 11], [11])])
def oublietteref15_Table_text.B11 : List Nat := [0, 0, 2, 7, 15, 31, 0, 0, 128, 463, 1023, 2047, 4095]
theorem oublietteref15_Table_text.tab11 : rtab .any (opsOf Tryd.f114 11) = oublietteref15_Table_text.T11 := by kernel_rfl
theorem oublietteref15_Table_text.bits11 : waitsOk oublietteref15_Table_text.T11.2 oublietteref15_Table_text.B11 = true := by kernel_rfl
set_option maxHeartbeats 8000000 in
set_option maxRecDepth 100000 in
theorem oublietteref15_Table_text.calls (k : Nat) : ∀ (A0 : Option Addr) (c0 : Nat) (l0 : List (S104)) (a1 : Int) (r : ByteArray) (w : World) (hr0 : Kd.C k104 w A0 l0.length l0) (hc0 : l0.length ≤ c0) (h : oublietteref15_Table_text.f k l0 a1 = some r),
    Calls Tryd.prog 114 #[.slice A0 l0.length c0, .int .i64 a1] w fun e w' => e = .returned (.string r) ∧ Below w.heap.size w w' := by
  induction k using Nat.strongRecOn with
  | _ k ih =>
  intro A0 c0 l0 a1 r w hr0 hc0 h
  cases k with
  | zero => exact absurd h (by simp [oublietteref15_Table_text.f])
  | succ k =>
  simp only [oublietteref15_Table_text.f] at h
  have hu104 := Tryd.underlying104
  have HR0 := Aside0.mk hr0
  have HC0 := Aside0.mk hc0
  clear hr0 hc0
  have HB := Aside0.mk (Below.refl w.heap.size w)
  have H : (if 0 ≤ (wrap64 (a1 - 1)) then (if (wrap64 (a1 - 1)) < (l0.length : Int) then (if ((rd_T104 l0 (wrap64 (a1 - 1))).f0) = 1 then ((oublietteref01_Print.f k ((rd_T104 l0 (wrap64 (a1 - 1))).f4)).bind fun t171 => (if 1 + t171.size ≤ 9223372036854775807 then (some ((⟨#[97]⟩ : ByteArray) ++ t171)) else (none))) else (if ((rd_T104 l0 (wrap64 (a1 - 1))).f0) = 2 then (if 1 + ((rd_T104 l0 (wrap64 (a1 - 1))).f3).size ≤ 9223372036854775807 then (if ((⟨#[39]⟩ : ByteArray) ++ ((rd_T104 l0 (wrap64 (a1 - 1))).f3)).size + 1 ≤ 9223372036854775807 then (some (((⟨#[39]⟩ : ByteArray) ++ ((rd_T104 l0 (wrap64 (a1 - 1))).f3)) ++ (⟨#[39]⟩ : ByteArray))) else (none)) else (none)) else (if ((rd_T104 l0 (wrap64 (a1 - 1))).f0) = 3 then ((oublietteref15_Table_text.f k l0 ((rd_T104 l0 (wrap64 (a1 - 1))).f1)).bind fun t172 => (if 4 + t172.size ≤ 9223372036854775807 then (if ((⟨#[107, 100, 102, 40]⟩ : ByteArray) ++ t172).size + 1 ≤ 9223372036854775807 then (if (((⟨#[107, 100, 102, 40]⟩ : ByteArray) ++ t172) ++ (⟨#[44]⟩ : ByteArray)).size + ((rd_T104 l0 (wrap64 (a1 - 1))).f3).size ≤ 9223372036854775807 then (if ((((⟨#[107, 100, 102, 40]⟩ : ByteArray) ++ t172) ++ (⟨#[44]⟩ : ByteArray)) ++ ((rd_T104 l0 (wrap64 (a1 - 1))).f3)).size + 1 ≤ 9223372036854775807 then (some (((((⟨#[107, 100, 102, 40]⟩ : ByteArray) ++ t172) ++ (⟨#[44]⟩ : ByteArray)) ++ ((rd_T104 l0 (wrap64 (a1 - 1))).f3)) ++ (⟨#[41]⟩ : ByteArray))) else (none)) else (none)) else (none)) else (none))) else (if ((rd_T104 l0 (wrap64 (a1 - 1))).f0) = 4 then ((oublietteref15_Table_text.f k l0 ((rd_T104 l0 (wrap64 (a1 - 1))).f1)).bind fun t173 => (if 4 + t173.size ≤ 9223372036854775807 then (if ((⟨#[109, 105, 120, 40]⟩ : ByteArray) ++ t173).size + 1 ≤ 9223372036854775807 then ((oublietteref15_Table_text.f k l0 ((rd_T104 l0 (wrap64 (a1 - 1))).f2)).bind fun t174 => (if (((⟨#[109, 105, 120, 40]⟩ : ByteArray) ++ t173) ++ (⟨#[44]⟩ : ByteArray)).size + t174.size ≤ 9223372036854775807 then (if ((((⟨#[109, 105, 120, 40]⟩ : ByteArray) ++ t173) ++ (⟨#[44]⟩ : ByteArray)) ++ t174).size + 1 ≤ 9223372036854775807 then (some (((((⟨#[109, 105, 120, 40]⟩ : ByteArray) ++ t173) ++ (⟨#[44]⟩ : ByteArray)) ++ t174) ++ (⟨#[41]⟩ : ByteArray))) else (none)) else (none))) else (none)) else (none))) else ((oublietteref15_Table_text.f k l0 ((rd_T104 l0 (wrap64 (a1 - 1))).f1)).bind fun t175 => (if 4 + t175.size ≤ 9223372036854775807 then (if ((⟨#[101, 110, 99, 40]⟩ : ByteArray) ++ t175).size + 1 ≤ 9223372036854775807 then ((oublietteref15_Table_text.f k l0 ((rd_T104 l0 (wrap64 (a1 - 1))).f2)).bind fun t176 => (if (((⟨#[101, 110, 99, 40]⟩ : ByteArray) ++ t175) ++ (⟨#[44]⟩ : ByteArray)).size + t176.size ≤ 9223372036854775807 then (if ((((⟨#[101, 110, 99, 40]⟩ : ByteArray) ++ t175) ++ (⟨#[44]⟩ : ByteArray)) ++ t176).size + 1 ≤ 9223372036854775807 then (some (((((⟨#[101, 110, 99, 40]⟩ : ByteArray) ++ t175) ++ (⟨#[44]⟩ : ByteArray)) ++ t176) ++ (⟨#[41]⟩ : ByteArray))) else (none)) else (none))) else (none)) else (none))))))) else (none)) else (none)) = some r := h
  clear h
  obtain ⟨ji3, hji3⟩ : ∃ j_ : Int, (wrap64 (a1 - 1)) = j_ := ⟨_, rfl⟩
  replace H : (if 0 ≤ (ji3) then (if (ji3) < (l0.length : Int) then (if ((rd_T104 l0 (ji3)).f0) = 1 then ((oublietteref01_Print.f k ((rd_T104 l0 (ji3)).f4)).bind fun t171 => (if 1 + t171.size ≤ 9223372036854775807 then (some ((⟨#[97]⟩ : ByteArray) ++ t171)) else (none))) else (if ((rd_T104 l0 (ji3)).f0) = 2 then (if 1 + ((rd_T104 l0 (ji3)).f3).size ≤ 9223372036854775807 then (if ((⟨#[39]⟩ : ByteArray) ++ ((rd_T104 l0 (ji3)).f3)).size + 1 ≤ 9223372036854775807 then (some (((⟨#[39]⟩ : ByteArray) ++ ((rd_T104 l0 (ji3)).f3)) ++ (⟨#[39]⟩ : ByteArray))) else (none)) else (none)) else (if ((rd_T104 l0 (ji3)).f0) = 3 then ((oublietteref15_Table_text.f k l0 ((rd_T104 l0 (ji3)).f1)).bind fun t172 => (if 4 + t172.size ≤ 9223372036854775807 then (if ((⟨#[107, 100, 102, 40]⟩ : ByteArray) ++ t172).size + 1 ≤ 9223372036854775807 then (if (((⟨#[107, 100, 102, 40]⟩ : ByteArray) ++ t172) ++ (⟨#[44]⟩ : ByteArray)).size + ((rd_T104 l0 (ji3)).f3).size ≤ 9223372036854775807 then (if ((((⟨#[107, 100, 102, 40]⟩ : ByteArray) ++ t172) ++ (⟨#[44]⟩ : ByteArray)) ++ ((rd_T104 l0 (ji3)).f3)).size + 1 ≤ 9223372036854775807 then (some (((((⟨#[107, 100, 102, 40]⟩ : ByteArray) ++ t172) ++ (⟨#[44]⟩ : ByteArray)) ++ ((rd_T104 l0 (ji3)).f3)) ++ (⟨#[41]⟩ : ByteArray))) else (none)) else (none)) else (none)) else (none))) else (if ((rd_T104 l0 (ji3)).f0) = 4 then ((oublietteref15_Table_text.f k l0 ((rd_T104 l0 (ji3)).f1)).bind fun t173 => (if 4 + t173.size ≤ 9223372036854775807 then (if ((⟨#[109, 105, 120, 40]⟩ : ByteArray) ++ t173).size + 1 ≤ 9223372036854775807 then ((oublietteref15_Table_text.f k l0 ((rd_T104 l0 (ji3)).f2)).bind fun t174 => (if (((⟨#[109, 105, 120, 40]⟩ : ByteArray) ++ t173) ++ (⟨#[44]⟩ : ByteArray)).size + t174.size ≤ 9223372036854775807 then (if ((((⟨#[109, 105, 120, 40]⟩ : ByteArray) ++ t173) ++ (⟨#[44]⟩ : ByteArray)) ++ t174).size + 1 ≤ 9223372036854775807 then (some (((((⟨#[109, 105, 120, 40]⟩ : ByteArray) ++ t173) ++ (⟨#[44]⟩ : ByteArray)) ++ t174) ++ (⟨#[41]⟩ : ByteArray))) else (none)) else (none))) else (none)) else (none))) else ((oublietteref15_Table_text.f k l0 ((rd_T104 l0 (ji3)).f1)).bind fun t175 => (if 4 + t175.size ≤ 9223372036854775807 then (if ((⟨#[101, 110, 99, 40]⟩ : ByteArray) ++ t175).size + 1 ≤ 9223372036854775807 then ((oublietteref15_Table_text.f k l0 ((rd_T104 l0 (ji3)).f2)).bind fun t176 => (if (((⟨#[101, 110, 99, 40]⟩ : ByteArray) ++ t175) ++ (⟨#[44]⟩ : ByteArray)).size + t176.size ≤ 9223372036854775807 then (if ((((⟨#[101, 110, 99, 40]⟩ : ByteArray) ++ t175) ++ (⟨#[44]⟩ : ByteArray)) ++ t176).size + 1 ≤ 9223372036854775807 then (some (((((⟨#[101, 110, 99, 40]⟩ : ByteArray) ++ t175) ++ (⟨#[44]⟩ : ByteArray)) ++ t176) ++ (⟨#[41]⟩ : ByteArray))) else (none)) else (none))) else (none)) else (none))))))) else (none)) else (none)) = some r := by first | (rw [hji3] at H; exact H) | (simp only [hji3] at H ⊢; exact H)
  have hji3w : (IntKind.i64.wrap (a1 - 1)) = ji3 := (i64_w _).trans hji3
  by_cases c4 : 0 ≤ (ji3)
  · rw [if_pos c4] at H
    have c4b0 : decide (0 ≤ (ji3)) = true := decide_eq_true c4
    clear c4
    by_cases c5 : (ji3) < (l0.length : Int)
    · rw [if_pos c5] at H
      have c5b0 : decide ((ji3) < (l0.length : Int)) = true := decide_eq_true c5
      clear c5
      by_cases c6 : ((rd_T104 l0 (ji3)).f0) = 1
      · rw [if_pos c6] at H
        have c6b0 : (((rd_T104 l0 (ji3)).f0) == 1) = true := beq_iff_eq.mpr c6
        have c6b1 : (((rd_T104 l0 (ji3)).f0) != 1) = false := bne_eq_false_iff_eq.mpr c6
        clear c6
        replace H := Option.bind_eq_some_iff.mp H
        obtain ⟨t171, A70, H⟩ := H
        replace H : (if 1 + t171.size ≤ 9223372036854775807 then (some ((⟨#[97]⟩ : ByteArray) ++ t171)) else (none)) = some r := H
        have A7 := Aside0.mk A70
        clear A70
        by_cases c8 : 1 + t171.size ≤ 9223372036854775807
        · rw [if_pos c8] at H
          have c8b0 := eq_true c8
          have c8b1 : decide (1 + t171.size ≤ 9223372036854775807) = true := decide_eq_true c8
          try have c8b2 : (9223372036854775807 < 1 + t171.size) = False := eq_false (Nat.not_lt.2 c8)
          try (have c8b3 := c8b2; simp only [ByteArray.size_append, show (⟨#[97]⟩ : ByteArray).size = 1 from rfl, show (⟨#[39]⟩ : ByteArray).size = 1 from rfl, show (⟨#[44]⟩ : ByteArray).size = 1 from rfl, show (⟨#[41]⟩ : ByteArray).size = 1 from rfl, show (⟨#[107, 100, 102, 40]⟩ : ByteArray).size = 4 from rfl, show (⟨#[109, 105, 120, 40]⟩ : ByteArray).size = 4 from rfl, show (⟨#[101, 110, 99, 40]⟩ : ByteArray).size = 4 from rfl] at c8b3)
          obtain rfl := Option.some.inj H
          have p169 : 0 ≤ ((ji3) : Int) := of_decide_eq_true (by first | (with_reducible assumption) | assumption)
          have q169 : (ji3) < (l0.length : Int) := of_decide_eq_true (by first | (with_reducible assumption) | assumption)
          obtain ⟨ad169, e169, hx169_0, hx169_1, hx169_2, hx169_3, hx169_4⟩ := at_T104 HR0.out (ji3) p169 q169
          cases e169
          replace p169 := eq_true p169
          replace q169 := eq_true q169
          go_enter Tryd.func114, Tryd.ntmps114
          go_wp2_with (first | ((with_reducible refine gate_dst (N := 5) rfl ?_); refine box_event ?hg (N := 5) ?hd (cs := #[.int .i64 0, .int .i64 0, .int .i64 0, .string (⟨#[]⟩ : ByteArray), .int .i64 0]) (t := 104) ?hr ?_; (case hd => rfl); (case hg => rfl); (case hr => first | (go_simp; done) | (go_simp; rfl)); intro gb170 hg w9 hbox hb; have n0_ := Aside0.mk (below_step (by repeat (first | (with_reducible first | exact HB.out | apply below_alloc | apply pw_below_drewN | apply below_drew1) | exact HB.out)) hb); have n1_ := Aside0.mk (hbox); have n2_ := Aside0.mk ((by rw [hg]; exact (below_size (by repeat (first | (with_reducible first | exact HB.out | apply below_alloc | apply pw_below_drewN | apply below_drew1) | exact HB.out))) : w.heap.size ≤ gb170)); have n3_ := Aside0.mk ((by rw [hg]; exact (below_size (by repeat (first | (with_reducible first | exact HB.out | apply below_alloc | apply pw_below_drewN | apply below_drew1) | exact HB.out))) : w.heap.size ≤ gb170)); clear HB; have HB := n0_; have BK170 := n1_; have GW170 := n2_; have GE170 := n3_; clear n0_ n1_ n2_ n3_; clear hb hbox hg; have hcz10_0 : w9.cell? ⟨gb170, 0, none⟩ = some (.int .i64 0) := (blk_cell BK170.out 0).trans rfl; have hcz10_1 : w9.cell? ⟨gb170, 1, none⟩ = some (.int .i64 0) := (blk_cell BK170.out 1).trans rfl; have hcz10_2 : w9.cell? ⟨gb170, 2, none⟩ = some (.int .i64 0) := (blk_cell BK170.out 2).trans rfl; have hcz10_3 : w9.cell? ⟨gb170, 3, none⟩ = some (.string (⟨#[]⟩ : ByteArray)) := (blk_cell BK170.out 3).trans rfl; have hcz10_4 : w9.cell? ⟨gb170, 4, none⟩ = some (.int .i64 0) := (blk_cell BK170.out 4).trans rfl; have hfz10_0 := blk_frozen BK170.out 0; have hfz10_1 := blk_frozen BK170.out 1; have hfz10_2 := blk_frozen BK170.out 2; have hfz10_3 := blk_frozen BK170.out 3; have hfz10_4 := blk_frozen BK170.out 4) | ((with_reducible refine gate_callee (f := 40) rfl ?_); refine goesL_ (some 17) rfl rfl Tryd.func40 (by kernel_rfl) rfl #[.int .i64 ((rd_T104 l0 (ji3)).f4)] rfl (by (try simp only [List.map_toArray, List.map_cons, List.map_nil]); first | done | (simp only [hji3]; rfl) | rfl | (simp only [List.length_drop, List.length_take]; rfl)) ?_; (with_reducible refine (oublietteref01_Print.calls k ((rd_T104 l0 (ji3)).f4) t171 _ A7.out).mono ?_); rintro e w11 ⟨rfl, hb⟩; refine ⟨_, rfl, ?_⟩; have n0_ := Aside0.mk (blk_below (g := gb170) (o := .cells #[.int .i64 ((rd_T104 l0 (ji3)).f0), .int .i64 ((rd_T104 l0 (ji3)).f1), .int .i64 ((rd_T104 l0 (ji3)).f2), .string ((rd_T104 l0 (ji3)).f3), .int .i64 ((rd_T104 l0 (ji3)).f4)] 104 (0, 0)) (by (with_reducible repeat (first | refine blk_drewN ?_ _ | refine blk_drew ?_ | refine blk_alloc ?_ _)); refine blk_put (cs := #[.int .i64 ((rd_T104 l0 (ji3)).f0), .int .i64 ((rd_T104 l0 (ji3)).f1), .int .i64 ((rd_T104 l0 (ji3)).f2), .string ((rd_T104 l0 (ji3)).f3), .int .i64 0]) ?_ 4 _ rfl; (with_reducible repeat (first | refine blk_drewN ?_ _ | refine blk_drew ?_ | refine blk_alloc ?_ _)); refine blk_put (cs := #[.int .i64 ((rd_T104 l0 (ji3)).f0), .int .i64 ((rd_T104 l0 (ji3)).f1), .int .i64 ((rd_T104 l0 (ji3)).f2), .string (⟨#[]⟩ : ByteArray), .int .i64 0]) ?_ 3 _ rfl; (with_reducible repeat (first | refine blk_drewN ?_ _ | refine blk_drew ?_ | refine blk_alloc ?_ _)); refine blk_put (cs := #[.int .i64 ((rd_T104 l0 (ji3)).f0), .int .i64 ((rd_T104 l0 (ji3)).f1), .int .i64 0, .string (⟨#[]⟩ : ByteArray), .int .i64 0]) ?_ 2 _ rfl; (with_reducible repeat (first | refine blk_drewN ?_ _ | refine blk_drew ?_ | refine blk_alloc ?_ _)); refine blk_put (cs := #[.int .i64 ((rd_T104 l0 (ji3)).f0), .int .i64 0, .int .i64 0, .string (⟨#[]⟩ : ByteArray), .int .i64 0]) ?_ 1 _ rfl; (with_reducible repeat (first | refine blk_drewN ?_ _ | refine blk_drew ?_ | refine blk_alloc ?_ _)); refine blk_put (cs := #[.int .i64 0, .int .i64 0, .int .i64 0, .string (⟨#[]⟩ : ByteArray), .int .i64 0]) ?_ 0 _ rfl; (with_reducible repeat (first | refine blk_drewN ?_ _ | refine blk_drew ?_ | refine blk_alloc ?_ _)); exact BK170.out) hb); have n1_ := Aside0.mk (below_step (by repeat (first | (with_reducible first | exact HB.out | apply below_alloc | apply pw_below_drewN | apply below_drew1 | refine below_set ?_ GE170.out) | exact HB.out)) hb); clear BK170; clear HB; have BK170 := n0_; have HB := n1_; clear n0_ n1_; (try clear hb); (try clear hb2); (try clear hk); (try clear hi)))
          go_ret
          exact ⟨by first | rfl | (simp [errW_none, errW_some] <;> rfl) | (simp only [← hji3]; first | rfl | (simp [errW_none, errW_some] <;> rfl)) | (simp [*, errW_none, errW_some] <;> rfl), by repeat (first | (with_reducible first | exact HB.out | apply below_alloc | apply pw_below_drewN | apply below_drew1 | refine below_set ?_ GE170.out) | exact HB.out)⟩
        · rw [if_neg c8] at H
          exact absurd H (by simp)
      · rw [if_neg c6] at H
        have c6b0 : (((rd_T104 l0 (ji3)).f0) == 1) = false := beq_eq_false_iff_ne.mpr c6
        have c6b1 : (((rd_T104 l0 (ji3)).f0) != 1) = true := bne_iff_ne.mpr c6
        by_cases c12 : ((rd_T104 l0 (ji3)).f0) = 2
        · rw [if_pos c12] at H
          have c12b0 : (((rd_T104 l0 (ji3)).f0) == 2) = true := beq_iff_eq.mpr c12
          have c12b1 : (((rd_T104 l0 (ji3)).f0) != 2) = false := bne_eq_false_iff_eq.mpr c12
          clear c12
          by_cases c13 : 1 + ((rd_T104 l0 (ji3)).f3).size ≤ 9223372036854775807
          · rw [if_pos c13] at H
            have c13b0 := eq_true c13
            have c13b1 : decide (1 + ((rd_T104 l0 (ji3)).f3).size ≤ 9223372036854775807) = true := decide_eq_true c13
            try have c13b2 : (9223372036854775807 < 1 + ((rd_T104 l0 (ji3)).f3).size) = False := eq_false (Nat.not_lt.2 c13)
            try (have c13b3 := c13b2; simp only [ByteArray.size_append, show (⟨#[97]⟩ : ByteArray).size = 1 from rfl, show (⟨#[39]⟩ : ByteArray).size = 1 from rfl, show (⟨#[44]⟩ : ByteArray).size = 1 from rfl, show (⟨#[41]⟩ : ByteArray).size = 1 from rfl, show (⟨#[107, 100, 102, 40]⟩ : ByteArray).size = 4 from rfl, show (⟨#[109, 105, 120, 40]⟩ : ByteArray).size = 4 from rfl, show (⟨#[101, 110, 99, 40]⟩ : ByteArray).size = 4 from rfl] at c13b3)
            by_cases c14 : ((⟨#[39]⟩ : ByteArray) ++ ((rd_T104 l0 (ji3)).f3)).size + 1 ≤ 9223372036854775807
            · rw [if_pos c14] at H
              have c14b0 := eq_true c14
              have c14b1 : decide (((⟨#[39]⟩ : ByteArray) ++ ((rd_T104 l0 (ji3)).f3)).size + 1 ≤ 9223372036854775807) = true := decide_eq_true c14
              try have c14b2 : (9223372036854775807 < ((⟨#[39]⟩ : ByteArray) ++ ((rd_T104 l0 (ji3)).f3)).size + 1) = False := eq_false (Nat.not_lt.2 c14)
              try (have c14b3 := c14b2; simp only [ByteArray.size_append, show (⟨#[97]⟩ : ByteArray).size = 1 from rfl, show (⟨#[39]⟩ : ByteArray).size = 1 from rfl, show (⟨#[44]⟩ : ByteArray).size = 1 from rfl, show (⟨#[41]⟩ : ByteArray).size = 1 from rfl, show (⟨#[107, 100, 102, 40]⟩ : ByteArray).size = 4 from rfl, show (⟨#[109, 105, 120, 40]⟩ : ByteArray).size = 4 from rfl, show (⟨#[101, 110, 99, 40]⟩ : ByteArray).size = 4 from rfl] at c14b3)
              obtain rfl := Option.some.inj H
              have p169 : 0 ≤ ((ji3) : Int) := of_decide_eq_true (by first | (with_reducible assumption) | assumption)
              have q169 : (ji3) < (l0.length : Int) := of_decide_eq_true (by first | (with_reducible assumption) | assumption)
              obtain ⟨ad169, e169, hx169_0, hx169_1, hx169_2, hx169_3, hx169_4⟩ := at_T104 HR0.out (ji3) p169 q169
              cases e169
              replace p169 := eq_true p169
              replace q169 := eq_true q169
              go_enter Tryd.func114, Tryd.ntmps114
              go_wp2_with (first | ((with_reducible refine gate_dst (N := 5) rfl ?_); refine box_event ?hg (N := 5) ?hd (cs := #[.int .i64 0, .int .i64 0, .int .i64 0, .string (⟨#[]⟩ : ByteArray), .int .i64 0]) (t := 104) ?hr ?_; (case hd => rfl); (case hg => rfl); (case hr => first | (go_simp; done) | (go_simp; rfl)); intro gb170 hg w15 hbox hb; have n0_ := Aside0.mk (below_step (by repeat (first | (with_reducible first | exact HB.out | apply below_alloc | apply pw_below_drewN | apply below_drew1) | exact HB.out)) hb); have n1_ := Aside0.mk (hbox); have n2_ := Aside0.mk ((by rw [hg]; exact (below_size (by repeat (first | (with_reducible first | exact HB.out | apply below_alloc | apply pw_below_drewN | apply below_drew1) | exact HB.out))) : w.heap.size ≤ gb170)); have n3_ := Aside0.mk ((by rw [hg]; exact (below_size (by repeat (first | (with_reducible first | exact HB.out | apply below_alloc | apply pw_below_drewN | apply below_drew1) | exact HB.out))) : w.heap.size ≤ gb170)); clear HB; have HB := n0_; have BK170 := n1_; have GW170 := n2_; have GE170 := n3_; clear n0_ n1_ n2_ n3_; clear hb hbox hg; have hcz16_0 : w15.cell? ⟨gb170, 0, none⟩ = some (.int .i64 0) := (blk_cell BK170.out 0).trans rfl; have hcz16_1 : w15.cell? ⟨gb170, 1, none⟩ = some (.int .i64 0) := (blk_cell BK170.out 1).trans rfl; have hcz16_2 : w15.cell? ⟨gb170, 2, none⟩ = some (.int .i64 0) := (blk_cell BK170.out 2).trans rfl; have hcz16_3 : w15.cell? ⟨gb170, 3, none⟩ = some (.string (⟨#[]⟩ : ByteArray)) := (blk_cell BK170.out 3).trans rfl; have hcz16_4 : w15.cell? ⟨gb170, 4, none⟩ = some (.int .i64 0) := (blk_cell BK170.out 4).trans rfl; have hfz16_0 := blk_frozen BK170.out 0; have hfz16_1 := blk_frozen BK170.out 1; have hfz16_2 := blk_frozen BK170.out 2; have hfz16_3 := blk_frozen BK170.out 3; have hfz16_4 := blk_frozen BK170.out 4))
              go_ret
              exact ⟨by first | rfl | (simp [errW_none, errW_some] <;> rfl) | (simp only [← hji3]; first | rfl | (simp [errW_none, errW_some] <;> rfl)) | (simp [*, errW_none, errW_some] <;> rfl), by repeat (first | (with_reducible first | exact HB.out | apply below_alloc | apply pw_below_drewN | apply below_drew1 | refine below_set ?_ GE170.out) | exact HB.out)⟩
            · rw [if_neg c14] at H
              exact absurd H (by simp)
          · rw [if_neg c13] at H
            exact absurd H (by simp)
        · rw [if_neg c12] at H
          have c12b0 : (((rd_T104 l0 (ji3)).f0) == 2) = false := beq_eq_false_iff_ne.mpr c12
          have c12b1 : (((rd_T104 l0 (ji3)).f0) != 2) = true := bne_iff_ne.mpr c12
          by_cases c17 : ((rd_T104 l0 (ji3)).f0) = 3
          · rw [if_pos c17] at H
            have c17b0 : (((rd_T104 l0 (ji3)).f0) == 3) = true := beq_iff_eq.mpr c17
            have c17b1 : (((rd_T104 l0 (ji3)).f0) != 3) = false := bne_eq_false_iff_eq.mpr c17
            clear c17
            replace H := Option.bind_eq_some_iff.mp H
            obtain ⟨t172, A180, H⟩ := H
            replace H : (if 4 + t172.size ≤ 9223372036854775807 then (if ((⟨#[107, 100, 102, 40]⟩ : ByteArray) ++ t172).size + 1 ≤ 9223372036854775807 then (if (((⟨#[107, 100, 102, 40]⟩ : ByteArray) ++ t172) ++ (⟨#[44]⟩ : ByteArray)).size + ((rd_T104 l0 (ji3)).f3).size ≤ 9223372036854775807 then (if ((((⟨#[107, 100, 102, 40]⟩ : ByteArray) ++ t172) ++ (⟨#[44]⟩ : ByteArray)) ++ ((rd_T104 l0 (ji3)).f3)).size + 1 ≤ 9223372036854775807 then (some (((((⟨#[107, 100, 102, 40]⟩ : ByteArray) ++ t172) ++ (⟨#[44]⟩ : ByteArray)) ++ ((rd_T104 l0 (ji3)).f3)) ++ (⟨#[41]⟩ : ByteArray))) else (none)) else (none)) else (none)) else (none)) = some r := H
            have A18 := Aside0.mk A180
            clear A180
            by_cases c19 : 4 + t172.size ≤ 9223372036854775807
            · rw [if_pos c19] at H
              have c19b0 := eq_true c19
              have c19b1 : decide (4 + t172.size ≤ 9223372036854775807) = true := decide_eq_true c19
              try have c19b2 : (9223372036854775807 < 4 + t172.size) = False := eq_false (Nat.not_lt.2 c19)
              try (have c19b3 := c19b2; simp only [ByteArray.size_append, show (⟨#[97]⟩ : ByteArray).size = 1 from rfl, show (⟨#[39]⟩ : ByteArray).size = 1 from rfl, show (⟨#[44]⟩ : ByteArray).size = 1 from rfl, show (⟨#[41]⟩ : ByteArray).size = 1 from rfl, show (⟨#[107, 100, 102, 40]⟩ : ByteArray).size = 4 from rfl, show (⟨#[109, 105, 120, 40]⟩ : ByteArray).size = 4 from rfl, show (⟨#[101, 110, 99, 40]⟩ : ByteArray).size = 4 from rfl] at c19b3)
              by_cases c20 : ((⟨#[107, 100, 102, 40]⟩ : ByteArray) ++ t172).size + 1 ≤ 9223372036854775807
              · rw [if_pos c20] at H
                have c20b0 := eq_true c20
                have c20b1 : decide (((⟨#[107, 100, 102, 40]⟩ : ByteArray) ++ t172).size + 1 ≤ 9223372036854775807) = true := decide_eq_true c20
                try have c20b2 : (9223372036854775807 < ((⟨#[107, 100, 102, 40]⟩ : ByteArray) ++ t172).size + 1) = False := eq_false (Nat.not_lt.2 c20)
                try (have c20b3 := c20b2; simp only [ByteArray.size_append, show (⟨#[97]⟩ : ByteArray).size = 1 from rfl, show (⟨#[39]⟩ : ByteArray).size = 1 from rfl, show (⟨#[44]⟩ : ByteArray).size = 1 from rfl, show (⟨#[41]⟩ : ByteArray).size = 1 from rfl, show (⟨#[107, 100, 102, 40]⟩ : ByteArray).size = 4 from rfl, show (⟨#[109, 105, 120, 40]⟩ : ByteArray).size = 4 from rfl, show (⟨#[101, 110, 99, 40]⟩ : ByteArray).size = 4 from rfl] at c20b3)
                by_cases c21 : (((⟨#[107, 100, 102, 40]⟩ : ByteArray) ++ t172) ++ (⟨#[44]⟩ : ByteArray)).size + ((rd_T104 l0 (ji3)).f3).size ≤ 9223372036854775807
                · rw [if_pos c21] at H
                  have c21b0 := eq_true c21
                  have c21b1 : decide ((((⟨#[107, 100, 102, 40]⟩ : ByteArray) ++ t172) ++ (⟨#[44]⟩ : ByteArray)).size + ((rd_T104 l0 (ji3)).f3).size ≤ 9223372036854775807) = true := decide_eq_true c21
                  try have c21b2 : (9223372036854775807 < (((⟨#[107, 100, 102, 40]⟩ : ByteArray) ++ t172) ++ (⟨#[44]⟩ : ByteArray)).size + ((rd_T104 l0 (ji3)).f3).size) = False := eq_false (Nat.not_lt.2 c21)
                  try (have c21b3 := c21b2; simp only [ByteArray.size_append, show (⟨#[97]⟩ : ByteArray).size = 1 from rfl, show (⟨#[39]⟩ : ByteArray).size = 1 from rfl, show (⟨#[44]⟩ : ByteArray).size = 1 from rfl, show (⟨#[41]⟩ : ByteArray).size = 1 from rfl, show (⟨#[107, 100, 102, 40]⟩ : ByteArray).size = 4 from rfl, show (⟨#[109, 105, 120, 40]⟩ : ByteArray).size = 4 from rfl, show (⟨#[101, 110, 99, 40]⟩ : ByteArray).size = 4 from rfl] at c21b3)
                  by_cases c22 : ((((⟨#[107, 100, 102, 40]⟩ : ByteArray) ++ t172) ++ (⟨#[44]⟩ : ByteArray)) ++ ((rd_T104 l0 (ji3)).f3)).size + 1 ≤ 9223372036854775807
                  · rw [if_pos c22] at H
                    have c22b0 := eq_true c22
                    have c22b1 : decide (((((⟨#[107, 100, 102, 40]⟩ : ByteArray) ++ t172) ++ (⟨#[44]⟩ : ByteArray)) ++ ((rd_T104 l0 (ji3)).f3)).size + 1 ≤ 9223372036854775807) = true := decide_eq_true c22
                    try have c22b2 : (9223372036854775807 < ((((⟨#[107, 100, 102, 40]⟩ : ByteArray) ++ t172) ++ (⟨#[44]⟩ : ByteArray)) ++ ((rd_T104 l0 (ji3)).f3)).size + 1) = False := eq_false (Nat.not_lt.2 c22)
                    try (have c22b3 := c22b2; simp only [ByteArray.size_append, show (⟨#[97]⟩ : ByteArray).size = 1 from rfl, show (⟨#[39]⟩ : ByteArray).size = 1 from rfl, show (⟨#[44]⟩ : ByteArray).size = 1 from rfl, show (⟨#[41]⟩ : ByteArray).size = 1 from rfl, show (⟨#[107, 100, 102, 40]⟩ : ByteArray).size = 4 from rfl, show (⟨#[109, 105, 120, 40]⟩ : ByteArray).size = 4 from rfl, show (⟨#[101, 110, 99, 40]⟩ : ByteArray).size = 4 from rfl] at c22b3)
                    obtain rfl := Option.some.inj H
                    have p169 : 0 ≤ ((ji3) : Int) := of_decide_eq_true (by first | (with_reducible assumption) | assumption)
                    have q169 : (ji3) < (l0.length : Int) := of_decide_eq_true (by first | (with_reducible assumption) | assumption)
                    obtain ⟨ad169, e169, hx169_0, hx169_1, hx169_2, hx169_3, hx169_4⟩ := at_T104 HR0.out (ji3) p169 q169
                    cases e169
                    replace p169 := eq_true p169
                    replace q169 := eq_true q169
                    go_enter Tryd.func114, Tryd.ntmps114
                    try go_wp2_with (first | ((with_reducible refine gate_dst (N := 5) rfl ?_); refine box_event ?hg (N := 5) ?hd (cs := #[.int .i64 0, .int .i64 0, .int .i64 0, .string (⟨#[]⟩ : ByteArray), .int .i64 0]) (t := 104) ?hr ?_; (case hd => rfl); (case hg => rfl); (case hr => first | (go_simp; done) | (go_simp; rfl)); intro gb170 hg w23 hbox hb; have n0_ := Aside0.mk (below_step (by repeat (first | (with_reducible first | exact HB.out | apply below_alloc | apply pw_below_drewN | apply below_drew1) | exact HB.out)) hb); have n1_ := Aside0.mk (hbox); have n2_ := Aside0.mk ((by rw [hg]; exact (below_size (by repeat (first | (with_reducible first | exact HB.out | apply below_alloc | apply pw_below_drewN | apply below_drew1) | exact HB.out))) : w.heap.size ≤ gb170)); have n3_ := Aside0.mk ((by rw [hg]; exact (below_size (by repeat (first | (with_reducible first | exact HB.out | apply below_alloc | apply pw_below_drewN | apply below_drew1) | exact HB.out))) : w.heap.size ≤ gb170)); clear HB; have HB := n0_; have BK170 := n1_; have GW170 := n2_; have GE170 := n3_; clear n0_ n1_ n2_ n3_; clear hb hbox hg; have hcz24_0 : w23.cell? ⟨gb170, 0, none⟩ = some (.int .i64 0) := (blk_cell BK170.out 0).trans rfl; have hcz24_1 : w23.cell? ⟨gb170, 1, none⟩ = some (.int .i64 0) := (blk_cell BK170.out 1).trans rfl; have hcz24_2 : w23.cell? ⟨gb170, 2, none⟩ = some (.int .i64 0) := (blk_cell BK170.out 2).trans rfl; have hcz24_3 : w23.cell? ⟨gb170, 3, none⟩ = some (.string (⟨#[]⟩ : ByteArray)) := (blk_cell BK170.out 3).trans rfl; have hcz24_4 : w23.cell? ⟨gb170, 4, none⟩ = some (.int .i64 0) := (blk_cell BK170.out 4).trans rfl; have hfz24_0 := blk_frozen BK170.out 0; have hfz24_1 := blk_frozen BK170.out 1; have hfz24_2 := blk_frozen BK170.out 2; have hfz24_3 := blk_frozen BK170.out 3; have hfz24_4 := blk_frozen BK170.out 4))
                    have n0_ : Aside0 ((((((w23.setCell ⟨gb170, 0, none⟩ (.int .i64 ((rd_T104 l0 (ji3)).f0))).setCell ⟨gb170, 1, none⟩ (.int .i64 ((rd_T104 l0 (ji3)).f1))).setCell ⟨gb170, 2, none⟩ (.int .i64 ((rd_T104 l0 (ji3)).f2))).setCell ⟨gb170, 3, none⟩ (.string ((rd_T104 l0 (ji3)).f3))).setCell ⟨gb170, 4, none⟩ (.int .i64 ((rd_T104 l0 (ji3)).f4))).heap[gb170]? = some (.cells #[.int .i64 ((rd_T104 l0 (ji3)).f0), .int .i64 ((rd_T104 l0 (ji3)).f1), .int .i64 ((rd_T104 l0 (ji3)).f2), .string ((rd_T104 l0 (ji3)).f3), .int .i64 ((rd_T104 l0 (ji3)).f4)] 104 (0, 0))) := ⟨by (with_reducible repeat (first | refine blk_drewN ?_ _ | refine blk_drew ?_ | refine blk_alloc ?_ _)); refine blk_put (cs := #[.int .i64 ((rd_T104 l0 (ji3)).f0), .int .i64 ((rd_T104 l0 (ji3)).f1), .int .i64 ((rd_T104 l0 (ji3)).f2), .string ((rd_T104 l0 (ji3)).f3), .int .i64 0]) ?_ 4 _ rfl; (with_reducible repeat (first | refine blk_drewN ?_ _ | refine blk_drew ?_ | refine blk_alloc ?_ _)); refine blk_put (cs := #[.int .i64 ((rd_T104 l0 (ji3)).f0), .int .i64 ((rd_T104 l0 (ji3)).f1), .int .i64 ((rd_T104 l0 (ji3)).f2), .string (⟨#[]⟩ : ByteArray), .int .i64 0]) ?_ 3 _ rfl; (with_reducible repeat (first | refine blk_drewN ?_ _ | refine blk_drew ?_ | refine blk_alloc ?_ _)); refine blk_put (cs := #[.int .i64 ((rd_T104 l0 (ji3)).f0), .int .i64 ((rd_T104 l0 (ji3)).f1), .int .i64 0, .string (⟨#[]⟩ : ByteArray), .int .i64 0]) ?_ 2 _ rfl; (with_reducible repeat (first | refine blk_drewN ?_ _ | refine blk_drew ?_ | refine blk_alloc ?_ _)); refine blk_put (cs := #[.int .i64 ((rd_T104 l0 (ji3)).f0), .int .i64 0, .int .i64 0, .string (⟨#[]⟩ : ByteArray), .int .i64 0]) ?_ 1 _ rfl; (with_reducible repeat (first | refine blk_drewN ?_ _ | refine blk_drew ?_ | refine blk_alloc ?_ _)); refine blk_put (cs := #[.int .i64 0, .int .i64 0, .int .i64 0, .string (⟨#[]⟩ : ByteArray), .int .i64 0]) ?_ 0 _ rfl; (with_reducible repeat (first | refine blk_drewN ?_ _ | refine blk_drew ?_ | refine blk_alloc ?_ _)); exact BK170.out⟩
                    have n1_ : Aside0 (Below w.heap.size w (((((w23.setCell ⟨gb170, 0, none⟩ (.int .i64 ((rd_T104 l0 (ji3)).f0))).setCell ⟨gb170, 1, none⟩ (.int .i64 ((rd_T104 l0 (ji3)).f1))).setCell ⟨gb170, 2, none⟩ (.int .i64 ((rd_T104 l0 (ji3)).f2))).setCell ⟨gb170, 3, none⟩ (.string ((rd_T104 l0 (ji3)).f3))).setCell ⟨gb170, 4, none⟩ (.int .i64 ((rd_T104 l0 (ji3)).f4)))) := ⟨by repeat (first | (with_reducible first | exact HB.out | apply below_alloc | apply pw_below_drewN | apply below_drew1 | refine below_set ?_ GE170.out) | exact HB.out)⟩
                    (try clear BK170)
                    (try clear HB)
                    generalize (((((w23.setCell ⟨gb170, 0, none⟩ (.int .i64 ((rd_T104 l0 (ji3)).f0))).setCell ⟨gb170, 1, none⟩ (.int .i64 ((rd_T104 l0 (ji3)).f1))).setCell ⟨gb170, 2, none⟩ (.int .i64 ((rd_T104 l0 (ji3)).f2))).setCell ⟨gb170, 3, none⟩ (.string ((rd_T104 l0 (ji3)).f3))).setCell ⟨gb170, 4, none⟩ (.int .i64 ((rd_T104 l0 (ji3)).f4))) = w25 at n0_ n1_ ⊢
                    have BK170 := n0_
                    have HB := n1_
                    clear n0_ n1_
                    have n0_ := Aside0.mk (blk_drew BK170.out)
                    have n1_ := Aside0.mk (below_drew1 HB.out)
                    clear BK170
                    clear HB
                    have BK170 := n0_
                    have HB := n1_
                    clear n0_ n1_
                    refine start_ (n := 11) (S := fun w' => w'.cell? ⟨gb170, 0, none⟩ = some (.int .i64 ((rd_T104 l0 (ji3)).f0)) ∧ w'.cell? ⟨gb170, 1, none⟩ = some (.int .i64 ((rd_T104 l0 (ji3)).f1)) ∧ w'.cell? ⟨gb170, 2, none⟩ = some (.int .i64 ((rd_T104 l0 (ji3)).f2)) ∧ w'.cell? ⟨gb170, 3, none⟩ = some (.string ((rd_T104 l0 (ji3)).f3)) ∧ w'.cell? ⟨gb170, 4, none⟩ = some (.int .i64 ((rd_T104 l0 (ji3)).f4))) (ds := []) #[false, false, false, false, false, false, false, false, false, false, false] (by kernel_rfl) rfl rfl ⟨(blk_cell BK170.out 0).trans rfl, (blk_cell BK170.out 1).trans rfl, (blk_cell BK170.out 2).trans rfl, (blk_cell BK170.out 3).trans rfl, (blk_cell BK170.out 4).trans rfl⟩ (fun hHeld => ?_); refine with_tabW oublietteref15_Table_text.tab8 oublietteref15_Table_text.bits8 (fun HT_ HW_ => ?_)
                    generalize w25.drew = w26 at BK170 HB hHeld ⊢
                    refine pure_ (i := 0) (N := some 27) (v := ?_) (a' := ?_) #[true, false, false, false, false, false, false, false, false, false, false] rfl rfl (any_of HT_.out (by kernel_rfl)) (fun _ _ _ h => h) (Or.inl ⟨by rfl, ?_⟩) ?_ ?_
                    rotate_left
                    · intro w'
                      go_simp
                      with_reducible rfl
                    rotate_left
                    · simp only [Act.put, List.setIfInBounds_toArray, List.set_cons_zero, List.set_cons_succ, i64_w, i32_w]
                      rfl
                    refine pure_ (i := 1) (N := some 28) (v := ?_) (a' := ?_) #[true, true, false, false, false, false, false, false, false, false, false] rfl rfl (any_of HT_.out (by kernel_rfl)) (fun _ _ _ h => h) (Or.inl ⟨by rfl, ?_⟩) ?_ ?_
                    rotate_left
                    · intro w'
                      go_simp
                      with_reducible rfl
                    rotate_left
                    · simp only [Act.put, List.setIfInBounds_toArray, List.set_cons_zero, List.set_cons_succ, i64_w, i32_w]
                      rfl
                    refine pure_ (i := 6) (N := some 33) (v := ?_) (a' := ?_) #[true, true, false, false, false, false, true, false, false, false, false] rfl rfl (any_of HT_.out (by kernel_rfl)) (fun _ _ _ h => h) (Or.inl ⟨by rfl, ?_⟩) ?_ ?_
                    rotate_left
                    · intro w'
                      go_simp
                      with_reducible rfl
                    rotate_left
                    · simp only [Act.put, List.setIfInBounds_toArray, List.set_cons_zero, List.set_cons_succ, i64_w, i32_w]
                      rfl
                    refine take_ (i := 2) (N := some 29) (v := ?_) (a' := ?_) #[true, true, true, false, false, false, true, false, false, false, false] rfl rfl (take_ofW HT_.out HW_.out (by kernel_rfl)) (fun _ _ _ h => h) (Or.inl ⟨by rfl, ?_⟩) hHeld ?_ ?_
                    rotate_left
                    · rintro w' ⟨s0, s1, s2, s3, s4⟩
                      go_simp
                      with_reducible rfl
                    rotate_left
                    · simp only [Act.put, List.setIfInBounds_toArray, List.set_cons_zero, List.set_cons_succ, i64_w, i32_w]
                      rfl
                    refine take_ (i := 7) (N := some 34) (v := ?_) (a' := ?_) #[true, true, true, false, false, false, true, true, false, false, false] rfl rfl (take_ofW HT_.out HW_.out (by kernel_rfl)) (fun _ _ _ h => h) (Or.inl ⟨by rfl, ?_⟩) hHeld ?_ ?_
                    rotate_left
                    · rintro w' ⟨s0, s1, s2, s3, s4⟩
                      go_simp
                      with_reducible rfl
                    rotate_left
                    · simp only [Act.put, List.setIfInBounds_toArray, List.set_cons_zero, List.set_cons_succ, i64_w, i32_w]
                      rfl
                    refine one_ (i := 3) (N := some 30) #[true, true, true, true, false, false, true, true, false, false, false] rfl rfl (one_of HT_.out (by kernel_rfl)) (by decide) (fun K hK => ?_)
                    refine goes_ Tryd.func114 (by kernel_rfl) rfl #[.slice (some ad169) l0.length c0, .int .i64 ((rd_T104 l0 (ji3)).f1)] (by rfl) rfl rfl (by (try simp only [List.map_toArray, List.map_cons, List.map_nil]); first | done | (simp only [hji3]; rfl) | rfl | (simp only [List.length_drop, List.length_take]; rfl)) ?_
                    with_reducible refine (ih k (by omega) _ _ l0 ((rd_T104 l0 (ji3)).f1) t172 _ ?side1 ?side2 A18.out).mono ?_
                    (case side1 => repeat (first | exact (Kd.C_below HR0.out HB.out) | (with_reducible refine Kd.C_alloc ?_ _) | (with_reducible refine Kd.C_drewN ?_ _) | (with_reducible refine Kd.C_drew ?_)))
                    (case side2 => exact HC0.out)
                    rintro e w27 ⟨rfl, hb⟩
                    refine ⟨_, rfl, ?_⟩
                    have n0_ := Aside0.mk (blk_below (g := gb170) (o := .cells #[.int .i64 ((rd_T104 l0 (ji3)).f0), .int .i64 ((rd_T104 l0 (ji3)).f1), .int .i64 ((rd_T104 l0 (ji3)).f2), .string ((rd_T104 l0 (ji3)).f3), .int .i64 ((rd_T104 l0 (ji3)).f4)] 104 (0, 0)) (by (with_reducible repeat (first | refine blk_drewN ?_ _ | refine blk_drew ?_ | refine blk_alloc ?_ _)); exact BK170.out) hb)
                    have n1_ := Aside0.mk (below_step (by repeat (first | (with_reducible first | exact HB.out | apply below_alloc | apply pw_below_drewN | apply below_drew1 | refine below_set ?_ GE170.out) | exact HB.out)) hb)
                    clear BK170
                    clear HB
                    have BK170 := n0_
                    have HB := n1_
                    clear n0_ n1_
                    (try clear hb)
                    (try clear hb2)
                    (try clear hk)
                    (try clear hi)
                    refine hK.out _ _ ⟨(blk_cell BK170.out 0).trans rfl, (blk_cell BK170.out 1).trans rfl, (blk_cell BK170.out 2).trans rfl, (blk_cell BK170.out 3).trans rfl, (blk_cell BK170.out 4).trans rfl⟩ (fun hHeld => ?_)
                    clear hK K
                    refine norm_ (a' := ?_) ?_ ?_
                    rotate_left
                    · show Act.put _ (some 30) _ = _
                      simp only [Act.put, List.setIfInBounds_toArray, List.set_cons_zero, List.set_cons_succ, i64_w, i32_w]
                      rfl
                    refine pure_ (i := 4) (N := some 31) (v := ?_) (a' := ?_) #[true, true, true, true, true, false, true, true, false, false, false] rfl rfl (any_of HT_.out (by kernel_rfl)) (fun _ _ _ h => h) (Or.inl ⟨by rfl, ?_⟩) ?_ ?_
                    rotate_left
                    · intro w'
                      go_simp
                      with_reducible rfl
                    rotate_left
                    · simp only [Act.put, List.setIfInBounds_toArray, List.set_cons_zero, List.set_cons_succ, i64_w, i32_w]
                      rfl
                    refine pure_ (i := 5) (N := some 32) (v := ?_) (a' := ?_) #[true, true, true, true, true, true, true, true, false, false, false] rfl rfl (any_of HT_.out (by kernel_rfl)) (fun _ _ _ h => h) (Or.inl ⟨by rfl, ?_⟩) ?_ ?_
                    rotate_left
                    · intro w'
                      go_simp
                      with_reducible rfl
                    rotate_left
                    · simp only [Act.put, List.setIfInBounds_toArray, List.set_cons_zero, List.set_cons_succ, i64_w, i32_w]
                      rfl
                    refine pure_ (i := 8) (N := some 35) (v := ?_) (a' := ?_) #[true, true, true, true, true, true, true, true, true, false, false] rfl rfl (any_of HT_.out (by kernel_rfl)) (fun _ _ _ h => h) (Or.inl ⟨by rfl, ?_⟩) ?_ ?_
                    rotate_left
                    · intro w'
                      go_simp
                      with_reducible rfl
                    rotate_left
                    · simp only [Act.put, List.setIfInBounds_toArray, List.set_cons_zero, List.set_cons_succ, i64_w, i32_w]
                      rfl
                    refine pure_ (i := 9) (N := some 36) (v := ?_) (a' := ?_) #[true, true, true, true, true, true, true, true, true, true, false] rfl rfl (any_of HT_.out (by kernel_rfl)) (fun _ _ _ h => h) (Or.inl ⟨by rfl, ?_⟩) ?_ ?_
                    rotate_left
                    · intro w'
                      go_simp
                      with_reducible rfl
                    rotate_left
                    · simp only [Act.put, List.setIfInBounds_toArray, List.set_cons_zero, List.set_cons_succ, i64_w, i32_w]
                      rfl
                    refine pure_ (i := 10) (N := some 4) (v := ?_) (a' := ?_) #[true, true, true, true, true, true, true, true, true, true, true] rfl rfl (any_of HT_.out (by kernel_rfl)) (fun _ _ _ h => h) (Or.inl ⟨by rfl, ?_⟩) ?_ ?_
                    rotate_left
                    · intro w'
                      go_simp
                      with_reducible rfl
                    rotate_left
                    · simp only [Act.put, List.setIfInBounds_toArray, List.set_cons_zero, List.set_cons_succ, i64_w, i32_w]
                      rfl
                    refine done_ (done_of HT_.out (by kernel_rfl)) ?_
                    try go_wp2
                    go_ret
                    exact ⟨by first | rfl | (simp [errW_none, errW_some] <;> rfl) | (simp only [← hji3]; first | rfl | (simp [errW_none, errW_some] <;> rfl)) | (simp [*, errW_none, errW_some] <;> rfl), by repeat (first | (with_reducible first | exact HB.out | apply below_alloc | apply pw_below_drewN | apply below_drew1 | refine below_set ?_ GE170.out) | exact HB.out)⟩
                  · rw [if_neg c22] at H
                    exact absurd H (by simp)
                · rw [if_neg c21] at H
                  exact absurd H (by simp)
              · rw [if_neg c20] at H
                exact absurd H (by simp)
            · rw [if_neg c19] at H
              exact absurd H (by simp)
          · rw [if_neg c17] at H
            have c17b0 : (((rd_T104 l0 (ji3)).f0) == 3) = false := beq_eq_false_iff_ne.mpr c17
            have c17b1 : (((rd_T104 l0 (ji3)).f0) != 3) = true := bne_iff_ne.mpr c17
            by_cases c28 : ((rd_T104 l0 (ji3)).f0) = 4
            · rw [if_pos c28] at H
              have c28b0 : (((rd_T104 l0 (ji3)).f0) == 4) = true := beq_iff_eq.mpr c28
              have c28b1 : (((rd_T104 l0 (ji3)).f0) != 4) = false := bne_eq_false_iff_eq.mpr c28
              clear c28
              replace H := Option.bind_eq_some_iff.mp H
              obtain ⟨t173, A290, H⟩ := H
              replace H : (if 4 + t173.size ≤ 9223372036854775807 then (if ((⟨#[109, 105, 120, 40]⟩ : ByteArray) ++ t173).size + 1 ≤ 9223372036854775807 then ((oublietteref15_Table_text.f k l0 ((rd_T104 l0 (ji3)).f2)).bind fun t174 => (if (((⟨#[109, 105, 120, 40]⟩ : ByteArray) ++ t173) ++ (⟨#[44]⟩ : ByteArray)).size + t174.size ≤ 9223372036854775807 then (if ((((⟨#[109, 105, 120, 40]⟩ : ByteArray) ++ t173) ++ (⟨#[44]⟩ : ByteArray)) ++ t174).size + 1 ≤ 9223372036854775807 then (some (((((⟨#[109, 105, 120, 40]⟩ : ByteArray) ++ t173) ++ (⟨#[44]⟩ : ByteArray)) ++ t174) ++ (⟨#[41]⟩ : ByteArray))) else (none)) else (none))) else (none)) else (none)) = some r := H
              have A29 := Aside0.mk A290
              clear A290
              by_cases c30 : 4 + t173.size ≤ 9223372036854775807
              · rw [if_pos c30] at H
                have c30b0 := eq_true c30
                have c30b1 : decide (4 + t173.size ≤ 9223372036854775807) = true := decide_eq_true c30
                try have c30b2 : (9223372036854775807 < 4 + t173.size) = False := eq_false (Nat.not_lt.2 c30)
                try (have c30b3 := c30b2; simp only [ByteArray.size_append, show (⟨#[97]⟩ : ByteArray).size = 1 from rfl, show (⟨#[39]⟩ : ByteArray).size = 1 from rfl, show (⟨#[44]⟩ : ByteArray).size = 1 from rfl, show (⟨#[41]⟩ : ByteArray).size = 1 from rfl, show (⟨#[107, 100, 102, 40]⟩ : ByteArray).size = 4 from rfl, show (⟨#[109, 105, 120, 40]⟩ : ByteArray).size = 4 from rfl, show (⟨#[101, 110, 99, 40]⟩ : ByteArray).size = 4 from rfl] at c30b3)
                by_cases c31 : ((⟨#[109, 105, 120, 40]⟩ : ByteArray) ++ t173).size + 1 ≤ 9223372036854775807
                · rw [if_pos c31] at H
                  have c31b0 := eq_true c31
                  have c31b1 : decide (((⟨#[109, 105, 120, 40]⟩ : ByteArray) ++ t173).size + 1 ≤ 9223372036854775807) = true := decide_eq_true c31
                  try have c31b2 : (9223372036854775807 < ((⟨#[109, 105, 120, 40]⟩ : ByteArray) ++ t173).size + 1) = False := eq_false (Nat.not_lt.2 c31)
                  try (have c31b3 := c31b2; simp only [ByteArray.size_append, show (⟨#[97]⟩ : ByteArray).size = 1 from rfl, show (⟨#[39]⟩ : ByteArray).size = 1 from rfl, show (⟨#[44]⟩ : ByteArray).size = 1 from rfl, show (⟨#[41]⟩ : ByteArray).size = 1 from rfl, show (⟨#[107, 100, 102, 40]⟩ : ByteArray).size = 4 from rfl, show (⟨#[109, 105, 120, 40]⟩ : ByteArray).size = 4 from rfl, show (⟨#[101, 110, 99, 40]⟩ : ByteArray).size = 4 from rfl] at c31b3)
                  replace H := Option.bind_eq_some_iff.mp H
                  obtain ⟨t174, A320, H⟩ := H
                  replace H : (if (((⟨#[109, 105, 120, 40]⟩ : ByteArray) ++ t173) ++ (⟨#[44]⟩ : ByteArray)).size + t174.size ≤ 9223372036854775807 then (if ((((⟨#[109, 105, 120, 40]⟩ : ByteArray) ++ t173) ++ (⟨#[44]⟩ : ByteArray)) ++ t174).size + 1 ≤ 9223372036854775807 then (some (((((⟨#[109, 105, 120, 40]⟩ : ByteArray) ++ t173) ++ (⟨#[44]⟩ : ByteArray)) ++ t174) ++ (⟨#[41]⟩ : ByteArray))) else (none)) else (none)) = some r := H
                  have A32 := Aside0.mk A320
                  clear A320
                  by_cases c33 : (((⟨#[109, 105, 120, 40]⟩ : ByteArray) ++ t173) ++ (⟨#[44]⟩ : ByteArray)).size + t174.size ≤ 9223372036854775807
                  · rw [if_pos c33] at H
                    have c33b0 := eq_true c33
                    have c33b1 : decide ((((⟨#[109, 105, 120, 40]⟩ : ByteArray) ++ t173) ++ (⟨#[44]⟩ : ByteArray)).size + t174.size ≤ 9223372036854775807) = true := decide_eq_true c33
                    try have c33b2 : (9223372036854775807 < (((⟨#[109, 105, 120, 40]⟩ : ByteArray) ++ t173) ++ (⟨#[44]⟩ : ByteArray)).size + t174.size) = False := eq_false (Nat.not_lt.2 c33)
                    try (have c33b3 := c33b2; simp only [ByteArray.size_append, show (⟨#[97]⟩ : ByteArray).size = 1 from rfl, show (⟨#[39]⟩ : ByteArray).size = 1 from rfl, show (⟨#[44]⟩ : ByteArray).size = 1 from rfl, show (⟨#[41]⟩ : ByteArray).size = 1 from rfl, show (⟨#[107, 100, 102, 40]⟩ : ByteArray).size = 4 from rfl, show (⟨#[109, 105, 120, 40]⟩ : ByteArray).size = 4 from rfl, show (⟨#[101, 110, 99, 40]⟩ : ByteArray).size = 4 from rfl] at c33b3)
                    by_cases c34 : ((((⟨#[109, 105, 120, 40]⟩ : ByteArray) ++ t173) ++ (⟨#[44]⟩ : ByteArray)) ++ t174).size + 1 ≤ 9223372036854775807
                    · rw [if_pos c34] at H
                      have c34b0 := eq_true c34
                      have c34b1 : decide (((((⟨#[109, 105, 120, 40]⟩ : ByteArray) ++ t173) ++ (⟨#[44]⟩ : ByteArray)) ++ t174).size + 1 ≤ 9223372036854775807) = true := decide_eq_true c34
                      try have c34b2 : (9223372036854775807 < ((((⟨#[109, 105, 120, 40]⟩ : ByteArray) ++ t173) ++ (⟨#[44]⟩ : ByteArray)) ++ t174).size + 1) = False := eq_false (Nat.not_lt.2 c34)
                      try (have c34b3 := c34b2; simp only [ByteArray.size_append, show (⟨#[97]⟩ : ByteArray).size = 1 from rfl, show (⟨#[39]⟩ : ByteArray).size = 1 from rfl, show (⟨#[44]⟩ : ByteArray).size = 1 from rfl, show (⟨#[41]⟩ : ByteArray).size = 1 from rfl, show (⟨#[107, 100, 102, 40]⟩ : ByteArray).size = 4 from rfl, show (⟨#[109, 105, 120, 40]⟩ : ByteArray).size = 4 from rfl, show (⟨#[101, 110, 99, 40]⟩ : ByteArray).size = 4 from rfl] at c34b3)
                      obtain rfl := Option.some.inj H
                      have p169 : 0 ≤ ((ji3) : Int) := of_decide_eq_true (by first | (with_reducible assumption) | assumption)
                      have q169 : (ji3) < (l0.length : Int) := of_decide_eq_true (by first | (with_reducible assumption) | assumption)
                      obtain ⟨ad169, e169, hx169_0, hx169_1, hx169_2, hx169_3, hx169_4⟩ := at_T104 HR0.out (ji3) p169 q169
                      cases e169
                      replace p169 := eq_true p169
                      replace q169 := eq_true q169
                      go_enter Tryd.func114, Tryd.ntmps114
                      try go_wp2_with (first | ((with_reducible refine gate_dst (N := 5) rfl ?_); refine box_event ?hg (N := 5) ?hd (cs := #[.int .i64 0, .int .i64 0, .int .i64 0, .string (⟨#[]⟩ : ByteArray), .int .i64 0]) (t := 104) ?hr ?_; (case hd => rfl); (case hg => rfl); (case hr => first | (go_simp; done) | (go_simp; rfl)); intro gb170 hg w35 hbox hb; have n0_ := Aside0.mk (below_step (by repeat (first | (with_reducible first | exact HB.out | apply below_alloc | apply pw_below_drewN | apply below_drew1) | exact HB.out)) hb); have n1_ := Aside0.mk (hbox); have n2_ := Aside0.mk ((by rw [hg]; exact (below_size (by repeat (first | (with_reducible first | exact HB.out | apply below_alloc | apply pw_below_drewN | apply below_drew1) | exact HB.out))) : w.heap.size ≤ gb170)); have n3_ := Aside0.mk ((by rw [hg]; exact (below_size (by repeat (first | (with_reducible first | exact HB.out | apply below_alloc | apply pw_below_drewN | apply below_drew1) | exact HB.out))) : w.heap.size ≤ gb170)); clear HB; have HB := n0_; have BK170 := n1_; have GW170 := n2_; have GE170 := n3_; clear n0_ n1_ n2_ n3_; clear hb hbox hg; have hcz36_0 : w35.cell? ⟨gb170, 0, none⟩ = some (.int .i64 0) := (blk_cell BK170.out 0).trans rfl; have hcz36_1 : w35.cell? ⟨gb170, 1, none⟩ = some (.int .i64 0) := (blk_cell BK170.out 1).trans rfl; have hcz36_2 : w35.cell? ⟨gb170, 2, none⟩ = some (.int .i64 0) := (blk_cell BK170.out 2).trans rfl; have hcz36_3 : w35.cell? ⟨gb170, 3, none⟩ = some (.string (⟨#[]⟩ : ByteArray)) := (blk_cell BK170.out 3).trans rfl; have hcz36_4 : w35.cell? ⟨gb170, 4, none⟩ = some (.int .i64 0) := (blk_cell BK170.out 4).trans rfl; have hfz36_0 := blk_frozen BK170.out 0; have hfz36_1 := blk_frozen BK170.out 1; have hfz36_2 := blk_frozen BK170.out 2; have hfz36_3 := blk_frozen BK170.out 3; have hfz36_4 := blk_frozen BK170.out 4))
                      have n0_ : Aside0 ((((((w35.setCell ⟨gb170, 0, none⟩ (.int .i64 ((rd_T104 l0 (ji3)).f0))).setCell ⟨gb170, 1, none⟩ (.int .i64 ((rd_T104 l0 (ji3)).f1))).setCell ⟨gb170, 2, none⟩ (.int .i64 ((rd_T104 l0 (ji3)).f2))).setCell ⟨gb170, 3, none⟩ (.string ((rd_T104 l0 (ji3)).f3))).setCell ⟨gb170, 4, none⟩ (.int .i64 ((rd_T104 l0 (ji3)).f4))).heap[gb170]? = some (.cells #[.int .i64 ((rd_T104 l0 (ji3)).f0), .int .i64 ((rd_T104 l0 (ji3)).f1), .int .i64 ((rd_T104 l0 (ji3)).f2), .string ((rd_T104 l0 (ji3)).f3), .int .i64 ((rd_T104 l0 (ji3)).f4)] 104 (0, 0))) := ⟨by (with_reducible repeat (first | refine blk_drewN ?_ _ | refine blk_drew ?_ | refine blk_alloc ?_ _)); refine blk_put (cs := #[.int .i64 ((rd_T104 l0 (ji3)).f0), .int .i64 ((rd_T104 l0 (ji3)).f1), .int .i64 ((rd_T104 l0 (ji3)).f2), .string ((rd_T104 l0 (ji3)).f3), .int .i64 0]) ?_ 4 _ rfl; (with_reducible repeat (first | refine blk_drewN ?_ _ | refine blk_drew ?_ | refine blk_alloc ?_ _)); refine blk_put (cs := #[.int .i64 ((rd_T104 l0 (ji3)).f0), .int .i64 ((rd_T104 l0 (ji3)).f1), .int .i64 ((rd_T104 l0 (ji3)).f2), .string (⟨#[]⟩ : ByteArray), .int .i64 0]) ?_ 3 _ rfl; (with_reducible repeat (first | refine blk_drewN ?_ _ | refine blk_drew ?_ | refine blk_alloc ?_ _)); refine blk_put (cs := #[.int .i64 ((rd_T104 l0 (ji3)).f0), .int .i64 ((rd_T104 l0 (ji3)).f1), .int .i64 0, .string (⟨#[]⟩ : ByteArray), .int .i64 0]) ?_ 2 _ rfl; (with_reducible repeat (first | refine blk_drewN ?_ _ | refine blk_drew ?_ | refine blk_alloc ?_ _)); refine blk_put (cs := #[.int .i64 ((rd_T104 l0 (ji3)).f0), .int .i64 0, .int .i64 0, .string (⟨#[]⟩ : ByteArray), .int .i64 0]) ?_ 1 _ rfl; (with_reducible repeat (first | refine blk_drewN ?_ _ | refine blk_drew ?_ | refine blk_alloc ?_ _)); refine blk_put (cs := #[.int .i64 0, .int .i64 0, .int .i64 0, .string (⟨#[]⟩ : ByteArray), .int .i64 0]) ?_ 0 _ rfl; (with_reducible repeat (first | refine blk_drewN ?_ _ | refine blk_drew ?_ | refine blk_alloc ?_ _)); exact BK170.out⟩
                      have n1_ : Aside0 (Below w.heap.size w (((((w35.setCell ⟨gb170, 0, none⟩ (.int .i64 ((rd_T104 l0 (ji3)).f0))).setCell ⟨gb170, 1, none⟩ (.int .i64 ((rd_T104 l0 (ji3)).f1))).setCell ⟨gb170, 2, none⟩ (.int .i64 ((rd_T104 l0 (ji3)).f2))).setCell ⟨gb170, 3, none⟩ (.string ((rd_T104 l0 (ji3)).f3))).setCell ⟨gb170, 4, none⟩ (.int .i64 ((rd_T104 l0 (ji3)).f4)))) := ⟨by repeat (first | (with_reducible first | exact HB.out | apply below_alloc | apply pw_below_drewN | apply below_drew1 | refine below_set ?_ GE170.out) | exact HB.out)⟩
                      (try clear BK170)
                      (try clear HB)
                      generalize (((((w35.setCell ⟨gb170, 0, none⟩ (.int .i64 ((rd_T104 l0 (ji3)).f0))).setCell ⟨gb170, 1, none⟩ (.int .i64 ((rd_T104 l0 (ji3)).f1))).setCell ⟨gb170, 2, none⟩ (.int .i64 ((rd_T104 l0 (ji3)).f2))).setCell ⟨gb170, 3, none⟩ (.string ((rd_T104 l0 (ji3)).f3))).setCell ⟨gb170, 4, none⟩ (.int .i64 ((rd_T104 l0 (ji3)).f4))) = w37 at n0_ n1_ ⊢
                      have BK170 := n0_
                      have HB := n1_
                      clear n0_ n1_
                      have n0_ := Aside0.mk (blk_drew BK170.out)
                      have n1_ := Aside0.mk (below_drew1 HB.out)
                      clear BK170
                      clear HB
                      have BK170 := n0_
                      have HB := n1_
                      clear n0_ n1_
                      refine start_ (n := 13) (S := fun w' => w'.cell? ⟨gb170, 0, none⟩ = some (.int .i64 ((rd_T104 l0 (ji3)).f0)) ∧ w'.cell? ⟨gb170, 1, none⟩ = some (.int .i64 ((rd_T104 l0 (ji3)).f1)) ∧ w'.cell? ⟨gb170, 2, none⟩ = some (.int .i64 ((rd_T104 l0 (ji3)).f2)) ∧ w'.cell? ⟨gb170, 3, none⟩ = some (.string ((rd_T104 l0 (ji3)).f3)) ∧ w'.cell? ⟨gb170, 4, none⟩ = some (.int .i64 ((rd_T104 l0 (ji3)).f4))) (ds := []) #[false, false, false, false, false, false, false, false, false, false, false, false, false] (by kernel_rfl) rfl rfl ⟨(blk_cell BK170.out 0).trans rfl, (blk_cell BK170.out 1).trans rfl, (blk_cell BK170.out 2).trans rfl, (blk_cell BK170.out 3).trans rfl, (blk_cell BK170.out 4).trans rfl⟩ (fun hHeld => ?_); refine with_tabW oublietteref15_Table_text.tab10 oublietteref15_Table_text.bits10 (fun HT_ HW_ => ?_)
                      generalize w37.drew = w38 at BK170 HB hHeld ⊢
                      refine pure_ (i := 0) (N := some 39) (v := ?_) (a' := ?_) #[true, false, false, false, false, false, false, false, false, false, false, false, false] rfl rfl (any_of HT_.out (by kernel_rfl)) (fun _ _ _ h => h) (Or.inl ⟨by rfl, ?_⟩) ?_ ?_
                      rotate_left
                      · intro w'
                        go_simp
                        with_reducible rfl
                      rotate_left
                      · simp only [Act.put, List.setIfInBounds_toArray, List.set_cons_zero, List.set_cons_succ, i64_w, i32_w]
                        rfl
                      refine pure_ (i := 1) (N := some 40) (v := ?_) (a' := ?_) #[true, true, false, false, false, false, false, false, false, false, false, false, false] rfl rfl (any_of HT_.out (by kernel_rfl)) (fun _ _ _ h => h) (Or.inl ⟨by rfl, ?_⟩) ?_ ?_
                      rotate_left
                      · intro w'
                        go_simp
                        with_reducible rfl
                      rotate_left
                      · simp only [Act.put, List.setIfInBounds_toArray, List.set_cons_zero, List.set_cons_succ, i64_w, i32_w]
                        rfl
                      refine pure_ (i := 6) (N := some 45) (v := ?_) (a' := ?_) #[true, true, false, false, false, false, true, false, false, false, false, false, false] rfl rfl (any_of HT_.out (by kernel_rfl)) (fun _ _ _ h => h) (Or.inl ⟨by rfl, ?_⟩) ?_ ?_
                      rotate_left
                      · intro w'
                        go_simp
                        with_reducible rfl
                      rotate_left
                      · simp only [Act.put, List.setIfInBounds_toArray, List.set_cons_zero, List.set_cons_succ, i64_w, i32_w]
                        rfl
                      refine pure_ (i := 7) (N := some 46) (v := ?_) (a' := ?_) #[true, true, false, false, false, false, true, true, false, false, false, false, false] rfl rfl (any_of HT_.out (by kernel_rfl)) (fun _ _ _ h => h) (Or.inl ⟨by rfl, ?_⟩) ?_ ?_
                      rotate_left
                      · intro w'
                        go_simp
                        with_reducible rfl
                      rotate_left
                      · simp only [Act.put, List.setIfInBounds_toArray, List.set_cons_zero, List.set_cons_succ, i64_w, i32_w]
                        rfl
                      refine take_ (i := 2) (N := some 41) (v := ?_) (a' := ?_) #[true, true, true, false, false, false, true, true, false, false, false, false, false] rfl rfl (take_ofW HT_.out HW_.out (by kernel_rfl)) (fun _ _ _ h => h) (Or.inl ⟨by rfl, ?_⟩) hHeld ?_ ?_
                      rotate_left
                      · rintro w' ⟨s0, s1, s2, s3, s4⟩
                        go_simp
                        with_reducible rfl
                      rotate_left
                      · simp only [Act.put, List.setIfInBounds_toArray, List.set_cons_zero, List.set_cons_succ, i64_w, i32_w]
                        rfl
                      refine take_ (i := 8) (N := some 47) (v := ?_) (a' := ?_) #[true, true, true, false, false, false, true, true, true, false, false, false, false] rfl rfl (take_ofW HT_.out HW_.out (by kernel_rfl)) (fun _ _ _ h => h) (Or.inl ⟨by rfl, ?_⟩) hHeld ?_ ?_
                      rotate_left
                      · rintro w' ⟨s0, s1, s2, s3, s4⟩
                        go_simp
                        with_reducible rfl
                      rotate_left
                      · simp only [Act.put, List.setIfInBounds_toArray, List.set_cons_zero, List.set_cons_succ, i64_w, i32_w]
                        rfl
                      refine one_ (i := 3) (N := some 42) #[true, true, true, true, false, false, true, true, true, false, false, false, false] rfl rfl (one_of HT_.out (by kernel_rfl)) (by decide) (fun K hK => ?_)
                      refine goes_ Tryd.func114 (by kernel_rfl) rfl #[.slice (some ad169) l0.length c0, .int .i64 ((rd_T104 l0 (ji3)).f1)] (by rfl) rfl rfl (by (try simp only [List.map_toArray, List.map_cons, List.map_nil]); first | done | (simp only [hji3]; rfl) | rfl | (simp only [List.length_drop, List.length_take]; rfl)) ?_
                      with_reducible refine (ih k (by omega) _ _ l0 ((rd_T104 l0 (ji3)).f1) t173 _ ?side1 ?side2 A29.out).mono ?_
                      (case side1 => repeat (first | exact (Kd.C_below HR0.out HB.out) | (with_reducible refine Kd.C_alloc ?_ _) | (with_reducible refine Kd.C_drewN ?_ _) | (with_reducible refine Kd.C_drew ?_)))
                      (case side2 => exact HC0.out)
                      rintro e w39 ⟨rfl, hb⟩
                      refine ⟨_, rfl, ?_⟩
                      have n0_ := Aside0.mk (blk_below (g := gb170) (o := .cells #[.int .i64 ((rd_T104 l0 (ji3)).f0), .int .i64 ((rd_T104 l0 (ji3)).f1), .int .i64 ((rd_T104 l0 (ji3)).f2), .string ((rd_T104 l0 (ji3)).f3), .int .i64 ((rd_T104 l0 (ji3)).f4)] 104 (0, 0)) (by (with_reducible repeat (first | refine blk_drewN ?_ _ | refine blk_drew ?_ | refine blk_alloc ?_ _)); exact BK170.out) hb)
                      have n1_ := Aside0.mk (below_step (by repeat (first | (with_reducible first | exact HB.out | apply below_alloc | apply pw_below_drewN | apply below_drew1 | refine below_set ?_ GE170.out) | exact HB.out)) hb)
                      clear BK170
                      clear HB
                      have BK170 := n0_
                      have HB := n1_
                      clear n0_ n1_
                      (try clear hb)
                      (try clear hb2)
                      (try clear hk)
                      (try clear hi)
                      refine hK.out _ _ ⟨(blk_cell BK170.out 0).trans rfl, (blk_cell BK170.out 1).trans rfl, (blk_cell BK170.out 2).trans rfl, (blk_cell BK170.out 3).trans rfl, (blk_cell BK170.out 4).trans rfl⟩ (fun hHeld => ?_)
                      clear hK K
                      refine norm_ (a' := ?_) ?_ ?_
                      rotate_left
                      · show Act.put _ (some 42) _ = _
                        simp only [Act.put, List.setIfInBounds_toArray, List.set_cons_zero, List.set_cons_succ, i64_w, i32_w]
                        rfl
                      refine pure_ (i := 4) (N := some 43) (v := ?_) (a' := ?_) #[true, true, true, true, true, false, true, true, true, false, false, false, false] rfl rfl (any_of HT_.out (by kernel_rfl)) (fun _ _ _ h => h) (Or.inl ⟨by rfl, ?_⟩) ?_ ?_
                      rotate_left
                      · intro w'
                        go_simp
                        with_reducible rfl
                      rotate_left
                      · simp only [Act.put, List.setIfInBounds_toArray, List.set_cons_zero, List.set_cons_succ, i64_w, i32_w]
                        rfl
                      refine pure_ (i := 5) (N := some 44) (v := ?_) (a' := ?_) #[true, true, true, true, true, true, true, true, true, false, false, false, false] rfl rfl (any_of HT_.out (by kernel_rfl)) (fun _ _ _ h => h) (Or.inl ⟨by rfl, ?_⟩) ?_ ?_
                      rotate_left
                      · intro w'
                        go_simp
                        with_reducible rfl
                      rotate_left
                      · simp only [Act.put, List.setIfInBounds_toArray, List.set_cons_zero, List.set_cons_succ, i64_w, i32_w]
                        rfl
                      refine one_ (i := 9) (N := some 48) #[true, true, true, true, true, true, true, true, true, true, false, false, false] rfl rfl (one_of HT_.out (by kernel_rfl)) (by decide) (fun K hK => ?_)
                      refine goes_ Tryd.func114 (by kernel_rfl) rfl #[.slice (some ad169) l0.length c0, .int .i64 ((rd_T104 l0 (ji3)).f2)] (by rfl) rfl rfl (by (try simp only [List.map_toArray, List.map_cons, List.map_nil]); first | done | (simp only [hji3]; rfl) | rfl | (simp only [List.length_drop, List.length_take]; rfl)) ?_
                      with_reducible refine (ih k (by omega) _ _ l0 ((rd_T104 l0 (ji3)).f2) t174 _ ?side1 ?side2 A32.out).mono ?_
                      (case side1 => repeat (first | exact (Kd.C_below HR0.out HB.out) | (with_reducible refine Kd.C_alloc ?_ _) | (with_reducible refine Kd.C_drewN ?_ _) | (with_reducible refine Kd.C_drew ?_)))
                      (case side2 => exact HC0.out)
                      rintro e w40 ⟨rfl, hb⟩
                      refine ⟨_, rfl, ?_⟩
                      have n0_ := Aside0.mk (blk_below (g := gb170) (o := .cells #[.int .i64 ((rd_T104 l0 (ji3)).f0), .int .i64 ((rd_T104 l0 (ji3)).f1), .int .i64 ((rd_T104 l0 (ji3)).f2), .string ((rd_T104 l0 (ji3)).f3), .int .i64 ((rd_T104 l0 (ji3)).f4)] 104 (0, 0)) (by (with_reducible repeat (first | refine blk_drewN ?_ _ | refine blk_drew ?_ | refine blk_alloc ?_ _)); exact BK170.out) hb)
                      have n1_ := Aside0.mk (below_step (by repeat (first | (with_reducible first | exact HB.out | apply below_alloc | apply pw_below_drewN | apply below_drew1 | refine below_set ?_ GE170.out) | exact HB.out)) hb)
                      clear BK170
                      clear HB
                      have BK170 := n0_
                      have HB := n1_
                      clear n0_ n1_
                      (try clear hb)
                      (try clear hb2)
                      (try clear hk)
                      (try clear hi)
                      refine hK.out _ _ ⟨(blk_cell BK170.out 0).trans rfl, (blk_cell BK170.out 1).trans rfl, (blk_cell BK170.out 2).trans rfl, (blk_cell BK170.out 3).trans rfl, (blk_cell BK170.out 4).trans rfl⟩ (fun hHeld => ?_)
                      clear hK K
                      refine norm_ (a' := ?_) ?_ ?_
                      rotate_left
                      · show Act.put _ (some 48) _ = _
                        simp only [Act.put, List.setIfInBounds_toArray, List.set_cons_zero, List.set_cons_succ, i64_w, i32_w]
                        rfl
                      refine pure_ (i := 10) (N := some 49) (v := ?_) (a' := ?_) #[true, true, true, true, true, true, true, true, true, true, true, false, false] rfl rfl (any_of HT_.out (by kernel_rfl)) (fun _ _ _ h => h) (Or.inl ⟨by rfl, ?_⟩) ?_ ?_
                      rotate_left
                      · intro w'
                        go_simp
                        with_reducible rfl
                      rotate_left
                      · simp only [Act.put, List.setIfInBounds_toArray, List.set_cons_zero, List.set_cons_succ, i64_w, i32_w]
                        rfl
                      refine pure_ (i := 11) (N := some 50) (v := ?_) (a' := ?_) #[true, true, true, true, true, true, true, true, true, true, true, true, false] rfl rfl (any_of HT_.out (by kernel_rfl)) (fun _ _ _ h => h) (Or.inl ⟨by rfl, ?_⟩) ?_ ?_
                      rotate_left
                      · intro w'
                        go_simp
                        with_reducible rfl
                      rotate_left
                      · simp only [Act.put, List.setIfInBounds_toArray, List.set_cons_zero, List.set_cons_succ, i64_w, i32_w]
                        rfl
                      refine pure_ (i := 12) (N := some 4) (v := ?_) (a' := ?_) #[true, true, true, true, true, true, true, true, true, true, true, true, true] rfl rfl (any_of HT_.out (by kernel_rfl)) (fun _ _ _ h => h) (Or.inl ⟨by rfl, ?_⟩) ?_ ?_
                      rotate_left
                      · intro w'
                        go_simp
                        with_reducible rfl
                      rotate_left
                      · simp only [Act.put, List.setIfInBounds_toArray, List.set_cons_zero, List.set_cons_succ, i64_w, i32_w]
                        rfl
                      refine done_ (done_of HT_.out (by kernel_rfl)) ?_
                      try go_wp2
                      go_ret
                      exact ⟨by first | rfl | (simp [errW_none, errW_some] <;> rfl) | (simp only [← hji3]; first | rfl | (simp [errW_none, errW_some] <;> rfl)) | (simp [*, errW_none, errW_some] <;> rfl), by repeat (first | (with_reducible first | exact HB.out | apply below_alloc | apply pw_below_drewN | apply below_drew1 | refine below_set ?_ GE170.out) | exact HB.out)⟩
                    · rw [if_neg c34] at H
                      exact absurd H (by simp)
                  · rw [if_neg c33] at H
                    exact absurd H (by simp)
                · rw [if_neg c31] at H
                  exact absurd H (by simp)
              · rw [if_neg c30] at H
                exact absurd H (by simp)
            · rw [if_neg c28] at H
              have c28b0 : (((rd_T104 l0 (ji3)).f0) == 4) = false := beq_eq_false_iff_ne.mpr c28
              have c28b1 : (((rd_T104 l0 (ji3)).f0) != 4) = true := bne_iff_ne.mpr c28
              replace H := Option.bind_eq_some_iff.mp H
              obtain ⟨t175, A410, H⟩ := H
              replace H : (if 4 + t175.size ≤ 9223372036854775807 then (if ((⟨#[101, 110, 99, 40]⟩ : ByteArray) ++ t175).size + 1 ≤ 9223372036854775807 then ((oublietteref15_Table_text.f k l0 ((rd_T104 l0 (ji3)).f2)).bind fun t176 => (if (((⟨#[101, 110, 99, 40]⟩ : ByteArray) ++ t175) ++ (⟨#[44]⟩ : ByteArray)).size + t176.size ≤ 9223372036854775807 then (if ((((⟨#[101, 110, 99, 40]⟩ : ByteArray) ++ t175) ++ (⟨#[44]⟩ : ByteArray)) ++ t176).size + 1 ≤ 9223372036854775807 then (some (((((⟨#[101, 110, 99, 40]⟩ : ByteArray) ++ t175) ++ (⟨#[44]⟩ : ByteArray)) ++ t176) ++ (⟨#[41]⟩ : ByteArray))) else (none)) else (none))) else (none)) else (none)) = some r := H
              have A41 := Aside0.mk A410
              clear A410
              by_cases c42 : 4 + t175.size ≤ 9223372036854775807
              · rw [if_pos c42] at H
                have c42b0 := eq_true c42
                have c42b1 : decide (4 + t175.size ≤ 9223372036854775807) = true := decide_eq_true c42
                try have c42b2 : (9223372036854775807 < 4 + t175.size) = False := eq_false (Nat.not_lt.2 c42)
                try (have c42b3 := c42b2; simp only [ByteArray.size_append, show (⟨#[97]⟩ : ByteArray).size = 1 from rfl, show (⟨#[39]⟩ : ByteArray).size = 1 from rfl, show (⟨#[44]⟩ : ByteArray).size = 1 from rfl, show (⟨#[41]⟩ : ByteArray).size = 1 from rfl, show (⟨#[107, 100, 102, 40]⟩ : ByteArray).size = 4 from rfl, show (⟨#[109, 105, 120, 40]⟩ : ByteArray).size = 4 from rfl, show (⟨#[101, 110, 99, 40]⟩ : ByteArray).size = 4 from rfl] at c42b3)
                by_cases c43 : ((⟨#[101, 110, 99, 40]⟩ : ByteArray) ++ t175).size + 1 ≤ 9223372036854775807
                · rw [if_pos c43] at H
                  have c43b0 := eq_true c43
                  have c43b1 : decide (((⟨#[101, 110, 99, 40]⟩ : ByteArray) ++ t175).size + 1 ≤ 9223372036854775807) = true := decide_eq_true c43
                  try have c43b2 : (9223372036854775807 < ((⟨#[101, 110, 99, 40]⟩ : ByteArray) ++ t175).size + 1) = False := eq_false (Nat.not_lt.2 c43)
                  try (have c43b3 := c43b2; simp only [ByteArray.size_append, show (⟨#[97]⟩ : ByteArray).size = 1 from rfl, show (⟨#[39]⟩ : ByteArray).size = 1 from rfl, show (⟨#[44]⟩ : ByteArray).size = 1 from rfl, show (⟨#[41]⟩ : ByteArray).size = 1 from rfl, show (⟨#[107, 100, 102, 40]⟩ : ByteArray).size = 4 from rfl, show (⟨#[109, 105, 120, 40]⟩ : ByteArray).size = 4 from rfl, show (⟨#[101, 110, 99, 40]⟩ : ByteArray).size = 4 from rfl] at c43b3)
                  replace H := Option.bind_eq_some_iff.mp H
                  obtain ⟨t176, A440, H⟩ := H
                  replace H : (if (((⟨#[101, 110, 99, 40]⟩ : ByteArray) ++ t175) ++ (⟨#[44]⟩ : ByteArray)).size + t176.size ≤ 9223372036854775807 then (if ((((⟨#[101, 110, 99, 40]⟩ : ByteArray) ++ t175) ++ (⟨#[44]⟩ : ByteArray)) ++ t176).size + 1 ≤ 9223372036854775807 then (some (((((⟨#[101, 110, 99, 40]⟩ : ByteArray) ++ t175) ++ (⟨#[44]⟩ : ByteArray)) ++ t176) ++ (⟨#[41]⟩ : ByteArray))) else (none)) else (none)) = some r := H
                  have A44 := Aside0.mk A440
                  clear A440
                  by_cases c45 : (((⟨#[101, 110, 99, 40]⟩ : ByteArray) ++ t175) ++ (⟨#[44]⟩ : ByteArray)).size + t176.size ≤ 9223372036854775807
                  · rw [if_pos c45] at H
                    have c45b0 := eq_true c45
                    have c45b1 : decide ((((⟨#[101, 110, 99, 40]⟩ : ByteArray) ++ t175) ++ (⟨#[44]⟩ : ByteArray)).size + t176.size ≤ 9223372036854775807) = true := decide_eq_true c45
                    try have c45b2 : (9223372036854775807 < (((⟨#[101, 110, 99, 40]⟩ : ByteArray) ++ t175) ++ (⟨#[44]⟩ : ByteArray)).size + t176.size) = False := eq_false (Nat.not_lt.2 c45)
                    try (have c45b3 := c45b2; simp only [ByteArray.size_append, show (⟨#[97]⟩ : ByteArray).size = 1 from rfl, show (⟨#[39]⟩ : ByteArray).size = 1 from rfl, show (⟨#[44]⟩ : ByteArray).size = 1 from rfl, show (⟨#[41]⟩ : ByteArray).size = 1 from rfl, show (⟨#[107, 100, 102, 40]⟩ : ByteArray).size = 4 from rfl, show (⟨#[109, 105, 120, 40]⟩ : ByteArray).size = 4 from rfl, show (⟨#[101, 110, 99, 40]⟩ : ByteArray).size = 4 from rfl] at c45b3)
                    by_cases c46 : ((((⟨#[101, 110, 99, 40]⟩ : ByteArray) ++ t175) ++ (⟨#[44]⟩ : ByteArray)) ++ t176).size + 1 ≤ 9223372036854775807
                    · rw [if_pos c46] at H
                      have c46b0 := eq_true c46
                      have c46b1 : decide (((((⟨#[101, 110, 99, 40]⟩ : ByteArray) ++ t175) ++ (⟨#[44]⟩ : ByteArray)) ++ t176).size + 1 ≤ 9223372036854775807) = true := decide_eq_true c46
                      try have c46b2 : (9223372036854775807 < ((((⟨#[101, 110, 99, 40]⟩ : ByteArray) ++ t175) ++ (⟨#[44]⟩ : ByteArray)) ++ t176).size + 1) = False := eq_false (Nat.not_lt.2 c46)
                      try (have c46b3 := c46b2; simp only [ByteArray.size_append, show (⟨#[97]⟩ : ByteArray).size = 1 from rfl, show (⟨#[39]⟩ : ByteArray).size = 1 from rfl, show (⟨#[44]⟩ : ByteArray).size = 1 from rfl, show (⟨#[41]⟩ : ByteArray).size = 1 from rfl, show (⟨#[107, 100, 102, 40]⟩ : ByteArray).size = 4 from rfl, show (⟨#[109, 105, 120, 40]⟩ : ByteArray).size = 4 from rfl, show (⟨#[101, 110, 99, 40]⟩ : ByteArray).size = 4 from rfl] at c46b3)
                      obtain rfl := Option.some.inj H
                      have p169 : 0 ≤ ((ji3) : Int) := of_decide_eq_true (by first | (with_reducible assumption) | assumption)
                      have q169 : (ji3) < (l0.length : Int) := of_decide_eq_true (by first | (with_reducible assumption) | assumption)
                      obtain ⟨ad169, e169, hx169_0, hx169_1, hx169_2, hx169_3, hx169_4⟩ := at_T104 HR0.out (ji3) p169 q169
                      cases e169
                      replace p169 := eq_true p169
                      replace q169 := eq_true q169
                      go_enter Tryd.func114, Tryd.ntmps114
                      try go_wp2_with (first | ((with_reducible refine gate_dst (N := 5) rfl ?_); refine box_event ?hg (N := 5) ?hd (cs := #[.int .i64 0, .int .i64 0, .int .i64 0, .string (⟨#[]⟩ : ByteArray), .int .i64 0]) (t := 104) ?hr ?_; (case hd => rfl); (case hg => rfl); (case hr => first | (go_simp; done) | (go_simp; rfl)); intro gb170 hg w47 hbox hb; have n0_ := Aside0.mk (below_step (by repeat (first | (with_reducible first | exact HB.out | apply below_alloc | apply pw_below_drewN | apply below_drew1) | exact HB.out)) hb); have n1_ := Aside0.mk (hbox); have n2_ := Aside0.mk ((by rw [hg]; exact (below_size (by repeat (first | (with_reducible first | exact HB.out | apply below_alloc | apply pw_below_drewN | apply below_drew1) | exact HB.out))) : w.heap.size ≤ gb170)); have n3_ := Aside0.mk ((by rw [hg]; exact (below_size (by repeat (first | (with_reducible first | exact HB.out | apply below_alloc | apply pw_below_drewN | apply below_drew1) | exact HB.out))) : w.heap.size ≤ gb170)); clear HB; have HB := n0_; have BK170 := n1_; have GW170 := n2_; have GE170 := n3_; clear n0_ n1_ n2_ n3_; clear hb hbox hg; have hcz48_0 : w47.cell? ⟨gb170, 0, none⟩ = some (.int .i64 0) := (blk_cell BK170.out 0).trans rfl; have hcz48_1 : w47.cell? ⟨gb170, 1, none⟩ = some (.int .i64 0) := (blk_cell BK170.out 1).trans rfl; have hcz48_2 : w47.cell? ⟨gb170, 2, none⟩ = some (.int .i64 0) := (blk_cell BK170.out 2).trans rfl; have hcz48_3 : w47.cell? ⟨gb170, 3, none⟩ = some (.string (⟨#[]⟩ : ByteArray)) := (blk_cell BK170.out 3).trans rfl; have hcz48_4 : w47.cell? ⟨gb170, 4, none⟩ = some (.int .i64 0) := (blk_cell BK170.out 4).trans rfl; have hfz48_0 := blk_frozen BK170.out 0; have hfz48_1 := blk_frozen BK170.out 1; have hfz48_2 := blk_frozen BK170.out 2; have hfz48_3 := blk_frozen BK170.out 3; have hfz48_4 := blk_frozen BK170.out 4))
                      have n0_ : Aside0 ((((((w47.setCell ⟨gb170, 0, none⟩ (.int .i64 ((rd_T104 l0 (ji3)).f0))).setCell ⟨gb170, 1, none⟩ (.int .i64 ((rd_T104 l0 (ji3)).f1))).setCell ⟨gb170, 2, none⟩ (.int .i64 ((rd_T104 l0 (ji3)).f2))).setCell ⟨gb170, 3, none⟩ (.string ((rd_T104 l0 (ji3)).f3))).setCell ⟨gb170, 4, none⟩ (.int .i64 ((rd_T104 l0 (ji3)).f4))).heap[gb170]? = some (.cells #[.int .i64 ((rd_T104 l0 (ji3)).f0), .int .i64 ((rd_T104 l0 (ji3)).f1), .int .i64 ((rd_T104 l0 (ji3)).f2), .string ((rd_T104 l0 (ji3)).f3), .int .i64 ((rd_T104 l0 (ji3)).f4)] 104 (0, 0))) := ⟨by (with_reducible repeat (first | refine blk_drewN ?_ _ | refine blk_drew ?_ | refine blk_alloc ?_ _)); refine blk_put (cs := #[.int .i64 ((rd_T104 l0 (ji3)).f0), .int .i64 ((rd_T104 l0 (ji3)).f1), .int .i64 ((rd_T104 l0 (ji3)).f2), .string ((rd_T104 l0 (ji3)).f3), .int .i64 0]) ?_ 4 _ rfl; (with_reducible repeat (first | refine blk_drewN ?_ _ | refine blk_drew ?_ | refine blk_alloc ?_ _)); refine blk_put (cs := #[.int .i64 ((rd_T104 l0 (ji3)).f0), .int .i64 ((rd_T104 l0 (ji3)).f1), .int .i64 ((rd_T104 l0 (ji3)).f2), .string (⟨#[]⟩ : ByteArray), .int .i64 0]) ?_ 3 _ rfl; (with_reducible repeat (first | refine blk_drewN ?_ _ | refine blk_drew ?_ | refine blk_alloc ?_ _)); refine blk_put (cs := #[.int .i64 ((rd_T104 l0 (ji3)).f0), .int .i64 ((rd_T104 l0 (ji3)).f1), .int .i64 0, .string (⟨#[]⟩ : ByteArray), .int .i64 0]) ?_ 2 _ rfl; (with_reducible repeat (first | refine blk_drewN ?_ _ | refine blk_drew ?_ | refine blk_alloc ?_ _)); refine blk_put (cs := #[.int .i64 ((rd_T104 l0 (ji3)).f0), .int .i64 0, .int .i64 0, .string (⟨#[]⟩ : ByteArray), .int .i64 0]) ?_ 1 _ rfl; (with_reducible repeat (first | refine blk_drewN ?_ _ | refine blk_drew ?_ | refine blk_alloc ?_ _)); refine blk_put (cs := #[.int .i64 0, .int .i64 0, .int .i64 0, .string (⟨#[]⟩ : ByteArray), .int .i64 0]) ?_ 0 _ rfl; (with_reducible repeat (first | refine blk_drewN ?_ _ | refine blk_drew ?_ | refine blk_alloc ?_ _)); exact BK170.out⟩
                      have n1_ : Aside0 (Below w.heap.size w (((((w47.setCell ⟨gb170, 0, none⟩ (.int .i64 ((rd_T104 l0 (ji3)).f0))).setCell ⟨gb170, 1, none⟩ (.int .i64 ((rd_T104 l0 (ji3)).f1))).setCell ⟨gb170, 2, none⟩ (.int .i64 ((rd_T104 l0 (ji3)).f2))).setCell ⟨gb170, 3, none⟩ (.string ((rd_T104 l0 (ji3)).f3))).setCell ⟨gb170, 4, none⟩ (.int .i64 ((rd_T104 l0 (ji3)).f4)))) := ⟨by repeat (first | (with_reducible first | exact HB.out | apply below_alloc | apply pw_below_drewN | apply below_drew1 | refine below_set ?_ GE170.out) | exact HB.out)⟩
                      (try clear BK170)
                      (try clear HB)
                      generalize (((((w47.setCell ⟨gb170, 0, none⟩ (.int .i64 ((rd_T104 l0 (ji3)).f0))).setCell ⟨gb170, 1, none⟩ (.int .i64 ((rd_T104 l0 (ji3)).f1))).setCell ⟨gb170, 2, none⟩ (.int .i64 ((rd_T104 l0 (ji3)).f2))).setCell ⟨gb170, 3, none⟩ (.string ((rd_T104 l0 (ji3)).f3))).setCell ⟨gb170, 4, none⟩ (.int .i64 ((rd_T104 l0 (ji3)).f4))) = w49 at n0_ n1_ ⊢
                      have BK170 := n0_
                      have HB := n1_
                      clear n0_ n1_
                      have n0_ := Aside0.mk (blk_drew BK170.out)
                      have n1_ := Aside0.mk (below_drew1 HB.out)
                      clear BK170
                      clear HB
                      have BK170 := n0_
                      have HB := n1_
                      clear n0_ n1_
                      refine start_ (n := 13) (S := fun w' => w'.cell? ⟨gb170, 0, none⟩ = some (.int .i64 ((rd_T104 l0 (ji3)).f0)) ∧ w'.cell? ⟨gb170, 1, none⟩ = some (.int .i64 ((rd_T104 l0 (ji3)).f1)) ∧ w'.cell? ⟨gb170, 2, none⟩ = some (.int .i64 ((rd_T104 l0 (ji3)).f2)) ∧ w'.cell? ⟨gb170, 3, none⟩ = some (.string ((rd_T104 l0 (ji3)).f3)) ∧ w'.cell? ⟨gb170, 4, none⟩ = some (.int .i64 ((rd_T104 l0 (ji3)).f4))) (ds := []) #[false, false, false, false, false, false, false, false, false, false, false, false, false] (by kernel_rfl) rfl rfl ⟨(blk_cell BK170.out 0).trans rfl, (blk_cell BK170.out 1).trans rfl, (blk_cell BK170.out 2).trans rfl, (blk_cell BK170.out 3).trans rfl, (blk_cell BK170.out 4).trans rfl⟩ (fun hHeld => ?_); refine with_tabW oublietteref15_Table_text.tab11 oublietteref15_Table_text.bits11 (fun HT_ HW_ => ?_)
                      generalize w49.drew = w50 at BK170 HB hHeld ⊢
                      refine pure_ (i := 0) (N := some 51) (v := ?_) (a' := ?_) #[true, false, false, false, false, false, false, false, false, false, false, false, false] rfl rfl (any_of HT_.out (by kernel_rfl)) (fun _ _ _ h => h) (Or.inl ⟨by rfl, ?_⟩) ?_ ?_
                      rotate_left
                      · intro w'
                        go_simp
                        with_reducible rfl
                      rotate_left
                      · simp only [Act.put, List.setIfInBounds_toArray, List.set_cons_zero, List.set_cons_succ, i64_w, i32_w]
                        rfl
                      refine pure_ (i := 1) (N := some 52) (v := ?_) (a' := ?_) #[true, true, false, false, false, false, false, false, false, false, false, false, false] rfl rfl (any_of HT_.out (by kernel_rfl)) (fun _ _ _ h => h) (Or.inl ⟨by rfl, ?_⟩) ?_ ?_
                      rotate_left
                      · intro w'
                        go_simp
                        with_reducible rfl
                      rotate_left
                      · simp only [Act.put, List.setIfInBounds_toArray, List.set_cons_zero, List.set_cons_succ, i64_w, i32_w]
                        rfl
                      refine pure_ (i := 6) (N := some 57) (v := ?_) (a' := ?_) #[true, true, false, false, false, false, true, false, false, false, false, false, false] rfl rfl (any_of HT_.out (by kernel_rfl)) (fun _ _ _ h => h) (Or.inl ⟨by rfl, ?_⟩) ?_ ?_
                      rotate_left
                      · intro w'
                        go_simp
                        with_reducible rfl
                      rotate_left
                      · simp only [Act.put, List.setIfInBounds_toArray, List.set_cons_zero, List.set_cons_succ, i64_w, i32_w]
                        rfl
                      refine pure_ (i := 7) (N := some 58) (v := ?_) (a' := ?_) #[true, true, false, false, false, false, true, true, false, false, false, false, false] rfl rfl (any_of HT_.out (by kernel_rfl)) (fun _ _ _ h => h) (Or.inl ⟨by rfl, ?_⟩) ?_ ?_
                      rotate_left
                      · intro w'
                        go_simp
                        with_reducible rfl
                      rotate_left
                      · simp only [Act.put, List.setIfInBounds_toArray, List.set_cons_zero, List.set_cons_succ, i64_w, i32_w]
                        rfl
                      refine take_ (i := 2) (N := some 53) (v := ?_) (a' := ?_) #[true, true, true, false, false, false, true, true, false, false, false, false, false] rfl rfl (take_ofW HT_.out HW_.out (by kernel_rfl)) (fun _ _ _ h => h) (Or.inl ⟨by rfl, ?_⟩) hHeld ?_ ?_
                      rotate_left
                      · rintro w' ⟨s0, s1, s2, s3, s4⟩
                        go_simp
                        with_reducible rfl
                      rotate_left
                      · simp only [Act.put, List.setIfInBounds_toArray, List.set_cons_zero, List.set_cons_succ, i64_w, i32_w]
                        rfl
                      refine take_ (i := 8) (N := some 59) (v := ?_) (a' := ?_) #[true, true, true, false, false, false, true, true, true, false, false, false, false] rfl rfl (take_ofW HT_.out HW_.out (by kernel_rfl)) (fun _ _ _ h => h) (Or.inl ⟨by rfl, ?_⟩) hHeld ?_ ?_
                      rotate_left
                      · rintro w' ⟨s0, s1, s2, s3, s4⟩
                        go_simp
                        with_reducible rfl
                      rotate_left
                      · simp only [Act.put, List.setIfInBounds_toArray, List.set_cons_zero, List.set_cons_succ, i64_w, i32_w]
                        rfl
                      refine one_ (i := 3) (N := some 54) #[true, true, true, true, false, false, true, true, true, false, false, false, false] rfl rfl (one_of HT_.out (by kernel_rfl)) (by decide) (fun K hK => ?_)
                      refine goes_ Tryd.func114 (by kernel_rfl) rfl #[.slice (some ad169) l0.length c0, .int .i64 ((rd_T104 l0 (ji3)).f1)] (by rfl) rfl rfl (by (try simp only [List.map_toArray, List.map_cons, List.map_nil]); first | done | (simp only [hji3]; rfl) | rfl | (simp only [List.length_drop, List.length_take]; rfl)) ?_
                      with_reducible refine (ih k (by omega) _ _ l0 ((rd_T104 l0 (ji3)).f1) t175 _ ?side1 ?side2 A41.out).mono ?_
                      (case side1 => repeat (first | exact (Kd.C_below HR0.out HB.out) | (with_reducible refine Kd.C_alloc ?_ _) | (with_reducible refine Kd.C_drewN ?_ _) | (with_reducible refine Kd.C_drew ?_)))
                      (case side2 => exact HC0.out)
                      rintro e w51 ⟨rfl, hb⟩
                      refine ⟨_, rfl, ?_⟩
                      have n0_ := Aside0.mk (blk_below (g := gb170) (o := .cells #[.int .i64 ((rd_T104 l0 (ji3)).f0), .int .i64 ((rd_T104 l0 (ji3)).f1), .int .i64 ((rd_T104 l0 (ji3)).f2), .string ((rd_T104 l0 (ji3)).f3), .int .i64 ((rd_T104 l0 (ji3)).f4)] 104 (0, 0)) (by (with_reducible repeat (first | refine blk_drewN ?_ _ | refine blk_drew ?_ | refine blk_alloc ?_ _)); exact BK170.out) hb)
                      have n1_ := Aside0.mk (below_step (by repeat (first | (with_reducible first | exact HB.out | apply below_alloc | apply pw_below_drewN | apply below_drew1 | refine below_set ?_ GE170.out) | exact HB.out)) hb)
                      clear BK170
                      clear HB
                      have BK170 := n0_
                      have HB := n1_
                      clear n0_ n1_
                      (try clear hb)
                      (try clear hb2)
                      (try clear hk)
                      (try clear hi)
                      refine hK.out _ _ ⟨(blk_cell BK170.out 0).trans rfl, (blk_cell BK170.out 1).trans rfl, (blk_cell BK170.out 2).trans rfl, (blk_cell BK170.out 3).trans rfl, (blk_cell BK170.out 4).trans rfl⟩ (fun hHeld => ?_)
                      clear hK K
                      refine norm_ (a' := ?_) ?_ ?_
                      rotate_left
                      · show Act.put _ (some 54) _ = _
                        simp only [Act.put, List.setIfInBounds_toArray, List.set_cons_zero, List.set_cons_succ, i64_w, i32_w]
                        rfl
                      refine pure_ (i := 4) (N := some 55) (v := ?_) (a' := ?_) #[true, true, true, true, true, false, true, true, true, false, false, false, false] rfl rfl (any_of HT_.out (by kernel_rfl)) (fun _ _ _ h => h) (Or.inl ⟨by rfl, ?_⟩) ?_ ?_
                      rotate_left
                      · intro w'
                        go_simp
                        with_reducible rfl
                      rotate_left
                      · simp only [Act.put, List.setIfInBounds_toArray, List.set_cons_zero, List.set_cons_succ, i64_w, i32_w]
                        rfl
                      refine pure_ (i := 5) (N := some 56) (v := ?_) (a' := ?_) #[true, true, true, true, true, true, true, true, true, false, false, false, false] rfl rfl (any_of HT_.out (by kernel_rfl)) (fun _ _ _ h => h) (Or.inl ⟨by rfl, ?_⟩) ?_ ?_
                      rotate_left
                      · intro w'
                        go_simp
                        with_reducible rfl
                      rotate_left
                      · simp only [Act.put, List.setIfInBounds_toArray, List.set_cons_zero, List.set_cons_succ, i64_w, i32_w]
                        rfl
                      refine one_ (i := 9) (N := some 60) #[true, true, true, true, true, true, true, true, true, true, false, false, false] rfl rfl (one_of HT_.out (by kernel_rfl)) (by decide) (fun K hK => ?_)
                      refine goes_ Tryd.func114 (by kernel_rfl) rfl #[.slice (some ad169) l0.length c0, .int .i64 ((rd_T104 l0 (ji3)).f2)] (by rfl) rfl rfl (by (try simp only [List.map_toArray, List.map_cons, List.map_nil]); first | done | (simp only [hji3]; rfl) | rfl | (simp only [List.length_drop, List.length_take]; rfl)) ?_
                      with_reducible refine (ih k (by omega) _ _ l0 ((rd_T104 l0 (ji3)).f2) t176 _ ?side1 ?side2 A44.out).mono ?_
                      (case side1 => repeat (first | exact (Kd.C_below HR0.out HB.out) | (with_reducible refine Kd.C_alloc ?_ _) | (with_reducible refine Kd.C_drewN ?_ _) | (with_reducible refine Kd.C_drew ?_)))
                      (case side2 => exact HC0.out)
                      rintro e w52 ⟨rfl, hb⟩
                      refine ⟨_, rfl, ?_⟩
                      have n0_ := Aside0.mk (blk_below (g := gb170) (o := .cells #[.int .i64 ((rd_T104 l0 (ji3)).f0), .int .i64 ((rd_T104 l0 (ji3)).f1), .int .i64 ((rd_T104 l0 (ji3)).f2), .string ((rd_T104 l0 (ji3)).f3), .int .i64 ((rd_T104 l0 (ji3)).f4)] 104 (0, 0)) (by (with_reducible repeat (first | refine blk_drewN ?_ _ | refine blk_drew ?_ | refine blk_alloc ?_ _)); exact BK170.out) hb)
                      have n1_ := Aside0.mk (below_step (by repeat (first | (with_reducible first | exact HB.out | apply below_alloc | apply pw_below_drewN | apply below_drew1 | refine below_set ?_ GE170.out) | exact HB.out)) hb)
                      clear BK170
                      clear HB
                      have BK170 := n0_
                      have HB := n1_
                      clear n0_ n1_
                      (try clear hb)
                      (try clear hb2)
                      (try clear hk)
                      (try clear hi)
                      refine hK.out _ _ ⟨(blk_cell BK170.out 0).trans rfl, (blk_cell BK170.out 1).trans rfl, (blk_cell BK170.out 2).trans rfl, (blk_cell BK170.out 3).trans rfl, (blk_cell BK170.out 4).trans rfl⟩ (fun hHeld => ?_)
                      clear hK K
                      refine norm_ (a' := ?_) ?_ ?_
                      rotate_left
                      · show Act.put _ (some 60) _ = _
                        simp only [Act.put, List.setIfInBounds_toArray, List.set_cons_zero, List.set_cons_succ, i64_w, i32_w]
                        rfl
                      refine pure_ (i := 10) (N := some 61) (v := ?_) (a' := ?_) #[true, true, true, true, true, true, true, true, true, true, true, false, false] rfl rfl (any_of HT_.out (by kernel_rfl)) (fun _ _ _ h => h) (Or.inl ⟨by rfl, ?_⟩) ?_ ?_
                      rotate_left
                      · intro w'
                        go_simp
                        with_reducible rfl
                      rotate_left
                      · simp only [Act.put, List.setIfInBounds_toArray, List.set_cons_zero, List.set_cons_succ, i64_w, i32_w]
                        rfl
                      refine pure_ (i := 11) (N := some 62) (v := ?_) (a' := ?_) #[true, true, true, true, true, true, true, true, true, true, true, true, false] rfl rfl (any_of HT_.out (by kernel_rfl)) (fun _ _ _ h => h) (Or.inl ⟨by rfl, ?_⟩) ?_ ?_
                      rotate_left
                      · intro w'
                        go_simp
                        with_reducible rfl
                      rotate_left
                      · simp only [Act.put, List.setIfInBounds_toArray, List.set_cons_zero, List.set_cons_succ, i64_w, i32_w]
                        rfl
                      refine pure_ (i := 12) (N := some 4) (v := ?_) (a' := ?_) #[true, true, true, true, true, true, true, true, true, true, true, true, true] rfl rfl (any_of HT_.out (by kernel_rfl)) (fun _ _ _ h => h) (Or.inl ⟨by rfl, ?_⟩) ?_ ?_
                      rotate_left
                      · intro w'
                        go_simp
                        with_reducible rfl
                      rotate_left
                      · simp only [Act.put, List.setIfInBounds_toArray, List.set_cons_zero, List.set_cons_succ, i64_w, i32_w]
                        rfl
                      refine done_ (done_of HT_.out (by kernel_rfl)) ?_
                      try go_wp2
                      go_ret
                      exact ⟨by first | rfl | (simp [errW_none, errW_some] <;> rfl) | (simp only [← hji3]; first | rfl | (simp [errW_none, errW_some] <;> rfl)) | (simp [*, errW_none, errW_some] <;> rfl), by repeat (first | (with_reducible first | exact HB.out | apply below_alloc | apply pw_below_drewN | apply below_drew1 | refine below_set ?_ GE170.out) | exact HB.out)⟩
                    · rw [if_neg c46] at H
                      exact absurd H (by simp)
                  · rw [if_neg c45] at H
                    exact absurd H (by simp)
                · rw [if_neg c43] at H
                  exact absurd H (by simp)
              · rw [if_neg c42] at H
                exact absurd H (by simp)
    · rw [if_neg c5] at H
      exact absurd H (by simp)
  · rw [if_neg c4] at H
    exact absurd H (by simp)

/-! ### oublietteref15_Table_Print: function 93 -/
def oublietteref15_Table_Print.f (k : Nat) (l0 : List (S104)) (a1 : Int) : Option (ByteArray) := (oublietteref15_Table_there.f l0 a1).bind fun t177 => (if t177 = true then ((oublietteref15_Table_Size.f k l0 a1).bind fun t178 => (if t178 > 1000 then (some (⟨#[]⟩ : ByteArray)) else ((oublietteref15_Table_text.f k l0 a1).bind fun t179 => (some t179)))) else (some (⟨#[]⟩ : ByteArray)))
theorem oublietteref15_Table_Print.mono : ∀ a0 a1 k, LeO (oublietteref15_Table_Print.f k a0 a1) (oublietteref15_Table_Print.f (k + 1) a0 a1) := by
  intro a0 a1 k
  unfold oublietteref15_Table_Print.f
  repeat' first
      | (with_reducible exact oublietteref15_Table_Size.mono _ _ _)
      | (with_reducible exact oublietteref15_Table_text.mono _ _ _)
      | (with_reducible exact LeO.refl _)
      | (with_reducible exact LeO.none _)
      | (with_reducible refine LeO.ite ?_ ?_)
      | (with_reducible refine LeO.bind ?_ (fun _ => ?_))
      | exact oublietteref15_Table_Size.mono _ _ _
      | exact oublietteref15_Table_text.mono _ _ _
      | exact LeO.none _
      | refine LeO.ite ?_ ?_
      | refine LeO.bind ?_ (fun _ => ?_)
set_option maxHeartbeats 8000000 in
set_option maxRecDepth 100000 in
theorem oublietteref15_Table_Print.calls (k : Nat) (A0 : Option Addr) (c0 : Nat) (l0 : List (S104)) (a1 : Int) (r : ByteArray) (w : World) (hr0 : Kd.C k104 w A0 l0.length l0) (hc0 : l0.length ≤ c0) (h : oublietteref15_Table_Print.f k l0 a1 = some r) :
    Calls Tryd.prog 93 #[.slice A0 l0.length c0, .int .i64 a1] w fun e w' => e = .returned (.string r) ∧ Below w.heap.size w w' := by
  have HR0 := Aside0.mk hr0
  have HC0 := Aside0.mk hc0
  clear hr0 hc0
  have HB := Aside0.mk (Below.refl w.heap.size w)
  have H : ((oublietteref15_Table_there.f l0 a1).bind fun t177 => (if t177 = true then ((oublietteref15_Table_Size.f k l0 a1).bind fun t178 => (if t178 > 1000 then (some (⟨#[]⟩ : ByteArray)) else ((oublietteref15_Table_text.f k l0 a1).bind fun t179 => (some t179)))) else (some (⟨#[]⟩ : ByteArray)))) = some r := h
  clear h
  replace H := Option.bind_eq_some_iff.mp H
  obtain ⟨t177, A30, H⟩ := H
  replace H : (if t177 = true then ((oublietteref15_Table_Size.f k l0 a1).bind fun t178 => (if t178 > 1000 then (some (⟨#[]⟩ : ByteArray)) else ((oublietteref15_Table_text.f k l0 a1).bind fun t179 => (some t179)))) else (some (⟨#[]⟩ : ByteArray))) = some r := H
  have A3 := Aside0.mk A30
  clear A30
  by_cases c4 : t177 = true
  · subst c4
    have H1 : ((oublietteref15_Table_Size.f k l0 a1).bind fun t178 => (if t178 > 1000 then (some (⟨#[]⟩ : ByteArray)) else ((oublietteref15_Table_text.f k l0 a1).bind fun t179 => (some t179)))) = some r := by rw [if_pos rfl] at H; exact H
    clear H
    have H := H1
    clear H1
    replace H := Option.bind_eq_some_iff.mp H
    obtain ⟨t178, A50, H⟩ := H
    replace H : (if t178 > 1000 then (some (⟨#[]⟩ : ByteArray)) else ((oublietteref15_Table_text.f k l0 a1).bind fun t179 => (some t179))) = some r := H
    have A5 := Aside0.mk A50
    clear A50
    by_cases c6 : t178 > 1000
    · rw [if_pos c6] at H
      have c6b0 : decide (1000 < t178) = true := decide_eq_true c6
      clear c6
      obtain rfl := Option.some.inj H
      go_enter Tryd.func93, Tryd.ntmps93
      go_wp2_with (first | ((with_reducible refine gate_callee (f := 111) rfl ?_); refine goesL_ (some 7) rfl rfl Tryd.func111 (by kernel_rfl) rfl #[.slice A0 l0.length c0, .int .i64 a1] rfl (by (try simp only [List.map_toArray, List.map_cons, List.map_nil]); first | done | rfl | (simp only [List.length_drop, List.length_take]; rfl)) ?_; (with_reducible refine (oublietteref15_Table_there.calls _ _ l0 a1 true _ ?side1 ?side2 A3.out).mono ?_); (case side1 => repeat (first | exact HR0.out | (with_reducible refine Kd.C_alloc ?_ _) | (with_reducible refine Kd.C_drewN ?_ _) | (with_reducible refine Kd.C_drew ?_))); (case side2 => exact HC0.out); rintro e w' ⟨rfl, ⟨nd, rfl⟩⟩; refine ⟨_, rfl, ?_⟩) | (go_at_call 92; (with_reducible refine (oublietteref15_Table_Size.calls k _ _ l0 a1 t178 _ ?side1 ?side2 A5.out).mono ?_); (case side1 => repeat (first | exact HR0.out | (with_reducible refine Kd.C_alloc ?_ _) | (with_reducible refine Kd.C_drewN ?_ _) | (with_reducible refine Kd.C_drew ?_))); (case side2 => exact HC0.out); rintro e w7 ⟨rfl, hb⟩; have n0_ := Aside0.mk (below_step (by repeat (first | (with_reducible first | exact HB.out | apply below_alloc | apply pw_below_drewN | apply below_drew1) | exact HB.out)) hb); clear HB; have HB := n0_; clear n0_; (try clear hb); (try clear hb2); (try clear hk); (try clear hi)))
      go_ret
      exact ⟨by first | rfl | (simp [errW_none, errW_some] <;> rfl) | (simp [*, errW_none, errW_some] <;> rfl), by repeat (first | (with_reducible first | exact HB.out | apply below_alloc | apply pw_below_drewN | apply below_drew1) | exact HB.out)⟩
    · rw [if_neg c6] at H
      have c6b0 : decide (1000 < t178) = false := decide_eq_false c6
      clear c6
      replace H := Option.bind_eq_some_iff.mp H
      obtain ⟨t179, A80, H⟩ := H
      replace H : (some t179) = some r := H
      have A8 := Aside0.mk A80
      clear A80
      obtain rfl := Option.some.inj H
      go_enter Tryd.func93, Tryd.ntmps93
      go_wp2_with (first | ((with_reducible refine gate_callee (f := 111) rfl ?_); refine goesL_ (some 7) rfl rfl Tryd.func111 (by kernel_rfl) rfl #[.slice A0 l0.length c0, .int .i64 a1] rfl (by (try simp only [List.map_toArray, List.map_cons, List.map_nil]); first | done | rfl | (simp only [List.length_drop, List.length_take]; rfl)) ?_; (with_reducible refine (oublietteref15_Table_there.calls _ _ l0 a1 true _ ?side1 ?side2 A3.out).mono ?_); (case side1 => repeat (first | exact HR0.out | (with_reducible refine Kd.C_alloc ?_ _) | (with_reducible refine Kd.C_drewN ?_ _) | (with_reducible refine Kd.C_drew ?_))); (case side2 => exact HC0.out); rintro e w' ⟨rfl, ⟨nd, rfl⟩⟩; refine ⟨_, rfl, ?_⟩) | (go_at_call 92; (with_reducible refine (oublietteref15_Table_Size.calls k _ _ l0 a1 t178 _ ?side1 ?side2 A5.out).mono ?_); (case side1 => repeat (first | exact HR0.out | (with_reducible refine Kd.C_alloc ?_ _) | (with_reducible refine Kd.C_drewN ?_ _) | (with_reducible refine Kd.C_drew ?_))); (case side2 => exact HC0.out); rintro e w9 ⟨rfl, hb⟩; have n0_ := Aside0.mk (below_step (by repeat (first | (with_reducible first | exact HB.out | apply below_alloc | apply pw_below_drewN | apply below_drew1) | exact HB.out)) hb); clear HB; have HB := n0_; clear n0_; (try clear hb); (try clear hb2); (try clear hk); (try clear hi)) | ((with_reducible refine gate_callee (f := 114) rfl ?_); refine goesL_ (some 17) rfl rfl Tryd.func114 (by kernel_rfl) rfl #[.slice A0 l0.length c0, .int .i64 a1] rfl (by (try simp only [List.map_toArray, List.map_cons, List.map_nil]); first | done | rfl | (simp only [List.length_drop, List.length_take]; rfl)) ?_; (with_reducible refine (oublietteref15_Table_text.calls k _ _ l0 a1 t179 _ ?side1 ?side2 A8.out).mono ?_); (case side1 => repeat (first | exact (Kd.C_below HR0.out HB.out) | (with_reducible refine Kd.C_alloc ?_ _) | (with_reducible refine Kd.C_drewN ?_ _) | (with_reducible refine Kd.C_drew ?_))); (case side2 => exact HC0.out); rintro e w10 ⟨rfl, hb⟩; refine ⟨_, rfl, ?_⟩; have n0_ := Aside0.mk (below_step (by repeat (first | (with_reducible first | exact HB.out | apply below_alloc | apply pw_below_drewN | apply below_drew1) | exact HB.out)) hb); clear HB; have HB := n0_; clear n0_; (try clear hb); (try clear hb2); (try clear hk); (try clear hi)))
      go_ret
      exact ⟨by first | rfl | (simp [errW_none, errW_some] <;> rfl) | (simp [*, errW_none, errW_some] <;> rfl), by repeat (first | (with_reducible first | exact HB.out | apply below_alloc | apply pw_below_drewN | apply below_drew1) | exact HB.out)⟩
  · replace c4 := Bool.eq_false_iff.mpr c4
    subst c4
    have H1 : (some (⟨#[]⟩ : ByteArray)) = some r := by rw [if_neg (show ¬ (false = true) by decide)] at H; exact H
    clear H
    have H := H1
    clear H1
    obtain rfl := Option.some.inj H
    go_enter Tryd.func93, Tryd.ntmps93
    go_wp2_with (first | ((with_reducible refine gate_callee (f := 111) rfl ?_); refine goesL_ (some 7) rfl rfl Tryd.func111 (by kernel_rfl) rfl #[.slice A0 l0.length c0, .int .i64 a1] rfl (by (try simp only [List.map_toArray, List.map_cons, List.map_nil]); first | done | rfl | (simp only [List.length_drop, List.length_take]; rfl)) ?_; (with_reducible refine (oublietteref15_Table_there.calls _ _ l0 a1 false _ ?side1 ?side2 A3.out).mono ?_); (case side1 => repeat (first | exact HR0.out | (with_reducible refine Kd.C_alloc ?_ _) | (with_reducible refine Kd.C_drewN ?_ _) | (with_reducible refine Kd.C_drew ?_))); (case side2 => exact HC0.out); rintro e w' ⟨rfl, ⟨nd, rfl⟩⟩; refine ⟨_, rfl, ?_⟩))
    go_ret
    exact ⟨by first | rfl | (simp [errW_none, errW_some] <;> rfl) | (simp [*, errW_none, errW_some] <;> rfl), by repeat (first | (with_reducible first | exact HB.out | apply below_alloc | apply pw_below_drewN | apply below_drew1) | exact HB.out)⟩



end Go.Proofs.YtcaojgdnhmgmlaaDoor.PTermPlays

import Derived.Test.YtcaojgdnhmgmlaaDoorNb01
import Derived.Test.YtcaojgdnhmgmlaaDoorNb11
import Derived.Test.YtcaojgdnhmgmlaaDoorNb17
import Derived.Test.YtcaojgdnhmgmlaaDoorNb05
import Derived.ChangeAlike
section
/- Functions of the seat as plain Lean functions, and that the calls do what these say; conditions stand in each theorem. (Written by a program of this seat's prover, by the kit's printer; Lean checks it.) -/
namespace Go.Proofs.YtcaojgdnhmgmlaaDoor.Q
open Go.RowKit Go.Proofs.YtcaojgdnhmgmlaaDoorW.PrintWords Go.Proofs.YtcaojgdnhmgmlaaDoorW.PrintLast Go.Proofs.YtcaojgdnhmgmlaaDoorW.PrintMore
attribute [local go_sem] max2_int min2_int max_two min_two max_three min_three max_four min_four   -- for this text's walks alone
set_option linter.unusedVariables false
set_option linter.unusedSimpArgs false

/-! ### oublietteref03_Part: function 56 -/
mutual
def oublietteref03_Part.j0 : Nat → List Int → Bool → Option (Bool)
  | 0, _, _ => none
  | k + 1, x3, x24 => if x24 = true then (some false) else (oublietteref03_Part.l0 k x3 0)
def oublietteref03_Part.l0 : Nat → List Int → Int → Option (Bool)
  | 0, _, _ => none
  | k + 1, x3, x6 => if x6 < (x3.length : Int) then (if 0 ≤ x6 then ((oublietteref03_small.f (rd x3 x6)).bind fun t316 => (if t316 = true then (oublietteref03_Part.l0 k x3 (wrap64 (x6 + 1))) else (some false))) else (none)) else (some true)
end
def oublietteref03_Part.f (k : Nat) (a0 : ByteArray) : Option (Bool) := (oublietteref02_Runes.f k a0).bind fun bt310 => (if bt310.2.2 = 0 then (if (bt310.1.length : Int) < 1 then (oublietteref03_Part.j0 k bt310.1 true) else (oublietteref03_Part.j0 k bt310.1 (decide ((bt310.1.length : Int) > 8)))) else (oublietteref03_Part.j0 k bt310.1 true))
theorem oublietteref03_Part.mono_l : ∀ k, (∀ y0 y1, LeO (oublietteref03_Part.j0 k y0 y1) (oublietteref03_Part.j0 (k + 1) y0 y1)) ∧ (∀ y0 y1, LeO (oublietteref03_Part.l0 k y0 y1) (oublietteref03_Part.l0 (k + 1) y0 y1))
  | 0 => ⟨fun _ _ r h => by simp [oublietteref03_Part.j0] at h, fun _ _ r h => by simp [oublietteref03_Part.l0] at h⟩
  | k + 1 => by
    obtain ⟨ih0, ih1⟩ := oublietteref03_Part.mono_l k
    refine ⟨?_, ?_⟩
    · intro y0 y1
      unfold oublietteref03_Part.j0
      repeat' first
      | (with_reducible exact ih0 _ _)
      | (with_reducible exact ih1 _ _)
      | (with_reducible exact oublietteref02_Runes.mono _ _)
      | (with_reducible exact LeO.refl _)
      | (with_reducible exact LeO.none _)
      | (with_reducible refine LeO.ite ?_ ?_)
      | (with_reducible refine LeO.bind ?_ (fun _ => ?_))
      | exact ih0 _ _
      | exact ih1 _ _
      | exact oublietteref02_Runes.mono _ _
      | exact LeO.none _
      | refine LeO.ite ?_ ?_
      | refine LeO.bind ?_ (fun _ => ?_)
    · intro y0 y1
      unfold oublietteref03_Part.l0
      repeat' first
      | (with_reducible exact ih0 _ _)
      | (with_reducible exact ih1 _ _)
      | (with_reducible exact oublietteref02_Runes.mono _ _)
      | (with_reducible exact LeO.refl _)
      | (with_reducible exact LeO.none _)
      | (with_reducible refine LeO.ite ?_ ?_)
      | (with_reducible refine LeO.bind ?_ (fun _ => ?_))
      | exact ih0 _ _
      | exact ih1 _ _
      | exact oublietteref02_Runes.mono _ _
      | exact LeO.none _
      | refine LeO.ite ?_ ?_
      | refine LeO.bind ?_ (fun _ => ?_)
theorem oublietteref03_Part.mono : ∀ a0 k, LeO (oublietteref03_Part.f k a0) (oublietteref03_Part.f (k + 1) a0) := by
  intro a0 k
  obtain ⟨ih0, ih1⟩ := oublietteref03_Part.mono_l k
  unfold oublietteref03_Part.f
  repeat' first
      | (with_reducible exact ih0 _ _)
      | (with_reducible exact ih1 _ _)
      | (with_reducible exact oublietteref02_Runes.mono _ _)
      | (with_reducible exact LeO.refl _)
      | (with_reducible exact LeO.none _)
      | (with_reducible refine LeO.ite ?_ ?_)
      | (with_reducible refine LeO.bind ?_ (fun _ => ?_))
      | exact ih0 _ _
      | exact ih1 _ _
      | exact oublietteref02_Runes.mono _ _
      | exact LeO.none _
      | refine LeO.ite ?_ ?_
      | refine LeO.bind ?_ (fun _ => ?_)
set_option maxHeartbeats 8000000 in
set_option maxRecDepth 100000 in
theorem oublietteref03_Part.calls (k : Nat) (a0 : ByteArray) (r : Bool) (w : World) (h : oublietteref03_Part.f k a0 = some r) :
    Calls Tryd.prog 56 #[.string a0] w fun e w' => e = .returned (.bool r) ∧ Below w.heap.size w w' := by
  have HB := Aside0.mk (Below.refl w.heap.size w)
  have H : ((oublietteref02_Runes.f k a0).bind fun bt310 => (if bt310.2.2 = 0 then (if (bt310.1.length : Int) < 1 then (oublietteref03_Part.j0 k bt310.1 true) else (oublietteref03_Part.j0 k bt310.1 (decide ((bt310.1.length : Int) > 8)))) else (oublietteref03_Part.j0 k bt310.1 true))) = some r := h
  clear h
  replace H := Option.bind_eq_some_iff.mp H
  obtain ⟨⟨t310, t311, t312⟩, A20, H⟩ := H
  replace H : (if t312 = 0 then (if (t310.length : Int) < 1 then (oublietteref03_Part.j0 k t310 true) else (oublietteref03_Part.j0 k t310 (decide ((t310.length : Int) > 8)))) else (oublietteref03_Part.j0 k t310 true)) = some r := H
  have A2 := Aside0.mk A20
  clear A20
  have HC3 := Aside0.mk H
  clear H
  go_enter Tryd.func56, Tryd.ntmps56
  go_upto_region 2 with (first | ((with_reducible refine gate_callee (f := 22) rfl ?_); refine goesL_ (some 9) rfl rfl Tryd.func22 (by kernel_rfl) rfl #[.string a0] rfl (by (try simp only [List.map_toArray, List.map_cons, List.map_nil]); first | done | rfl | (simp only [List.length_drop, List.length_take]; rfl)) ?_; (with_reducible refine (oublietteref02_Runes.calls k a0 t310 t311 t312 _ A2.out).mono ?_); rintro e w4 ⟨v313, rfl, ho0, hb⟩; refine ⟨_, rfl, ?_⟩; have n0_ := Aside0.mk (Kd.R_lower ho0 (below_size (by repeat (first | (with_reducible first | exact HB.out | apply below_alloc | apply pw_below_drewN | apply below_drew1) | exact HB.out)))); have n1_ := Aside0.mk (below_step (by repeat (first | (with_reducible first | exact HB.out | apply below_alloc | apply pw_below_drewN | apply below_drew1) | exact HB.out)) hb); clear HB; have HO314 := n0_; have HB := n1_; clear n0_ n1_; (try clear hb); (try clear hb2); (try clear hk); (try clear hi); (try clear ho0)))
  (try simp only [Act.put, List.setIfInBounds_toArray, List.set_cons_zero, List.set_cons_succ])
  go_cut [24] (fun v24 wc => ∃ (kq : Nat) (x24_2 : Bool), v24 = .bool x24_2 ∧ Aside0 (oublietteref03_Part.j0 kq t310 x24_2 = some r) ∧ Aside0 (kq ≤ k) ∧ Aside0 (Kd.R (Kd.int .i32) 21 wc w.heap.size (fun _ => True) v313 t310) ∧ Aside0 (Below w.heap.size w wc))
  case first =>
    have H := HC3.out
    clear HC3
    by_cases c5 : t312 = 0
    · rw [if_pos c5] at H
      have c5b0 : (t312 == 0) = true := beq_iff_eq.mpr c5
      have c5b1 : (t312 != 0) = false := bne_eq_false_iff_eq.mpr c5
      clear c5
      (first | rw [c5b0] | (simp only [i64_w, i32_w]; rw [c5b0]) | skip)
      by_cases c6 : (t310.length : Int) < 1
      · rw [if_pos c6] at H
        have c6b0 : decide ((t310.length : Int) < 1) = true := decide_eq_true c6
        have c6b1 : decide (t310.length < 1) = true := decide_eq_true (by omega)
        clear c6
        have H' := Aside0.mk H
        clear H
        obtain ⟨Ao7, co7, eo7⟩ := Kd.R_slice HO314.out
        subst eo7
        go_wp2
        go_meet
        case rel => exact ⟨_, (true), (by first | rfl | (simp; done) | (simp [*]; done)), H', ⟨by first | omega | exact Nat.le_refl _⟩, ⟨by (with_reducible repeat (first | apply Kd.R_alloc | apply Kd.R_drewN | apply Kd.R_drew)); exact HO314.out⟩, ⟨by repeat (first | (with_reducible first | exact HB.out | apply below_alloc | apply pw_below_drewN | apply below_drew1) | exact HB.out)⟩⟩
      · rw [if_neg c6] at H
        have c6b0 : decide ((t310.length : Int) < 1) = false := decide_eq_false c6
        have c6b1 : decide (t310.length < 1) = false := decide_eq_false (by omega)
        clear c6
        have H' := Aside0.mk H
        clear H
        obtain ⟨Ao8, co8, eo8⟩ := Kd.R_slice HO314.out
        subst eo8
        go_wp2
        go_meet
        case rel => exact ⟨_, (decide ((t310.length : Int) > 8)), (by first | rfl | (simp; done) | (simp [*]; done)), H', ⟨by first | omega | exact Nat.le_refl _⟩, ⟨by (with_reducible repeat (first | apply Kd.R_alloc | apply Kd.R_drewN | apply Kd.R_drew)); exact HO314.out⟩, ⟨by repeat (first | (with_reducible first | exact HB.out | apply below_alloc | apply pw_below_drewN | apply below_drew1) | exact HB.out)⟩⟩
    · rw [if_neg c5] at H
      have c5b0 : (t312 == 0) = false := beq_eq_false_iff_ne.mpr c5
      have c5b1 : (t312 != 0) = true := bne_iff_ne.mpr c5
      (first | rw [c5b0] | (simp only [i64_w, i32_w]; rw [c5b0]) | skip)
      have H' := Aside0.mk H
      clear H
      go_wp2
      go_meet
      case rel => exact ⟨_, (true), (by first | rfl | (simp; done) | (simp [*]; done)), H', ⟨by first | omega | exact Nat.le_refl _⟩, ⟨by (with_reducible repeat (first | apply Kd.R_alloc | apply Kd.R_drewN | apply Kd.R_drew)); exact HO314.out⟩, ⟨by repeat (first | (with_reducible first | exact HB.out | apply below_alloc | apply pw_below_drewN | apply below_drew1) | exact HB.out)⟩⟩
  case rest =>
    clear HC3
    try clear c2
    try clear p2
    try clear c5
    try clear c5b0
    try clear c5b1
    try clear c6
    try clear c6b0
    try clear c6b1
    obtain ⟨kq, x24_2, rfl, HA, HJ2, HO_3, HB⟩ := hcut
    cases kq with
    | zero => exact absurd HA.out (by simp [oublietteref03_Part.j0])
    | succ kj2 =>
      have H := HA.out
      clear HA
      simp only [oublietteref03_Part.j0] at H
      by_cases c9 : x24_2 = true
      · subst c9
        have H1 : (some false) = some r := by rw [if_pos rfl] at H; exact H
        clear H
        have H := H1
        clear H1
        obtain rfl := Option.some.inj H
        go_wp2
        go_ret
        exact ⟨by first | rfl | (simp [errW_none, errW_some] <;> rfl) | (simp [*, errW_none, errW_some] <;> rfl), by repeat (first | (with_reducible first | exact HB.out | apply below_alloc | apply pw_below_drewN | apply below_drew1) | exact HB.out)⟩
      · replace c9 := Bool.eq_false_iff.mpr c9
        subst c9
        have H1 : (oublietteref03_Part.l0 kj2 t310 0) = some r := by rw [if_neg (show ¬ (false = true) by decide)] at H; exact H
        clear H
        have H := H1
        clear H1
        have H' := Aside0.mk H
        clear H
        go_wp2
        go_loopg [6] kj2 (fun kq v6 w' => ∃ (x6_2 : Int), v6 = .int .i64 x6_2 ∧ Aside0 (oublietteref03_Part.l0 kq t310 x6_2 = some r) ∧ Aside0 (kq ≤ kj2) ∧ Aside0 (Kd.R (Kd.int .i32) 21 w' w.heap.size (fun _ => True) v313 t310) ∧ Aside0 (Below w.heap.size w w'))
        case atStart => exact ⟨(0), (by first | rfl | (simp; done) | (simp [*]; done)), H', ⟨Nat.le_refl _⟩, ⟨by (with_reducible repeat (first | apply Kd.R_alloc | apply Kd.R_drewN | apply Kd.R_drew)); exact HO_3.out⟩, ⟨by repeat (first | (with_reducible first | exact HB.out | apply below_alloc | apply pw_below_drewN | apply below_drew1) | exact HB.out)⟩⟩
        case round =>
          clear H'
          try clear c2
          try clear p2
          try clear c5
          try clear c5b0
          try clear c5b1
          try clear c6
          try clear c6b0
          try clear c6b1
          try clear c9
          try clear p2
          obtain ⟨x6_2, rfl, HA, HK2, HO_3, HB⟩ := hrel
          cases gk with
          | zero => exact absurd HA.out (by simp [oublietteref03_Part.l0])
          | succ k2 =>
            have H := HA.out
            clear HA
            simp only [oublietteref03_Part.l0] at H
            by_cases c10 : x6_2 < (t310.length : Int)
            · rw [if_pos c10] at H
              have c10b0 : decide (x6_2 < (t310.length : Int)) = true := decide_eq_true c10
              clear c10
              by_cases c11 : 0 ≤ x6_2
              · rw [if_pos c11] at H
                have c11b0 : decide (0 ≤ x6_2) = true := decide_eq_true c11
                clear c11
                replace H := Option.bind_eq_some_iff.mp H
                obtain ⟨t316, A120, H⟩ := H
                replace H : (if t316 = true then (oublietteref03_Part.l0 k2 t310 (wrap64 (x6_2 + 1))) else (some false)) = some r := H
                have A12 := Aside0.mk A120
                clear A120
                by_cases c13 : t316 = true
                · subst c13
                  have H1 : (oublietteref03_Part.l0 k2 t310 (wrap64 (x6_2 + 1))) = some r := by rw [if_pos rfl] at H; exact H
                  clear H
                  have H := H1
                  clear H1
                  have H' := Aside0.mk H
                  clear H
                  obtain ⟨Ao14, co14, eo14⟩ := Kd.R_slice HO_3.out
                  subst eo14
                  have p315 : 0 ≤ (x6_2 : Int) := of_decide_eq_true (by first | (with_reducible assumption) | assumption)
                  have q315 : x6_2 < (t310.length : Int) := of_decide_eq_true (by first | (with_reducible assumption) | assumption)
                  obtain ⟨ad315, e315, hx315_0⟩ := Kd.at_int (Kd.R_reads' HO_3.out).2.2 x6_2 p315 q315
                  cases e315
                  replace p315 := eq_true p315
                  replace q315 := eq_true q315
                  go_wp2_with (first | ((with_reducible refine gate_callee (f := 98) rfl ?_); refine goesL_ (some 35) rfl rfl Tryd.func98 (by kernel_rfl) rfl #[.int .i32 (rd t310 x6_2)] rfl (by (try simp only [List.map_toArray, List.map_cons, List.map_nil]); first | done | rfl | (simp only [List.length_drop, List.length_take]; rfl)) ?_; (with_reducible refine (oublietteref03_small.calls (rd t310 x6_2) true _ A12.out).mono ?_); rintro e w' ⟨rfl, ⟨nd, rfl⟩⟩; refine ⟨_, rfl, ?_⟩))
                  go_roundg k2
                  case measure => have := HJ2.out; have := HK2.out; omega
                  case rel => exact ⟨(wrap64 (x6_2 + 1)), (by first | rfl | (simp; done) | (simp [*]; done)), H', ⟨by have := HJ2.out; have := HK2.out; omega⟩, ⟨by (with_reducible repeat (first | apply Kd.R_alloc | apply Kd.R_drewN | apply Kd.R_drew)); exact HO_3.out⟩, ⟨by repeat (first | (with_reducible first | exact HB.out | apply below_alloc | apply pw_below_drewN | apply below_drew1) | exact HB.out)⟩⟩
                · replace c13 := Bool.eq_false_iff.mpr c13
                  subst c13
                  have H1 : (some false) = some r := by rw [if_neg (show ¬ (false = true) by decide)] at H; exact H
                  clear H
                  have H := H1
                  clear H1
                  obtain rfl := Option.some.inj H
                  obtain ⟨Ao15, co15, eo15⟩ := Kd.R_slice HO_3.out
                  subst eo15
                  have p315 : 0 ≤ (x6_2 : Int) := of_decide_eq_true (by first | (with_reducible assumption) | assumption)
                  have q315 : x6_2 < (t310.length : Int) := of_decide_eq_true (by first | (with_reducible assumption) | assumption)
                  obtain ⟨ad315, e315, hx315_0⟩ := Kd.at_int (Kd.R_reads' HO_3.out).2.2 x6_2 p315 q315
                  cases e315
                  replace p315 := eq_true p315
                  replace q315 := eq_true q315
                  go_wp2_with (first | ((with_reducible refine gate_callee (f := 98) rfl ?_); refine goesL_ (some 35) rfl rfl Tryd.func98 (by kernel_rfl) rfl #[.int .i32 (rd t310 x6_2)] rfl (by (try simp only [List.map_toArray, List.map_cons, List.map_nil]); first | done | rfl | (simp only [List.length_drop, List.length_take]; rfl)) ?_; (with_reducible refine (oublietteref03_small.calls (rd t310 x6_2) false _ A12.out).mono ?_); rintro e w' ⟨rfl, ⟨nd, rfl⟩⟩; refine ⟨_, rfl, ?_⟩))
                  go_ret
                  exact ⟨by first | rfl | (simp [errW_none, errW_some] <;> rfl) | (simp [*, errW_none, errW_some] <;> rfl), by repeat (first | (with_reducible first | exact HB.out | apply below_alloc | apply pw_below_drewN | apply below_drew1) | exact HB.out)⟩
              · rw [if_neg c11] at H
                exact absurd H (by simp)
            · rw [if_neg c10] at H
              have c10b0 : decide (x6_2 < (t310.length : Int)) = false := decide_eq_false c10
              clear c10
              obtain rfl := Option.some.inj H
              obtain ⟨Ao16, co16, eo16⟩ := Kd.R_slice HO_3.out
              subst eo16
              go_wp2
              go_ret
              exact ⟨by first | rfl | (simp [errW_none, errW_some] <;> rfl) | (simp [*, errW_none, errW_some] <;> rfl), by repeat (first | (with_reducible first | exact HB.out | apply below_alloc | apply pw_below_drewN | apply below_drew1) | exact HB.out)⟩

end Go.Proofs.YtcaojgdnhmgmlaaDoor.Q
end
section
/- The document's pieces, by hand: a text parted at its points. -/
namespace Go.Proofs.YtcaojgdnhmgmlaaDoor.Q
open Go.RowKit Go.Proofs.YtcaojgdnhmgmlaaDoorW.PrintWords Go.Proofs.YtcaojgdnhmgmlaaDoorW.PrintLast Go.Proofs.YtcaojgdnhmgmlaaDoorW.PrintMore
set_option linter.unusedVariables false

theorem pcs_snoc_point : ∀ l : List UInt8, pcs (l ++ [46]) = pcs l ++ [[]]
  | [] => by simp [pcs]
  | c :: t => by
    by_cases h : c = 46
    · subst h
      rw [List.cons_append, pcs_point, pcs_point, pcs_snoc_point t]; rfl
    · obtain ⟨p, ps, h1, h2⟩ := pcs_other c t h
      obtain ⟨q, qs, h3, h4⟩ := pcs_other c (t ++ [46]) h
      rw [pcs_snoc_point t, h1] at h3
      obtain ⟨rfl, rfl⟩ := List.cons.inj h3
      rw [List.cons_append, h4, h2]; rfl
theorem pcs_snoc_other (x : UInt8) (hx : x ≠ 46) : ∀ l : List UInt8, ∃ q r, pcs l = q ++ [r] ∧ pcs (l ++ [x]) = q ++ [r ++ [x]]
  | [] => ⟨[], [], rfl, by
      obtain ⟨p, ps, h1, h2⟩ := pcs_other x [] hx
      have : p = [] ∧ ps = [] := by
        have h3 : pcs [] = [[]] := rfl
        rw [h3] at h1
        exact ⟨(List.cons.inj h1).1.symm, (List.cons.inj h1).2.symm⟩
      rw [this.1, this.2] at h2
      exact h2⟩
  | c :: t => by
    obtain ⟨q, r, h1, h2⟩ := pcs_snoc_other x hx t
    by_cases h : c = 46
    · subst h
      exact ⟨[] :: q, r, by rw [pcs_point, h1]; rfl, by rw [List.cons_append, pcs_point, h2]; rfl⟩
    · obtain ⟨p, ps, h3, h4⟩ := pcs_other c t h
      obtain ⟨p2, ps2, h5, h6⟩ := pcs_other c (t ++ [x]) h
      rw [h1] at h3
      rw [h2] at h5
      rcases q with _ | ⟨a, q⟩
      · obtain ⟨rfl, rfl⟩ := List.cons.inj h3
        obtain ⟨rfl, rfl⟩ := List.cons.inj h5
        exact ⟨[], c :: r, h4, by rw [List.cons_append, h6]; rfl⟩
      · obtain ⟨rfl, rfl⟩ := List.cons.inj h3
        obtain ⟨rfl, rfl⟩ := List.cons.inj h5
        exact ⟨(c :: a) :: q, r, h4, by rw [List.cons_append, h6]; rfl⟩
theorem take_next (s : ByteArray) (i : Nat) (h : i < s.size) : (s.extract 0 (i + 1)).data.toList = (s.extract 0 i).data.toList ++ [s[i]] := by
  have h1 : ∀ k, (s.extract 0 k).data.toList = s.data.toList.take k := fun k => by rw [← str_take]
  rw [h1, h1, List.take_succ_eq_append_getElem (by simpa using h)]
  rfl
theorem pieces_next_point (s : ByteArray) (i : Nat) (h : i < s.size) (hc : s[i] = 46) : pieces (s.extract 0 (i + 1)) = pieces (s.extract 0 i) ++ [⟨#[]⟩] := by
  rw [pieces, take_next s i h, hc, pcs_snoc_point, List.map_append]; rfl
theorem pieces_next_other (s : ByteArray) (i : Nat) (h : i < s.size) (hc : s[i] ≠ 46) : ∃ q r, pieces (s.extract 0 i) = q ++ [r] ∧ pieces (s.extract 0 (i + 1)) = q ++ [r ++ s.extract i (i + 1)] := by
  obtain ⟨q, r, h1, h2⟩ := pcs_snoc_other s[i] hc (s.extract 0 i).data.toList
  refine ⟨q.map fun l => ⟨l.toArray⟩, ⟨r.toArray⟩, ?_, ?_⟩
  · rw [pieces, h1, List.map_append]; rfl
  · rw [pieces, take_next s i h, h2, List.map_append, List.map_cons, List.map_nil]
    congr 2
    apply ByteArray.ext
    rw [← Array.toList_inj]
    have e : (s.extract i (i + 1)).data.toList = [s[i]] := by
      have hh : i < s.data.size := h
      simp [List.extract]
      rw [List.drop_eq_getElem_cons (by simpa using hh)]
      simp
      rfl
    rw [ByteArray.data_append, Array.toList_append, e]
def oublietteref03_pieces.f (a0 : ByteArray) : Option (List ByteArray) := if a0.size < 900000 then some (pieces a0) else none
set_option maxRecDepth 100000 in
set_option maxHeartbeats 2000000 in
theorem oublietteref03_pieces.calls (a0 : ByteArray) (r : List ByteArray) (w : World) (h : oublietteref03_pieces.f a0 = some r) :
    Calls Tryd.prog 59 #[.string a0] w fun e w' => ∃ v0_ : Value, e = .returned (v0_) ∧ Kd.R Kd.string 9 w' w.heap.size (fun _ => True) v0_ r ∧ Below w.heap.size w w' := by
  unfold oublietteref03_pieces.f at h
  split at h
  case isFalse => cases h
  rename_i hs
  obtain rfl := Option.some.inj h
  have HS := Aside0.mk hs
  clear hs h
  have h0 : pieces (a0.extract 0 0) = [⟨#[]⟩] := by
    have : (a0.extract 0 0).data.toList = [] := by rw [← str_take]; simp
    rw [pieces, this]; rfl
  have HO0 := Aside0.mk (show Kd.R Kd.string 9 (w.alloc (.cells #[.string ⟨#[]⟩] 9)) w.heap.size (fun _ => True) (.slice (some ⟨w.heap.size, 0, none⟩) 1 1) (pieces (a0.extract 0 0)) by rw [h0]; exact made_R w [⟨#[]⟩] (by simp))
  clear h0
  go_enter Tryd.func59, Tryd.ntmps59
  go_wp2_with fail
  go_loopg [3, 4] a0.size (fun kq v vi wr => ∃ i : Nat, vi = .int .i64 (i : Int) ∧ Aside0 (i + kq = a0.size) ∧ Aside0 (Kd.R Kd.string 9 wr w.heap.size (fun _ => True) v (pieces (a0.extract 0 i))) ∧ Aside0 (Below w.heap.size w wr))
  case atStart => exact ⟨0, rfl, ⟨by omega⟩, HO0, ⟨below_alloc (Below.refl _ _) _⟩⟩
  case round =>
    clear HO0
    obtain ⟨i, rfl, HK, HO, HB⟩ := hrel
    have hwk : wrap64 ((i : Int) + 1) = ((i + 1 : Nat) : Int) := by have := HS.out; have := HK.out; unfold wrap64; omega
    by_cases hlt : i < a0.size
    · have e1 : decide ((i : Int) < a0.size) = true := decide_eq_true (by omega)
      obtain ⟨kq', rfl⟩ : ∃ m, gk = m + 1 := ⟨gk - 1, by have := HK.out; omega⟩
      by_cases hc : a0[i] = 46
      · have HPN := Aside0.mk (pieces_next_point a0 i hlt hc)
        have HLB := Aside0.mk (show (pieces (a0.extract 0 i)).length < 1000000 by have h1 := (pieces_len _ (a0.extract 0 i) rfl).2; have h2 := HS.out; rw [ByteArray.size_extract] at h1; omega)
        generalize pieces (a0.extract 0 i) = cur at HO HPN HLB
        go_wp2_with (first | ((with_reducible refine gate_builtin (b := .append) (xs := #[.tmp 16, .tmp 17]) rfl ?_); at_builtin; refine Kd.R_append Kd.string (w0 := w) w.heap.size rfl (.tmp 16) (.tmp 17) 22 9 (.string ⟨#[]⟩) 16 rfl Tryd.underlying22 info9 rfl (by decide) (by omega) u3 cur (⟨#[]⟩ : ByteArray) [.string ⟨#[]⟩] (fun _ => True) (fun _ => False) rfl rfl rfl (fun _ hk => hk.elim) (fun _ _ => trivial) HO.out HB.out HB.out.size (by have := HLB.out; omega) ?_; intro v1 w1 ho hb hg hat; clear hg hat; have HO3 := Aside0.mk ho; have HB3 := Aside0.mk hb; clear ho hb))
        go_roundg kq'
        case measure => omega
        case rel => exact ⟨i + 1, by rw [hwk], ⟨by have := HK.out; omega⟩, ⟨by rw [HPN.out]; exact HO3.out⟩, HB3⟩
      · obtain ⟨q, r, hp1, hp2⟩ := pieces_next_other a0 i hlt hc
        have hlb : q.length + 1 < 1000000 := by
          have h1 := (pieces_len _ (a0.extract 0 i) rfl).2
          have h2 := HS.out
          rw [ByteArray.size_extract, hp1, List.length_append, List.length_singleton] at h1
          omega
        rw [hp1] at HO
        obtain ⟨ad, c, hv⟩ := Kd.R_slice1 HO.out (by simp)
        rw [List.length_append, List.length_singleton] at hv
        subst hv
        obtain ⟨g, rfl⟩ := Kd.R_head HO.out
        have hcl : wr.cell? ⟨g, q.length, none⟩ = some (.string r) := by
          obtain ⟨A, c2, e2, _, hC⟩ := Kd.R_reads HO.out
          injection e2 with eA en ec
          subst eA
          obtain ⟨ad2, e3, hx⟩ := Kd.at_string hC (q.length : Int) (by omega) (by rw [List.length_append, List.length_singleton]; omega)
          cases e3
          rw [Int.toNat_natCast] at hx
          have e4 : rdOf ByteArray.empty (q ++ [r]) (q.length : Int) = r := by simp [rdOf, List.getD]
          rw [e4] at hx
          rw [← hx]
          unfold Addr.add
          split
          · rename_i h0; rw [h0]
          · simp
        have hfr : wr.frozen? ⟨g, q.length, none⟩ = false := by
          obtain ⟨inner, ho⟩ := Kd.R_own HO.out
          obtain ⟨cells, hcc⟩ := own_typed ho g rfl
          simp [World.frozen?, hcc]
        have HPUT := Aside0.mk (Kd.R_putn HO.out (q.length : Int) (r ++ a0.extract i (i + 1)))
        have HPN := Aside0.mk (show pieces (a0.extract 0 (i + 1)) = (q ++ [r]).set (q.length : Int).toNat (r ++ a0.extract i (i + 1)) by rw [hp2, Int.toNat_natCast]; simp)
        have hgb : w.heap.size ≤ g := by
          obtain ⟨inner, ho⟩ := Kd.R_own HO.out
          exact own_base ho g rfl
        have HGB := Aside0.mk hgb
        have hcb : ((a0[i].toNat : Int) == 46) = false := beq_eq_false_iff_ne.mpr (fun e => hc (UInt8.toNat_inj.1 (by show a0[i].toNat = 46; omega)))
        have hsl : (q.length : Int) < q.length + 1 := by omega
        have hq0 : (0 : Int) ≤ q.length := by omega
        have hrs : r.size ≤ (a0.extract 0 i).size := pieces_size _ (a0.extract 0 i) rfl r (by rw [hp1]; simp)
        have hadd : ∀ W : World, (Op.stringOp .add r (a0.extract i (i + 1))).run Tryd.prog W = .ok (.string (r ++ a0.extract i (i + 1))) W := fun W => run_string_add_sum W r _ (by have := HS.out; rw [ByteArray.size_extract] at hrs ⊢; omega)
        have hw0 : wrap64 (q.length : Int) = q.length := by unfold wrap64; omega
        have hw1 : IntKind.i64.wrap (q.length : Int) = q.length := wr64 _ (by omega) (by omega)
        have hw2 : IntKind.i64.wrap ((i : Int) + 1) = i + 1 := wr64 _ (by omega) (by have := HS.out; omega)
        have hw3 : wrap64 ((i : Int) + 1) = (i : Int) + 1 := by have := HS.out; unfold wrap64; omega
        have hi0 : (0 : Int) ≤ i := by omega
        have hi1 : (i : Int) ≤ i + 1 := by omega
        have hi2 : (i : Int) + 1 ≤ a0.size := by omega
        have hi3 : ((i : Int) + 1).toNat = i + 1 := by omega
        have HWK := Aside0.mk hwk
        clear hp1 hp2 hgb HO hc hwk hrs
        go_wp2_with fail
        go_region
        go_wp2_with fail
        go_roundg kq'
        case measure => omega
        case rel => exact ⟨i + 1, rfl, ⟨by have := HK.out; omega⟩, ⟨by rw [HPN.out]; exact Kd.R_drew HPUT.out⟩, ⟨below_drew (HB.out.setCell (p := ⟨g, q.length, none⟩) HGB.out _)⟩⟩
    · have e1 : decide ((i : Int) < a0.size) = false := decide_eq_false (by omega)
      obtain rfl : i = a0.size := by have := HK.out; omega
      have he : a0.extract 0 a0.size = a0 := by
        apply ByteArray.ext
        rw [← Array.toList_inj, ← str_take]
        exact List.take_of_length_le (by rw [Array.length_toList]; exact Nat.le_refl _)
      rw [he] at HO
      clear he hwk hlt HK
      go_wp2_with fail
      go_ret
      exact ⟨_, rfl, HO.out, HB.out⟩
end Go.Proofs.YtcaojgdnhmgmlaaDoor.Q
end

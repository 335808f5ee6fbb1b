/- Functions of the seat as plain Lean functions, and that the calls do what these say; conditions stand in each theorem. (Written by a program of this seat's prover, by the kit's printer; Lean checks it.) -/
import Derived.Test.YtcaojgdnhmgmlaaDoorQx0
import Derived.Test.YtcaojgdnhmgmlaaDoorQx19
import Derived.Test.YtcaojgdnhmgmlaaDoorQx21
namespace Go.Proofs.YtcaojgdnhmgmlaaDoor.Q
open Go.RowKit Go.Proofs.YtcaojgdnhmgmlaaDoorW.PrintWords Go.Proofs.YtcaojgdnhmgmlaaDoorW.PrintLast Go.Proofs.YtcaojgdnhmgmlaaDoorW.PrintMore
attribute [local go_sem] max2_int min2_int max_two min_two max_three min_three max_four min_four   -- for this text's walks alone
set_option linter.unusedVariables false
set_option linter.unusedSimpArgs false

/-! ### oublietteref02_Cut: function 29 -/
def oublietteref02_Cut.f (k : Nat) (a0 : ByteArray) (a1 : Int) : Option (ByteArray) := (oublietteref02_Runes.f k a0).bind fun bt231 => (if a1 < 1 then (some (⟨#[]⟩ : ByteArray)) else (if 0 ≤ (mn a1 (bt231.1.length : Int)) then (if (mn a1 (bt231.1.length : Int)) ≤ (bt231.1.length : Int) then ((oublietteref02_Text.f k (bt231.1.take ((mn a1 (bt231.1.length : Int)) : Int).toNat)).bind fun bt240 => (some bt240.1)) else (none)) else (none)))
theorem oublietteref02_Cut.mono : ∀ a0 a1 k, LeO (oublietteref02_Cut.f k a0 a1) (oublietteref02_Cut.f (k + 1) a0 a1) := by
  intro a0 a1 k
  unfold oublietteref02_Cut.f
  repeat' first
      | (with_reducible exact oublietteref02_Runes.mono _ _)
      | (with_reducible exact oublietteref02_Text.mono _ _)
      | (with_reducible exact LeO.refl _)
      | (with_reducible exact LeO.none _)
      | (with_reducible refine LeO.ite ?_ ?_)
      | (with_reducible refine LeO.bind ?_ (fun _ => ?_))
      | exact oublietteref02_Runes.mono _ _
      | exact oublietteref02_Text.mono _ _
      | exact LeO.none _
      | refine LeO.ite ?_ ?_
      | refine LeO.bind ?_ (fun _ => ?_)
set_option maxHeartbeats 8000000 in
set_option maxRecDepth 100000 in
theorem oublietteref02_Cut.calls (k : Nat) (a0 : ByteArray) (a1 : Int) (r : ByteArray) (w : World) (h : oublietteref02_Cut.f k a0 a1 = some r) :
    Calls Tryd.prog 29 #[.string a0, .int .i64 a1] w fun e w' => e = .returned (.string r) ∧ Below w.heap.size w w' := by
  have HB := Aside0.mk (Below.refl w.heap.size w)
  have H : ((oublietteref02_Runes.f k a0).bind fun bt231 => (if a1 < 1 then (some (⟨#[]⟩ : ByteArray)) else (if 0 ≤ (mn a1 (bt231.1.length : Int)) then (if (mn a1 (bt231.1.length : Int)) ≤ (bt231.1.length : Int) then ((oublietteref02_Text.f k (bt231.1.take ((mn a1 (bt231.1.length : Int)) : Int).toNat)).bind fun bt240 => (some bt240.1)) else (none)) else (none)))) = some r := h
  clear h
  replace H := Option.bind_eq_some_iff.mp H
  obtain ⟨⟨t231, t232, t233⟩, A30, H⟩ := H
  replace H : (if a1 < 1 then (some (⟨#[]⟩ : ByteArray)) else (if 0 ≤ (mn a1 (t231.length : Int)) then (if (mn a1 (t231.length : Int)) ≤ (t231.length : Int) then ((oublietteref02_Text.f k (t231.take ((mn a1 (t231.length : Int)) : Int).toNat)).bind fun bt240 => (some bt240.1)) else (none)) else (none))) = some r := H
  have A3 := Aside0.mk A30
  clear A30
  by_cases c4 : a1 < 1
  · rw [if_pos c4] at H
    have c4b0 : decide (a1 < 1) = true := decide_eq_true c4
    clear c4
    obtain rfl := Option.some.inj H
    go_enter Tryd.func29, Tryd.ntmps29
    go_wp2_with (first | ((with_reducible refine gate_callee (f := 22) rfl ?_); refine goesL_ (some 13) rfl rfl Tryd.func22 (by kernel_rfl) rfl #[.string a0] rfl (by (try simp only [List.map_toArray, List.map_cons, List.map_nil]); first | done | rfl | (simp only [List.length_drop, List.length_take]; rfl)) ?_; (with_reducible refine (oublietteref02_Runes.calls k a0 t231 t232 t233 _ A3.out).mono ?_); rintro e w5 ⟨v234, rfl, ho0, hb⟩; refine ⟨_, rfl, ?_⟩; have n0_ := Aside0.mk (Kd.R_lower ho0 (below_size (by repeat (first | (with_reducible first | exact HB.out | apply below_alloc | apply pw_below_drewN | apply below_drew1) | exact HB.out)))); have n1_ := Aside0.mk (below_step (by repeat (first | (with_reducible first | exact HB.out | apply below_alloc | apply pw_below_drewN | apply below_drew1) | exact HB.out)) hb); clear HB; have HO235 := n0_; have HB := n1_; clear n0_ n1_; (try clear hb); (try clear hb2); (try clear hk); (try clear hi); (try clear ho0)))
    go_ret
    exact ⟨by first | rfl | (simp [errW_none, errW_some] <;> rfl) | (simp [*, errW_none, errW_some] <;> rfl), by repeat (first | (with_reducible first | exact HB.out | apply below_alloc | apply pw_below_drewN | apply below_drew1) | exact HB.out)⟩
  · rw [if_neg c4] at H
    have c4b0 : decide (a1 < 1) = false := decide_eq_false c4
    clear c4
    obtain ⟨ji6, hji6⟩ : ∃ j_ : Int, (mn a1 (t231.length : Int)) = j_ := ⟨_, rfl⟩
    replace H : (if 0 ≤ (ji6) then (if (ji6) ≤ (t231.length : Int) then ((oublietteref02_Text.f k (t231.take ((ji6) : Int).toNat)).bind fun bt240 => (some bt240.1)) else (none)) else (none)) = some r := by first | (rw [hji6] at H; exact H) | (simp only [hji6] at H ⊢; exact H)
    (try rw [hji6] at A3)
    have hji6_ : (if (t231.length : Int) < a1 then (t231.length : Int) else a1) = ji6 := hji6
    by_cases c7 : 0 ≤ (ji6)
    · rw [if_pos c7] at H
      have c7b0 := eq_true c7
      have c7b1 : decide (0 ≤ (ji6)) = true := decide_eq_true c7
      clear c7
      by_cases c8 : (ji6) ≤ (t231.length : Int)
      · rw [if_pos c8] at H
        have c8b0 := eq_true c8
        have c8b1 : decide ((ji6) ≤ (t231.length : Int)) = true := decide_eq_true c8
        clear c8
        obtain ⟨y236, hy236⟩ : ∃ y_ : List Int, y_ = (t231.take ((ji6) : Int).toNat) := ⟨_, rfl⟩
        replace H : ((oublietteref02_Text.f k y236).bind fun bt240 => (some bt240.1)) = some r := by first | (rw [hy236]; with_reducible exact H) | (have H2_ := (Option.bind_some _ _).symm.trans H; rw [hy236]; with_reducible exact H2_) | (have H2_ := (Option.bind_some _ _).symm.trans H; with_reducible exact H2_) | with_reducible exact H | (rw [hy236]; exact H) | exact H
        have Ny236 := Aside0.mk hy236
        clear hy236
        replace H := Option.bind_eq_some_iff.mp H
        obtain ⟨⟨t240, t241, t242⟩, A90, H⟩ := H
        replace H : (some t240) = some r := H
        have A9 := Aside0.mk A90
        clear A90
        obtain rfl := Option.some.inj H
        go_enter Tryd.func29, Tryd.ntmps29
        go_wp2_with (first | ((with_reducible refine gate_callee (f := 22) rfl ?_); refine goesL_ (some 13) rfl rfl Tryd.func22 (by kernel_rfl) rfl #[.string a0] rfl (by (try simp only [List.map_toArray, List.map_cons, List.map_nil]); first | done | rfl | (simp only [List.length_drop, List.length_take]; rfl)) ?_; (with_reducible refine (oublietteref02_Runes.calls k a0 t231 t232 t233 _ A3.out).mono ?_); rintro e w10 ⟨v234, rfl, ho0, hb⟩; refine ⟨_, rfl, ?_⟩; have n0_ := Aside0.mk (Kd.R_lower ho0 (below_size (by repeat (first | (with_reducible first | exact HB.out | apply below_alloc | apply pw_below_drewN | apply below_drew1) | exact HB.out)))); have n1_ := Aside0.mk (below_step (by repeat (first | (with_reducible first | exact HB.out | apply below_alloc | apply pw_below_drewN | apply below_drew1) | exact HB.out)) hb); clear HB; have HO235 := n0_; have HB := n1_; clear n0_ n1_; (try clear hb); (try clear hb2); (try clear hk); (try clear hi); (try clear ho0); obtain ⟨Ao11, co11, eo11⟩ := Kd.R_slice HO235.out; subst eo11; have q12 : ((ji6) : Int) ≤ ((t231.length : Int) : Int) := of_decide_eq_true (by first | (with_reducible assumption) | assumption); obtain ⟨i012, hi012, _, hsz12, _⟩ := info_parts info21; have hroom12 : t231.length ≤ co11 := (Kd.R_reads' HO235.out).2.1; have hC12 : Kd.C (Kd.int .i32) _ Ao11 t231.length t231 := (Kd.R_reads' HO235.out).2.2; have hcut12 := cut_to (P := Tryd.prog) 34 21 .i64 Tryd.underlying34 hi012 Ao11 t231.length co11 (ji6) (of_decide_eq_true (by first | (with_reducible assumption) | assumption)) q12 hroom12; have hr12 := Kd.C_take (m := ((ji6) : Int).toNat) hC12 (by omega); have hy12 : y236.length = ((ji6) : Int).toNat := (by rw [Ny236.out, List.length_take]; omega); rw [← Ny236.out] at hr12; rw [← hy12] at hcut12; have HR239 := Aside0.mk hr12; have HC239 := Aside0.mk (show y236.length ≤ co11 from by omega); clear hr12 hC12 hroom12 hi012 hsz12; have KY12 := Aside0.mk hy12; clear hy12; have KL12 := Aside0.mk (show ((ji6) : Int).toNat ≤ t231.length from by omega); replace q12 := eq_true q12) | ((with_reducible refine gate_callee (f := 24) rfl ?_); refine goesL_ (some 26) rfl rfl Tryd.func24 (by kernel_rfl) rfl #[.slice Ao11 y236.length co11] rfl (by (try simp only [List.map_toArray, List.map_cons, List.map_nil]); first | done | rfl | (simp only [List.length_drop, List.length_take]; rfl)) ?_; (with_reducible refine (oublietteref02_Text.calls k _ _ y236 t240 t241 t242 _ ?side1 ?side2 A9.out).mono ?_); (case side1 => repeat (first | exact (by repeat (first | (with_reducible exact HR239.out) | (with_reducible refine Kd.C_alloc ?_ _) | (with_reducible refine Kd.C_drewN ?_ _) | (with_reducible refine Kd.C_drew ?_) | exact HR239.out)) | (with_reducible refine Kd.C_alloc ?_ _) | (with_reducible refine Kd.C_drewN ?_ _) | (with_reducible refine Kd.C_drew ?_))); (case side2 => exact HC239.out); rintro e w13 ⟨rfl, hb⟩; refine ⟨_, rfl, ?_⟩; have n0_ := Aside0.mk (Kd.R_below (by (with_reducible repeat (first | apply Kd.R_alloc | apply Kd.R_drewN | apply Kd.R_drew)); exact HO235.out) hb); have n1_ := Aside0.mk (Kd.C_below (by repeat (first | (with_reducible exact HR239.out) | (with_reducible refine Kd.C_alloc ?_ _) | (with_reducible refine Kd.C_drewN ?_ _) | (with_reducible refine Kd.C_drew ?_) | exact HR239.out)) hb); have n2_ := Aside0.mk (below_step (by repeat (first | (with_reducible first | exact HB.out | apply below_alloc | apply pw_below_drewN | apply below_drew1) | exact HB.out)) hb); clear HO235; clear HR239; clear HB; have HO235 := n0_; have HR239 := n1_; have HB := n2_; clear n0_ n1_ n2_; (try clear hb); (try clear hb2); (try clear hk); (try clear hi)))
        go_ret
        exact ⟨by first | rfl | (simp [errW_none, errW_some] <;> rfl) | (simp only [← hji6]; first | rfl | (simp [errW_none, errW_some] <;> rfl)) | (simp [*, errW_none, errW_some] <;> rfl), by repeat (first | (with_reducible first | exact HB.out | apply below_alloc | apply pw_below_drewN | apply below_drew1) | exact HB.out)⟩
      · rw [if_neg c8] at H
        exact absurd H (by simp)
    · rw [if_neg c7] at H
      exact absurd H (by simp)

end Go.Proofs.YtcaojgdnhmgmlaaDoor.Q

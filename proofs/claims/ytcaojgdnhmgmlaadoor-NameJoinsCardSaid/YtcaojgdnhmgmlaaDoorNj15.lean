import Derived.Test.YtcaojgdnhmgmlaaDoorNj01
import Derived.Test.YtcaojgdnhmgmlaaDoorNj07
import Derived.Test.YtcaojgdnhmgmlaaDoorNj02
section
/- Functions of the seat as plain Lean functions, and that the calls do what these say; conditions stand in each theorem. (Written by a program of this seat's prover, by the kit's printer; Lean checks it.) -/
namespace Go.Proofs.YtcaojgdnhmgmlaaDoor.Q
open Go.RowKit Go.Proofs.YtcaojgdnhmgmlaaDoorW.PrintWords Go.Proofs.YtcaojgdnhmgmlaaDoorW.PrintLast Go.Proofs.YtcaojgdnhmgmlaaDoorW.PrintMore
attribute [local go_sem] max2_int min2_int max_two min_two max_three min_three max_four min_four   -- for this text's walks alone
set_option linter.unusedVariables false
set_option linter.unusedSimpArgs false

/-! ### oublietteref02_Text: function 24 -/
def oublietteref02_Text.l0 : Nat → List Int → List Int → Int → Option (ByteArray × Int × Int)
  | 0, _, _, _ => none
  | k + 1, x0, x5, x6 => if x6 < (x0.length : Int) then (if 0 ≤ x6 then ((oublietteref02_Right.f (rd x0 x6)).bind fun t191 => (if t191 = true then ((oublietteref02_Bytes.f (rd x0 x6)).bind fun t193 => (if x5.length + t193.length < 140737488355328 then (oublietteref02_Text.l0 k x0 (x5 ++ t193) (wrap64 (x6 + 1))) else (none))) else (some ((⟨#[]⟩ : ByteArray), x6, 4)))) else (none)) else (some (strOfNums x5, 0, 0))
def oublietteref02_Text.f (k : Nat) (l0 : List Int) : Option (ByteArray × Int × Int) := oublietteref02_Text.l0 k l0 ([] : List Int) 0
theorem oublietteref02_Text.mono_l : ∀ k, (∀ y0 y1 y2, LeO (oublietteref02_Text.l0 k y0 y1 y2) (oublietteref02_Text.l0 (k + 1) y0 y1 y2))
  | 0 => fun _ _ _ r h => by simp [oublietteref02_Text.l0] at h
  | k + 1 => by
    have ih0 := oublietteref02_Text.mono_l k
    · intro y0 y1 y2
      unfold oublietteref02_Text.l0
      repeat' first
      | (with_reducible exact ih0 _ _ _)
      | (with_reducible exact LeO.refl _)
      | (with_reducible exact LeO.none _)
      | (with_reducible refine LeO.ite ?_ ?_)
      | (with_reducible refine LeO.bind ?_ (fun _ => ?_))
      | exact ih0 _ _ _
      | exact LeO.none _
      | refine LeO.ite ?_ ?_
      | refine LeO.bind ?_ (fun _ => ?_)
theorem oublietteref02_Text.mono : ∀ a0 k, LeO (oublietteref02_Text.f k a0) (oublietteref02_Text.f (k + 1) a0) := by
  intro a0 k
  have ih0 := oublietteref02_Text.mono_l k
  unfold oublietteref02_Text.f
  repeat' first
      | (with_reducible exact ih0 _ _ _)
      | (with_reducible exact LeO.refl _)
      | (with_reducible exact LeO.none _)
      | (with_reducible refine LeO.ite ?_ ?_)
      | (with_reducible refine LeO.bind ?_ (fun _ => ?_))
      | exact ih0 _ _ _
      | exact LeO.none _
      | refine LeO.ite ?_ ?_
      | refine LeO.bind ?_ (fun _ => ?_)
set_option maxHeartbeats 8000000 in
set_option maxRecDepth 100000 in
theorem oublietteref02_Text.calls (k : Nat) (A0 : Option Addr) (c0 : Nat) (l0 : List Int) (r1 : ByteArray) (r2 : Int) (r3 : Int) (w : World) (hr0 : Kd.C (Kd.int .i32) w A0 l0.length l0) (hc0 : l0.length ≤ c0) (h : oublietteref02_Text.f k l0 = some (r1, r2, r3)) :
    Calls Tryd.prog 24 #[.slice A0 l0.length c0] w fun e w' => e = .returned (.tuple #[.string r1, .int .i64 r2, .int .i64 r3]) ∧ Below w.heap.size w w' := by
  have HR0 := Aside0.mk hr0
  have HC0 := Aside0.mk hc0
  clear hr0 hc0
  have HB := Aside0.mk (Below.refl w.heap.size w)
  have H : (oublietteref02_Text.l0 k l0 ([] : List Int) 0) = some (r1, r2, r3) := h
  clear h
  have H' := Aside0.mk H
  clear H
  go_enter Tryd.func24, Tryd.ntmps24
  go_wp2
  go_loopg [5, 6] k (fun kq v5 v6 w' => ∃ (x5_1 : List Int) (x6_1 : Int), v6 = .int .i64 x6_1 ∧ Aside0 (oublietteref02_Text.l0 kq l0 x5_1 x6_1 = some (r1, r2, r3)) ∧ Aside0 (kq ≤ k) ∧ Aside0 (Kd.R (Kd.int .u8) 5 w' w.heap.size (fun _ => True) v5 x5_1) ∧ Aside0 (Below w.heap.size w w'))
  case atStart => exact ⟨(([] : List Int)), (0), (by first | rfl | (simp; done) | (simp [*]; done)), H', ⟨Nat.le_refl _⟩, ⟨by first | exact Kd.R_nil _ _ _ _ _ | exact Kd.N_nil _ _ _ _ _ | exact Kd.V_nil _ _ _ _ _ | exact Kd.Q_nil _ _ _ _ _ | exact Kd.S_nil _ _ _ _ _⟩, ⟨by repeat (first | (with_reducible first | exact HB.out | apply below_alloc | apply pw_below_drewN | apply below_drew1) | exact HB.out)⟩⟩
  case round =>
    clear H'
    obtain ⟨x5_1, x6_1, rfl, HA, HK1, HO_5, HB⟩ := hrel
    cases gk with
    | zero => exact absurd HA.out (by simp [oublietteref02_Text.l0])
    | succ k1 =>
      have H := HA.out
      clear HA
      simp only [oublietteref02_Text.l0] at H
      by_cases c2 : x6_1 < (l0.length : Int)
      · rw [if_pos c2] at H
        have c2b0 : decide (x6_1 < (l0.length : Int)) = true := decide_eq_true c2
        clear c2
        by_cases c3 : 0 ≤ x6_1
        · rw [if_pos c3] at H
          have c3b0 : decide (0 ≤ x6_1) = true := decide_eq_true c3
          clear c3
          replace H := Option.bind_eq_some_iff.mp H
          obtain ⟨t191, A40, H⟩ := H
          replace H : (if t191 = true then ((oublietteref02_Bytes.f (rd l0 x6_1)).bind fun t193 => (if x5_1.length + t193.length < 140737488355328 then (oublietteref02_Text.l0 k1 l0 (x5_1 ++ t193) (wrap64 (x6_1 + 1))) else (none))) else (some ((⟨#[]⟩ : ByteArray), x6_1, 4))) = some (r1, r2, r3) := H
          have A4 := Aside0.mk A40
          clear A40
          by_cases c5 : t191 = true
          · subst c5
            have H1 : ((oublietteref02_Bytes.f (rd l0 x6_1)).bind fun t193 => (if x5_1.length + t193.length < 140737488355328 then (oublietteref02_Text.l0 k1 l0 (x5_1 ++ t193) (wrap64 (x6_1 + 1))) else (none))) = some (r1, r2, r3) := by rw [if_pos rfl] at H; exact H
            clear H
            have H := H1
            clear H1
            replace H := Option.bind_eq_some_iff.mp H
            obtain ⟨t193, A60, H⟩ := H
            replace H : (if x5_1.length + t193.length < 140737488355328 then (oublietteref02_Text.l0 k1 l0 (x5_1 ++ t193) (wrap64 (x6_1 + 1))) else (none)) = some (r1, r2, r3) := H
            have A6 := Aside0.mk A60
            clear A60
            by_cases c7 : x5_1.length + t193.length < 140737488355328
            · rw [if_pos c7] at H
              have LMc7 := Aside0.mk c7
              clear c7
              obtain ⟨y196, hy196⟩ : ∃ y_ : List Int, y_ = (x5_1 ++ t193) := ⟨_, rfl⟩
              replace H : (oublietteref02_Text.l0 k1 l0 y196 (wrap64 (x6_1 + 1))) = some (r1, r2, r3) := by first | (rw [hy196]; with_reducible exact H) | (have H2_ := (Option.bind_some _ _).symm.trans H; rw [hy196]; with_reducible exact H2_) | (have H2_ := (Option.bind_some _ _).symm.trans H; with_reducible exact H2_) | with_reducible exact H | (rw [hy196]; exact H) | exact H
              have Ny196 := Aside0.mk hy196
              clear hy196
              have H' := Aside0.mk H
              clear H
              have p190 : 0 ≤ (x6_1 : Int) := of_decide_eq_true (by first | (with_reducible assumption) | assumption)
              have q190 : x6_1 < (l0.length : Int) := of_decide_eq_true (by first | (with_reducible assumption) | assumption)
              obtain ⟨ad190, e190, hx190_0⟩ := Kd.at_int HR0.out x6_1 p190 q190
              cases e190
              replace hx190_0 := (HB.out.cell (World.block_lt_of_cell? w _ hx190_0)).trans hx190_0
              replace p190 := eq_true p190
              replace q190 := eq_true q190
              go_wp2_with (first | ((with_reducible refine gate_callee (f := 69) rfl ?_); refine goesL_ (some 17) rfl rfl Tryd.func69 (by kernel_rfl) rfl #[.int .i32 (rd l0 x6_1)] rfl (by (try simp only [List.map_toArray, List.map_cons, List.map_nil]); first | done | rfl | (simp only [List.length_drop, List.length_take]; rfl)) ?_; (with_reducible refine (oublietteref02_Right.calls (rd l0 x6_1) true _ A4.out).mono ?_); rintro e w' ⟨rfl, ⟨nd, rfl⟩⟩; refine ⟨_, rfl, ?_⟩; have p192 : 0 ≤ (x6_1 : Int) := of_decide_eq_true (by first | (with_reducible assumption) | assumption); have q192 : x6_1 < (l0.length : Int) := of_decide_eq_true (by first | (with_reducible assumption) | assumption); obtain ⟨ad192, e192, hx192_0⟩ := Kd.at_int HR0.out x6_1 p192 q192; obtain rfl : ad190 = ad192 := (by injection e192); replace hx192_0 := (HB.out.cell (World.block_lt_of_cell? w _ hx192_0)).trans hx192_0; replace p192 := eq_true p192; replace q192 := eq_true q192) | ((with_reducible refine gate_callee (f := 70) rfl ?_); refine goesL_ (some 25) rfl rfl Tryd.func70 (by kernel_rfl) rfl #[.int .i32 (rd l0 x6_1)] rfl (by (try simp only [List.map_toArray, List.map_cons, List.map_nil]); first | done | rfl | (simp only [List.length_drop, List.length_take]; rfl)) ?_; (with_reducible refine (oublietteref02_Bytes.calls (rd l0 x6_1) t193 _ A6.out).mono ?_); rintro e w8 ⟨v194, rfl, ho0, hb⟩; refine ⟨_, rfl, ?_⟩; have n0_ := Aside0.mk (Kd.R_elder' (by (with_reducible repeat (first | apply Kd.R_alloc | apply Kd.R_drewN | apply Kd.R_drew)); exact HO_5.out) (Kd.R_base ho0) hb); have n1_ := Aside0.mk (Kd.R_lower (Kd.R_new' ho0 (Kd.R_lt (by (with_reducible repeat (first | apply Kd.R_alloc | apply Kd.R_drewN | apply Kd.R_drew)); exact HO_5.out))) (below_size (by repeat (first | (with_reducible first | exact HB.out | apply below_alloc | apply pw_below_drewN | apply below_drew1) | exact HB.out)))); have n2_ := Aside0.mk (below_step (by repeat (first | (with_reducible first | exact HB.out | apply below_alloc | apply pw_below_drewN | apply below_drew1) | exact HB.out)) hb); clear HO_5; clear HB; have HO_5 := n0_; have HO195 := n1_; have HB := n2_; clear n0_ n1_ n2_; (try clear hb); (try clear hb2); (try clear hk); (try clear hi); (try clear ho0); obtain ⟨Ao10, co10, eo10⟩ := Kd.R_slice HO195.out; subst eo10) | ((with_reducible refine gate_builtin (b := .append) (xs := #[.tmp 20, .tmp 25]) rfl ?_); at_builtin; refine Kd.R_append_rows (Kd.int .u8) (w0 := w) w.heap.size rfl (.tmp 20) (.tmp 25) 52 5 (.int .u8 0) 1 rfl Tryd.underlying52 info5 rfl (by decide) (by omega) u5 x5_1 t193 _ _ _ (fun k_ => some k_ ≠ (.slice Ao10 t193.length co10 : Value).ownBlock) (fun _ => False) rfl rfl ?aO ?aR (fun _ _ h => h) (fun _ h => h.elim) ?aF ?aB ?aS ?aL ?_; (case aR => repeat (first | exact (Kd.R_reads' HO195.out).2.2 | (with_reducible refine Kd.C_alloc ?_ _) | (with_reducible refine Kd.C_drewN ?_ _) | (with_reducible refine Kd.C_drew ?_))); (case aB => exact (by repeat (first | (with_reducible first | exact HB.out | apply below_alloc | apply pw_below_drewN | apply below_drew1) | exact HB.out))); (case aF => exact (fun k_ hk => Kd.fresh' (Kd.R_lt (by (with_reducible repeat (first | apply Kd.R_alloc | apply Kd.R_drewN | apply Kd.R_drew)); exact HO195.out)) k_ hk)); (case aO => exact (by (with_reducible repeat (first | apply Kd.R_alloc | apply Kd.R_drewN | apply Kd.R_drew)); exact Kd.R_mono HO_5.out (fun _ hk => hk.2))); (case aS => exact (below_size (by repeat (first | (with_reducible first | exact HB.out | apply below_alloc | apply pw_below_drewN | apply below_drew1) | exact HB.out)))); (case aL => have := LMc7.out; omega); intro v197 w9 ho hb hg hat; rw [← Ny196.out] at ho; have n0_ := Aside0.mk (Kd.R_after (ok := (fun _ => True)) (by (with_reducible repeat (first | apply Kd.R_alloc | apply Kd.R_drewN | apply Kd.R_drew)); exact HO195.out) hg hat); have n1_ := Aside0.mk (hb); have n2_ := Aside0.mk (ho); clear HO195; clear HB; clear HO_5; have HO195 := n0_; have HB := n1_; have HO198 := n2_; clear n0_ n1_ n2_; clear ho hb hg hat))
              go_roundg k1
              case measure => have := HK1.out; omega
              case rel => exact ⟨(y196), (wrap64 (x6_1 + 1)), (by first | rfl | (simp; done) | (simp [*]; done)), H', ⟨by have := HK1.out; omega⟩, ⟨by (with_reducible repeat (first | apply Kd.R_alloc | apply Kd.R_drewN | apply Kd.R_drew)); exact Kd.R_mono HO198.out (fun _ hk => trivial)⟩, ⟨by repeat (first | (with_reducible first | exact HB.out | apply below_alloc | apply pw_below_drewN | apply below_drew1) | exact HB.out)⟩⟩
            · rw [if_neg c7] at H
              exact absurd H (by simp)
          · replace c5 := Bool.eq_false_iff.mpr c5
            subst c5
            have H1 : (some ((⟨#[]⟩ : ByteArray), x6_1, 4)) = some (r1, r2, r3) := by rw [if_neg (show ¬ (false = true) by decide)] at H; exact H
            clear H
            have H := H1
            clear H1
            simp only [Option.some.injEq, Prod.mk.injEq] at H
            obtain ⟨rfl, rfl, rfl⟩ := H
            have p190 : 0 ≤ (x6_1 : Int) := of_decide_eq_true (by first | (with_reducible assumption) | assumption)
            have q190 : x6_1 < (l0.length : Int) := of_decide_eq_true (by first | (with_reducible assumption) | assumption)
            obtain ⟨ad190, e190, hx190_0⟩ := Kd.at_int HR0.out x6_1 p190 q190
            cases e190
            replace hx190_0 := (HB.out.cell (World.block_lt_of_cell? w _ hx190_0)).trans hx190_0
            replace p190 := eq_true p190
            replace q190 := eq_true q190
            go_wp2_with (first | ((with_reducible refine gate_callee (f := 69) rfl ?_); refine goesL_ (some 17) rfl rfl Tryd.func69 (by kernel_rfl) rfl #[.int .i32 (rd l0 x6_1)] rfl (by (try simp only [List.map_toArray, List.map_cons, List.map_nil]); first | done | rfl | (simp only [List.length_drop, List.length_take]; rfl)) ?_; (with_reducible refine (oublietteref02_Right.calls (rd l0 x6_1) false _ A4.out).mono ?_); rintro e w' ⟨rfl, ⟨nd, rfl⟩⟩; refine ⟨_, rfl, ?_⟩))
            go_ret3
            exact ⟨by first | rfl | (simp [errW_none, errW_some] <;> rfl) | (simp [*, errW_none, errW_some] <;> rfl), by repeat (first | (with_reducible first | exact HB.out | apply below_alloc | apply pw_below_drewN | apply below_drew1) | exact HB.out)⟩
        · rw [if_neg c3] at H
          exact absurd H (by simp)
      · rw [if_neg c2] at H
        have c2b0 : decide (x6_1 < (l0.length : Int)) = false := decide_eq_false c2
        clear c2
        simp only [Option.some.injEq, Prod.mk.injEq] at H
        obtain ⟨rfl, rfl, rfl⟩ := H
        have hcv11 := own_string (P := Tryd.prog) Tryd.underlying52 Tryd.underlying5 Tryd.underlying9 (Kd.own_of_R HO_5.out)
        go_wp2
        go_ret3
        exact ⟨by first | rfl | (simp [errW_none, errW_some] <;> rfl) | (simp [*, errW_none, errW_some] <;> rfl), by repeat (first | (with_reducible first | exact HB.out | apply below_alloc | apply pw_below_drewN | apply below_drew1) | exact HB.out)⟩

end Go.Proofs.YtcaojgdnhmgmlaaDoor.Q
end
section
/- Functions of the seat as plain Lean functions, and that the calls do what these say; conditions stand in each theorem. (Written by a program of this seat's prover, by the kit's printer; Lean checks it.) -/
namespace Go.Proofs.YtcaojgdnhmgmlaaDoor.Q
open Go.RowKit Go.Proofs.YtcaojgdnhmgmlaaDoorW.PrintWords Go.Proofs.YtcaojgdnhmgmlaaDoorW.PrintLast Go.Proofs.YtcaojgdnhmgmlaaDoorW.PrintMore
attribute [local go_sem] max2_int min2_int max_two min_two max_three min_three max_four min_four   -- for this text's walks alone
set_option linter.unusedVariables false
set_option linter.unusedSimpArgs false

/-! ### oubliettelaw02_same: function 25 -/
def oubliettelaw02_same.l0 : Nat → List Int → List Int → Int → Option (Bool)
  | 0, _, _, _ => none
  | k + 1, x0, x1, x5 => if x5 < (x0.length : Int) then (if 0 ≤ x5 then (if x5 < (x1.length : Int) then (if (rd x0 x5) = (rd x1 x5) then (oubliettelaw02_same.l0 k x0 x1 (wrap64 (x5 + 1))) else (some false)) else (none)) else (none)) else (some true)
def oubliettelaw02_same.f (k : Nat) (l0 : List Int) (l1 : List Int) : Option (Bool) := if (l0.length : Int) = (l1.length : Int) then (oubliettelaw02_same.l0 k l0 l1 0) else (some false)
theorem oubliettelaw02_same.mono_l : ∀ k, (∀ y0 y1 y2, LeO (oubliettelaw02_same.l0 k y0 y1 y2) (oubliettelaw02_same.l0 (k + 1) y0 y1 y2))
  | 0 => fun _ _ _ r h => by simp [oubliettelaw02_same.l0] at h
  | k + 1 => by
    have ih0 := oubliettelaw02_same.mono_l k
    · intro y0 y1 y2
      unfold oubliettelaw02_same.l0
      repeat' first
      | (with_reducible exact ih0 _ _ _)
      | (with_reducible exact LeO.refl _)
      | (with_reducible exact LeO.none _)
      | (with_reducible refine LeO.ite ?_ ?_)
      | (with_reducible refine LeO.bind ?_ (fun _ => ?_))
      | exact ih0 _ _ _
      | exact LeO.none _
      | refine LeO.ite ?_ ?_
      | refine LeO.bind ?_ (fun _ => ?_)
theorem oubliettelaw02_same.mono : ∀ a0 a1 k, LeO (oubliettelaw02_same.f k a0 a1) (oubliettelaw02_same.f (k + 1) a0 a1) := by
  intro a0 a1 k
  have ih0 := oubliettelaw02_same.mono_l k
  unfold oubliettelaw02_same.f
  repeat' first
      | (with_reducible exact ih0 _ _ _)
      | (with_reducible exact LeO.refl _)
      | (with_reducible exact LeO.none _)
      | (with_reducible refine LeO.ite ?_ ?_)
      | (with_reducible refine LeO.bind ?_ (fun _ => ?_))
      | exact ih0 _ _ _
      | exact LeO.none _
      | refine LeO.ite ?_ ?_
      | refine LeO.bind ?_ (fun _ => ?_)
set_option maxHeartbeats 8000000 in
set_option maxRecDepth 100000 in
theorem oubliettelaw02_same.calls (k : Nat) (A0 : Option Addr) (c0 : Nat) (l0 : List Int) (A1 : Option Addr) (c1 : Nat) (l1 : List Int) (r : Bool) (w : World) (hr0 : Kd.C (Kd.int .i32) w A0 l0.length l0) (hc0 : l0.length ≤ c0) (hr1 : Kd.C (Kd.int .i32) w A1 l1.length l1) (hc1 : l1.length ≤ c1) (h : oubliettelaw02_same.f k l0 l1 = some r) :
    Calls Tryd.prog 25 #[.slice A0 l0.length c0, .slice A1 l1.length c1] w fun e w' => e = .returned (.bool r) ∧ Drawn0 w w' := by
  have HR0 := Aside0.mk hr0
  have HC0 := Aside0.mk hc0
  clear hr0 hc0
  have HR1 := Aside0.mk hr1
  have HC1 := Aside0.mk hc1
  clear hr1 hc1
  have H : (if (l0.length : Int) = (l1.length : Int) then (oubliettelaw02_same.l0 k l0 l1 0) else (some false)) = some r := h
  clear h
  by_cases c3 : (l0.length : Int) = (l1.length : Int)
  · rw [if_pos c3] at H
    have c3b0 : ((l0.length : Int) == (l1.length : Int)) = true := beq_iff_eq.mpr c3
    have c3b1 : ((l0.length : Int) != (l1.length : Int)) = false := bne_eq_false_iff_eq.mpr c3
    have c3b2 : (l0.length == l1.length) = true := by first | simpa using c3 | (simp at c3 ⊢; omega)
    clear c3
    have H' := Aside0.mk H
    clear H
    go_enter Tryd.func25, Tryd.ntmps25
    go_wp2
    repeat (go_quiet (fail); try go_wp2)
    go_loopg [5] k (fun kq v5 w' => ∃ (x5_1 : Int), v5 = .int .i64 x5_1 ∧ Aside0 (oubliettelaw02_same.l0 kq l0 l1 x5_1 = some r) ∧ Aside0 (kq ≤ k) ∧ Drawn0 w w')
    case atStart => exact ⟨(0), (by first | rfl | (simp; done) | (simp [*]; done)), H', ⟨Nat.le_refl _⟩, by repeat (first | exact Drawn0.refl _ | apply Drawn0.step)⟩
    case round =>
      clear H'
      try clear c1
      try clear c2
      try clear p2
      try clear c3
      try clear c3b0
      try clear c3b1
      try clear c3b2
      obtain ⟨x5_1, rfl, HA, HK1, ⟨m1, rfl⟩⟩ := hrel
      cases gk with
      | zero => exact absurd HA.out (by simp [oubliettelaw02_same.l0])
      | succ k1 =>
        have H := HA.out
        clear HA
        simp only [oubliettelaw02_same.l0] at H
        by_cases c4 : x5_1 < (l0.length : Int)
        · rw [if_pos c4] at H
          have c4b0 : decide (x5_1 < (l0.length : Int)) = true := decide_eq_true c4
          clear c4
          by_cases c5 : 0 ≤ x5_1
          · rw [if_pos c5] at H
            have c5b0 : decide (0 ≤ x5_1) = true := decide_eq_true c5
            clear c5
            by_cases c6 : x5_1 < (l1.length : Int)
            · rw [if_pos c6] at H
              have c6b0 : decide (x5_1 < (l1.length : Int)) = true := decide_eq_true c6
              clear c6
              by_cases c7 : (rd l0 x5_1) = (rd l1 x5_1)
              · rw [if_pos c7] at H
                have c7b0 : ((rd l0 x5_1) == (rd l1 x5_1)) = true := beq_iff_eq.mpr c7
                have c7b1 : ((rd l0 x5_1) != (rd l1 x5_1)) = false := bne_eq_false_iff_eq.mpr c7
                clear c7
                have H' := Aside0.mk H
                clear H
                have p199 : 0 ≤ (x5_1 : Int) := of_decide_eq_true (by first | (with_reducible assumption) | assumption)
                have q199 : x5_1 < (l0.length : Int) := of_decide_eq_true (by first | (with_reducible assumption) | assumption)
                obtain ⟨ad199, e199, hx199_0⟩ := Kd.at_int HR0.out x5_1 p199 q199
                cases e199
                replace p199 := eq_true p199
                replace q199 := eq_true q199
                have p200 : 0 ≤ (x5_1 : Int) := of_decide_eq_true (by first | (with_reducible assumption) | assumption)
                have q200 : x5_1 < (l1.length : Int) := of_decide_eq_true (by first | (with_reducible assumption) | assumption)
                obtain ⟨ad200, e200, hx200_0⟩ := Kd.at_int HR1.out x5_1 p200 q200
                cases e200
                replace p200 := eq_true p200
                replace q200 := eq_true q200
                go_wp2
                repeat (go_quiet (fail); try go_wp2)
                go_roundg k1
                case measure => have := HK1.out; omega
                case rel => exact ⟨(wrap64 (x5_1 + 1)), (by first | rfl | (simp; done) | (simp [*]; done)), H', ⟨by have := HK1.out; omega⟩, by repeat (first | exact Drawn0.refl _ | apply Drawn0.step)⟩
              · rw [if_neg c7] at H
                have c7b0 : ((rd l0 x5_1) == (rd l1 x5_1)) = false := beq_eq_false_iff_ne.mpr c7
                have c7b1 : ((rd l0 x5_1) != (rd l1 x5_1)) = true := bne_iff_ne.mpr c7
                obtain rfl := Option.some.inj H
                have p199 : 0 ≤ (x5_1 : Int) := of_decide_eq_true (by first | (with_reducible assumption) | assumption)
                have q199 : x5_1 < (l0.length : Int) := of_decide_eq_true (by first | (with_reducible assumption) | assumption)
                obtain ⟨ad199, e199, hx199_0⟩ := Kd.at_int HR0.out x5_1 p199 q199
                cases e199
                replace p199 := eq_true p199
                replace q199 := eq_true q199
                have p200 : 0 ≤ (x5_1 : Int) := of_decide_eq_true (by first | (with_reducible assumption) | assumption)
                have q200 : x5_1 < (l1.length : Int) := of_decide_eq_true (by first | (with_reducible assumption) | assumption)
                obtain ⟨ad200, e200, hx200_0⟩ := Kd.at_int HR1.out x5_1 p200 q200
                cases e200
                replace p200 := eq_true p200
                replace q200 := eq_true q200
                go_wp2
                repeat (go_quiet (fail); try go_wp2)
                go_ret
                exact ⟨by first | rfl | (simp; done) | (simp [*]; done), by repeat (first | exact Drawn0.refl _ | apply Drawn0.step)⟩
            · rw [if_neg c6] at H
              exact absurd H (by simp)
          · rw [if_neg c5] at H
            exact absurd H (by simp)
        · rw [if_neg c4] at H
          have c4b0 : decide (x5_1 < (l0.length : Int)) = false := decide_eq_false c4
          clear c4
          obtain rfl := Option.some.inj H
          go_wp2
          repeat (go_quiet (fail); try go_wp2)
          go_ret
          exact ⟨by first | rfl | (simp; done) | (simp [*]; done), by repeat (first | exact Drawn0.refl _ | apply Drawn0.step)⟩
  · rw [if_neg c3] at H
    have c3b0 : ((l0.length : Int) == (l1.length : Int)) = false := beq_eq_false_iff_ne.mpr c3
    have c3b1 : ((l0.length : Int) != (l1.length : Int)) = true := bne_iff_ne.mpr c3
    have c3b2 : (l0.length == l1.length) = false := by first | simpa using c3 | (simp at c3 ⊢; omega)
    obtain rfl := Option.some.inj H
    go_enter Tryd.func25, Tryd.ntmps25
    go_wp2
    repeat (go_quiet (fail); try go_wp2)
    go_ret
    exact ⟨by first | rfl | (simp; done) | (simp [*]; done), by repeat (first | exact Drawn0.refl _ | apply Drawn0.step)⟩

end Go.Proofs.YtcaojgdnhmgmlaaDoor.Q
end
section
/- What the decoder reads is what the encoder writes, and the other way round. -/
namespace Go.Proofs.YtcaojgdnhmgmlaaDoor.Q
open Go.RowKit Go.Lib
set_option linter.unusedVariables false

theorem vld_iff (r : Int) : validRune r = true ↔ (0 ≤ r ∧ r < 55296) ∨ (57343 < r ∧ r ≤ 1114111) := by simp [validRune]

set_option maxHeartbeats 2000000 in
theorem decN_ok (n b0 b1 b2 b3 c m : Nat) (hn : 1 ≤ n) (h0 : b0 < 256) (h1 : b1 < 256) (h2 : b2 < 256) (h3 : b3 < 256) (hd : decodeN n b0 b1 b2 b3 = (c, m)) (hb : ¬ (c = 65533 ∧ m < 2)) :
    m ≤ n ∧ validRune c = true ∧ ((m = 1 ∧ encodeRuneZ c = [(b0 : Int)]) ∨ (m = 2 ∧ encodeRuneZ c = [(b0 : Int), (b1 : Int)]) ∨ (m = 3 ∧ encodeRuneZ c = [(b0 : Int), (b1 : Int), (b2 : Int)]) ∨ (m = 4 ∧ encodeRuneZ c = [(b0 : Int), (b1 : Int), (b2 : Int), (b3 : Int)])) := by
  rw [vld_iff]
  unfold decodeN at hd
  split at hd
  · obtain ⟨rfl, rfl⟩ := Prod.mk.inj hd
    refine ⟨by omega, by omega, .inl ⟨rfl, ?_⟩⟩
    unfold encodeRuneZ
    rw [if_pos (by omega)]
  split at hd
  · split at hd
    · obtain ⟨rfl, rfl⟩ := Prod.mk.inj hd
      refine ⟨by omega, by omega, .inr (.inl ⟨rfl, ?_⟩)⟩
      unfold encodeRuneZ
      rw [if_neg (by omega), if_pos (by omega)]
      simp only [List.cons.injEq, and_true]
      omega
    · obtain ⟨rfl, rfl⟩ := Prod.mk.inj hd
      exact absurd ⟨rfl, by omega⟩ hb
  split at hd
  · split at hd
    · obtain ⟨rfl, rfl⟩ := Prod.mk.inj hd
      refine ⟨by omega, by omega, .inr (.inr (.inl ⟨rfl, ?_⟩))⟩
      unfold encodeRuneZ
      rw [if_neg (by omega), if_neg (by omega), if_pos (by omega)]
      simp only [List.cons.injEq, and_true]
      omega
    · obtain ⟨rfl, rfl⟩ := Prod.mk.inj hd
      exact absurd ⟨rfl, by omega⟩ hb
  split at hd
  · split at hd
    · obtain ⟨rfl, rfl⟩ := Prod.mk.inj hd
      refine ⟨by omega, by omega, .inr (.inr (.inr ⟨rfl, ?_⟩))⟩
      unfold encodeRuneZ
      rw [if_neg (by omega), if_neg (by omega), if_neg (by omega), if_pos (by omega)]
      simp only [List.cons.injEq, and_true]
      omega
    · obtain ⟨rfl, rfl⟩ := Prod.mk.inj hd
      exact absurd ⟨rfl, by omega⟩ hb
  · obtain ⟨rfl, rfl⟩ := Prod.mk.inj hd
    exact absurd ⟨rfl, by omega⟩ hb

set_option maxHeartbeats 2000000 in
theorem encN (r : Int) (hv : validRune r = true) : (∃ b0 : Nat, b0 < 256 ∧ encodeRuneZ r = [(b0 : Int)] ∧ ∀ n b1 b2 b3, 1 ≤ n → decodeN n b0 b1 b2 b3 = (r.toNat, 1) ∧ r < 128) ∨
    (∃ b0 b1 : Nat, b0 < 256 ∧ b1 < 256 ∧ encodeRuneZ r = [(b0 : Int), (b1 : Int)] ∧ ∀ n b2 b3, 2 ≤ n → decodeN n b0 b1 b2 b3 = (r.toNat, 2)) ∨
    (∃ b0 b1 b2 : Nat, b0 < 256 ∧ b1 < 256 ∧ b2 < 256 ∧ encodeRuneZ r = [(b0 : Int), (b1 : Int), (b2 : Int)] ∧ ∀ n b3, 3 ≤ n → decodeN n b0 b1 b2 b3 = (r.toNat, 3)) ∨
    (∃ b0 b1 b2 b3 : Nat, b0 < 256 ∧ b1 < 256 ∧ b2 < 256 ∧ b3 < 256 ∧ encodeRuneZ r = [(b0 : Int), (b1 : Int), (b2 : Int), (b3 : Int)] ∧ ∀ n, 4 ≤ n → decodeN n b0 b1 b2 b3 = (r.toNat, 4)) := by
  rw [vld_iff] at hv
  obtain ⟨c, rfl⟩ := Int.eq_ofNat_of_zero_le (show 0 ≤ r by omega)
  rw [Int.toNat_natCast]
  by_cases h1 : c ≤ 127
  · refine .inl ⟨c, by omega, by unfold encodeRuneZ; rw [if_pos (by omega)], fun n b1 b2 b3 hn => ⟨?_, by omega⟩⟩
    unfold decodeN
    rw [if_pos (by omega)]
  · by_cases h2 : c ≤ 2047
    · refine .inr (.inl ⟨192 + c / 64, 128 + c % 64, by omega, by omega, by unfold encodeRuneZ; rw [if_neg (by omega), if_pos (by omega)]; simp only [List.cons.injEq, and_true]; omega, fun n b2 b3 hn => ?_⟩)
      unfold decodeN
      rw [if_neg (by omega), if_pos (by omega), if_pos (by omega)]
      exact Prod.ext (by show _ = c; omega) rfl
    · by_cases h3 : c ≤ 65535
      · refine .inr (.inr (.inl ⟨224 + c / 4096, 128 + c / 64 % 64, 128 + c % 64, by omega, by omega, by omega, by unfold encodeRuneZ; rw [if_neg (by omega), if_neg (by omega), if_pos (by omega)]; simp only [List.cons.injEq, and_true]; omega, fun n b3 hn => ?_⟩))
        unfold decodeN
        rw [if_neg (by omega), if_neg (by omega), if_pos (by omega), if_pos (by omega)]
        exact Prod.ext (by show _ = c; omega) rfl
      · refine .inr (.inr (.inr ⟨240 + c / 262144, 128 + c / 4096 % 64, 128 + c / 64 % 64, 128 + c % 64, by omega, by omega, by omega, by omega, by unfold encodeRuneZ; rw [if_neg (by omega), if_neg (by omega), if_neg (by omega), if_pos (by omega)]; simp only [List.cons.injEq, and_true]; omega, fun n hn => ?_⟩))
        unfold decodeN
        rw [if_neg (by omega), if_neg (by omega), if_neg (by omega), if_pos (by omega), if_pos (by omega)]
        exact Prod.ext (by show _ = c; omega) rfl

theorem toB (b : UInt8) : ((b.toNat : Int)).toNat.toUInt8 = b := ofZ b _ rfl
theorem take1 (l : List UInt8) (h : 1 ≤ l.length) : l.take 1 = [l.getD 0 0] := by
  match l, h with
  | a :: t, _ => rfl
theorem take2 (l : List UInt8) (h : 2 ≤ l.length) : l.take 2 = [l.getD 0 0, l.getD 1 0] := by
  match l, h with
  | a :: b :: t, _ => rfl
theorem take3 (l : List UInt8) (h : 3 ≤ l.length) : l.take 3 = [l.getD 0 0, l.getD 1 0, l.getD 2 0] := by
  match l, h with
  | a :: b :: c :: t, _ => rfl
theorem take4 (l : List UInt8) (h : 4 ≤ l.length) : l.take 4 = [l.getD 0 0, l.getD 1 0, l.getD 2 0, l.getD 3 0] := by
  match l, h with
  | a :: b :: c :: d :: t, _ => rfl
theorem getD_drop (l : List UInt8) (p i : Nat) : (l.drop p).getD i 0 = l.getD (p + i) 0 := by simp [List.getD, List.getElem?_drop]

/-- A rune that is read: its bytes stand there. -/
theorem dec_ok (s : ByteArray) (p c n : Nat) (hp : p < s.size) (hd : Utf8.decode s p = (c, n)) (hb : brk s p = false) :
    p + n ≤ s.size ∧ validRune c = true ∧ (s.data.toList.drop p).take n = encodeRune c := by
  have hsz : s.data.toList.length = s.size := by cases s; simp [ByteArray.size]
  rw [decode_at] at hd
  have hb2 : ¬ (c = 65533 ∧ n < 2) := by
    intro h
    rw [brk, decode_at, hd] at hb
    simp [h.1, h.2] at hb
  obtain ⟨h1, h2, h3⟩ := decN_ok _ _ _ _ _ c n (by omega) (byte_lt _ _) (byte_lt _ _) (byte_lt _ _) (byte_lt _ _) hd hb2
  refine ⟨by omega, h2, ?_⟩
  have hl : (s.data.toList.drop p).length = s.size - p := by rw [List.length_drop, hsz]
  rcases h3 with ⟨rfl, h⟩ | ⟨rfl, h⟩ | ⟨rfl, h⟩ | ⟨rfl, h⟩ <;> unfold encodeRune <;> rw [h] <;> simp only [getD_get!, List.map_cons, List.map_nil, toB]
  · rw [take1 _ (by omega)]; simp only [getD_drop, Nat.add_zero]
  · rw [take2 _ (by omega)]; simp only [getD_drop, Nat.add_zero]
  · rw [take3 _ (by omega)]; simp only [getD_drop, Nat.add_zero]
  · rw [take4 _ (by omega)]; simp only [getD_drop, Nat.add_zero]

theorem natB (b : Nat) (h : b < 256) : ((b : Int).toNat.toUInt8).toNat = b := by
  rw [Int.toNat_natCast]; simp; omega

/-- Where a rune's bytes stand it is read. -/
theorem enc_dec (s : ByteArray) (p : Nat) (r : Int) (t : List UInt8) (hv : validRune r = true) (h : s.data.toList.drop p = encodeRune r ++ t) :
    p < s.size ∧ Utf8.decode s p = (r.toNat, (encodeRune r).length) ∧ brk s p = false := by
  have hsz : s.data.toList.length = s.size := by cases s; simp [ByteArray.size]
  have hl := congrArg List.length h
  rw [List.length_drop, hsz, List.length_append] at hl
  have h1 := (enc_len_one hv).1
  have hp : p < s.size := by omega
  have hd : Utf8.decode s p = (r.toNat, (encodeRune r).length) ∧ (r < 128 ∨ 2 ≤ (encodeRune r).length) := by
    rw [decode_at]
    have hg : ∀ i, s.get! (p + i) = (encodeRune r ++ t).getD i 0 := fun i => by rw [getD_get!, ← h, getD_drop]
    have hg0 := hg 0
    rw [Nat.add_zero] at hg0
    rw [hg0, hg 1, hg 2, hg 3]
    unfold encodeRune at hl ⊢
    rcases encN r hv with ⟨b0, k0, e, f⟩ | ⟨b0, b1, k0, k1, e, f⟩ | ⟨b0, b1, b2, k0, k1, k2, e, f⟩ | ⟨b0, b1, b2, b3, k0, k1, k2, k3, e, f⟩ <;> rw [e] at hl ⊢ <;> simp only [List.map_cons, List.map_nil, List.length_cons, List.length_nil, List.cons_append, List.nil_append] at hl ⊢
    · refine ⟨?_, .inl (f 1 0 0 0 (Nat.le_refl _)).2⟩
      have e0 : ((b0 : Int).toNat.toUInt8 :: t).getD 0 0 = (b0 : Int).toNat.toUInt8 := rfl
      rw [e0, natB _ k0]
      exact (f _ _ _ _ (by omega)).1
    · refine ⟨?_, .inr (by omega)⟩
      have e0 : ((b0 : Int).toNat.toUInt8 :: (b1 : Int).toNat.toUInt8 :: t).getD 0 0 = (b0 : Int).toNat.toUInt8 := rfl
      have e1 : ((b0 : Int).toNat.toUInt8 :: (b1 : Int).toNat.toUInt8 :: t).getD 1 0 = (b1 : Int).toNat.toUInt8 := rfl
      rw [e0, e1, natB _ k0, natB _ k1]
      exact f _ _ _ (by omega)
    · refine ⟨?_, .inr (by omega)⟩
      have e0 : ((b0 : Int).toNat.toUInt8 :: (b1 : Int).toNat.toUInt8 :: (b2 : Int).toNat.toUInt8 :: t).getD 0 0 = (b0 : Int).toNat.toUInt8 := rfl
      have e1 : ((b0 : Int).toNat.toUInt8 :: (b1 : Int).toNat.toUInt8 :: (b2 : Int).toNat.toUInt8 :: t).getD 1 0 = (b1 : Int).toNat.toUInt8 := rfl
      have e2 : ((b0 : Int).toNat.toUInt8 :: (b1 : Int).toNat.toUInt8 :: (b2 : Int).toNat.toUInt8 :: t).getD 2 0 = (b2 : Int).toNat.toUInt8 := rfl
      rw [e0, e1, e2, natB _ k0, natB _ k1, natB _ k2]
      exact f _ _ (by omega)
    · refine ⟨?_, .inr (by omega)⟩
      have e0 : ((b0 : Int).toNat.toUInt8 :: (b1 : Int).toNat.toUInt8 :: (b2 : Int).toNat.toUInt8 :: (b3 : Int).toNat.toUInt8 :: t).getD 0 0 = (b0 : Int).toNat.toUInt8 := rfl
      have e1 : ((b0 : Int).toNat.toUInt8 :: (b1 : Int).toNat.toUInt8 :: (b2 : Int).toNat.toUInt8 :: (b3 : Int).toNat.toUInt8 :: t).getD 1 0 = (b1 : Int).toNat.toUInt8 := rfl
      have e2 : ((b0 : Int).toNat.toUInt8 :: (b1 : Int).toNat.toUInt8 :: (b2 : Int).toNat.toUInt8 :: (b3 : Int).toNat.toUInt8 :: t).getD 2 0 = (b2 : Int).toNat.toUInt8 := rfl
      have e3 : ((b0 : Int).toNat.toUInt8 :: (b1 : Int).toNat.toUInt8 :: (b2 : Int).toNat.toUInt8 :: (b3 : Int).toNat.toUInt8 :: t).getD 3 0 = (b3 : Int).toNat.toUInt8 := rfl
      rw [e0, e1, e2, e3, natB _ k0, natB _ k1, natB _ k2, natB _ k3]
      exact f _ (by omega)
  refine ⟨hp, hd.1, ?_⟩
  rw [brk, hd.1]
  rcases hd.2 with h2 | h2
  · rw [decide_eq_false (show ¬ r.toNat = 65533 by omega)]; rfl
  · rw [decide_eq_false (show ¬ (encodeRune r).length < 2 by omega)]; simp

/-- The runes that are read have the text's bytes. -/
theorem scan_enc (s : ByteArray) : ∀ k p, s.size ≤ p + k → p ≤ s.size → (scan s k p).2 = none → encL (scan s k p).1 = s.data.toList.drop p ∧ (∀ r ∈ (scan s k p).1, validRune r = true)
  | k, p, hk, hp, h => by
    have hsz : s.data.toList.length = s.size := by cases s; simp [ByteArray.size]
    by_cases hlt : p < s.size
    · obtain ⟨k, rfl⟩ : ∃ j, k = j + 1 := ⟨k - 1, by omega⟩
      cases hb : brk s p
      · rw [scan_next s k p hlt hb] at h ⊢
        simp only at h ⊢
        obtain ⟨c, n, hd⟩ : ∃ c n, Utf8.decode s p = (c, n) := ⟨_, _, rfl⟩
        have hw := wid_pos s p
        rw [hd] at h hw ⊢
        obtain ⟨h1, h2, h3⟩ := dec_ok s p c n hlt hd hb
        obtain ⟨h4, h5⟩ := scan_enc s k (p + n) (by simp only at hw; omega) h1 h
        refine ⟨?_, ?_⟩
        · simp only [encL, List.flatMap_cons] at h4 ⊢
          rw [h4, ← h3, ← List.drop_drop, List.take_append_drop]
        · intro r hr
          rcases List.mem_cons.1 hr with rfl | hr
          · exact h2
          · exact h5 r hr
      · rw [scan_brk s k p hlt hb] at h
        simp at h
    · rw [scan_end s k p hlt]
      refine ⟨?_, by simp⟩
      rw [List.drop_of_length_le (by omega)]; rfl
termination_by k => k

/-- The text of runes is read as those. -/
theorem scan_of_enc (s : ByteArray) : ∀ (l : List Int) k p, s.size ≤ p + k → s.data.toList.drop p = encL l → (∀ r ∈ l, validRune r = true) → scan s k p = (l, none)
  | [], k, p, hk, h, hv => by
    have hsz : s.data.toList.length = s.size := by cases s; simp [ByteArray.size]
    have hl := congrArg List.length h
    simp [encL] at hl
    exact scan_end s k p (by have e : s.data.size = s.size := rfl; omega)
  | r :: t, k, p, hk, h, hv => by
    have hr := hv r (List.mem_cons_self ..)
    have h' : s.data.toList.drop p = encodeRune r ++ encL t := by rw [h]; simp [encL]
    obtain ⟨h1, h2, h3⟩ := enc_dec s p r (encL t) hr h'
    obtain ⟨k, rfl⟩ : ∃ j, k = j + 1 := ⟨k - 1, by omega⟩
    have hlen := (enc_len_one hr).1
    rw [scan_next s k p h1 h3, h2]
    have h4 : s.data.toList.drop (p + (encodeRune r).length) = encL t := by
      rw [← List.drop_drop, h', List.drop_left]
    rw [scan_of_enc s t k (p + (encodeRune r).length) (by omega) h4 (fun x hx => hv x (List.mem_cons_of_mem _ hx))]
    have : (r.toNat : Int) = r := by have := (vld_iff r).1 hr; omega
    rw [this]
end Go.Proofs.YtcaojgdnhmgmlaaDoor.Q
end

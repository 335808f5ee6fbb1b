/- A reader made, what is left of it, its fault, its end, its text; by hand. -/
import Derived.Test.YtbodefikbonjaaaHMeth
import Derived.Test.YtbodefikbonjaaaHWrite
namespace Go.Proofs.Ytbodefikbonjaaa.Q
open Go.RowKit Go.Proofs.YtbodefikbonjaaaW.PrintWords Go.Proofs.YtbodefikbonjaaaW.PrintLast Go.Proofs.YtbodefikbonjaaaW.PrintMore
set_option linter.unusedVariables false

theorem left_calls (w : World) (g N : Nat) (A : Option Addr) (c : Nat) (l : List Int) (f : Int) (h : RdV w g N A c l f) :
    Calls Try.prog 41 #[.pointer (some ⟨g, 0, none⟩)] w fun e w' => e = .returned (.int .i64 l.length) ∧ Drawn0 w w' := by
  have hc0 : w.cell? ⟨g, 0, none⟩ = some (.slice A l.length c) := by simp [World.cell?, h.cell]
  clear h
  go_enter Try.func41, Try.ntmps41
  go_wp2_with fail
  go_ret
  exact ⟨rfl, Drawn0.refl _⟩
theorem fault_calls (w : World) (g N : Nat) (A : Option Addr) (c : Nat) (l : List Int) (f : Int) (h : RdV w g N A c l f) :
    Calls Try.prog 42 #[.pointer (some ⟨g, 0, none⟩)] w fun e w' => e = .returned (.int .i64 f) ∧ Drawn0 w w' := by
  have hc0 : w.cell? ⟨g, 1, none⟩ = some (.int .i64 f) := by simp [World.cell?, h.cell]
  clear h
  go_enter Try.func42, Try.ntmps42
  go_wp2_with fail
  go_ret
  exact ⟨rfl, Drawn0.refl _⟩
theorem end_calls (w : World) (g N : Nat) (A : Option Addr) (c : Nat) (l : List Int) (f : Int) (h : RdV w g N A c l f) :
    Calls Try.prog 43 #[.pointer (some ⟨g, 0, none⟩)] w fun e w' => e = .returned (.int .i64 (if f = 0 ∧ 0 < l.length then 4 else f)) ∧ Drawn0 w w' := by
  have hc0 : w.cell? ⟨g, 0, none⟩ = some (.slice A l.length c) := by simp [World.cell?, h.cell]
  have hc1 : w.cell? ⟨g, 1, none⟩ = some (.int .i64 f) := by simp [World.cell?, h.cell]
  have HF := Aside0.mk (fault_calls w g N A c l f h)
  clear h
  by_cases h0 : f = 0
  · have e0 : (f == 0) = true := beq_iff_eq.mpr h0
    by_cases h1 : 0 < l.length
    · have e1 : (0 < l.length) = True := eq_true h1
      rw [if_pos ⟨h0, h1⟩]
      subst h0
      clear h1
      go_enter Try.func43, Try.ntmps43
      go_wp2_with fail
      go_ret
      exact ⟨rfl, Drawn0.refl _⟩
    · have e1 : (0 < l.length) = False := eq_false h1
      rw [if_neg (fun h => h1 h.2)]
      subst h0
      clear h1
      go_enter Try.func43, Try.ntmps43
      go_wp2_with fail
      refine HF.out.mono ?_
      rintro e w' ⟨rfl, hd⟩
      go_wp2_with fail
      go_ret
      exact ⟨rfl, hd⟩
  · have e0 : (f == 0) = false := beq_eq_false_iff_ne.mpr h0
    rw [if_neg (fun h => h0 h.1)]
    go_enter Try.func43, Try.ntmps43
    go_wp2_with fail
    refine HF.out.mono ?_
    rintro e w' ⟨rfl, hd⟩
    go_wp2_with fail
    go_ret
    exact ⟨rfl, hd⟩
theorem make_calls (w : World) (A0 : Option Addr) (c0 : Nat) (l : List Int) (hr : Kd.C (Kd.int .u8) w A0 l.length l) (hc : l.length ≤ c0) (hl : l.length < 1000000) :
    Calls Try.prog 38 #[.slice A0 l.length c0] w fun e w' => ∃ g A c, e = .returned (.pointer (some ⟨g, 0, none⟩)) ∧ RdV w' g w'.heap.size A c l 0 ∧ Below w.heap.size w w' ∧ w.heap.size ≤ g := by
  have HQ := Aside0.mk (slices_Clone_byte_byte.calls A0 c0 l l w hr hc (by rw [slices_Clone_byte_byte.f, if_pos (by omega)]))
  clear hr hc
  go_enter Try.func38, Try.ntmps38
  go_wp2_with fail
  refine HQ.out.mono ?_
  rintro e w1 ⟨v, rfl, ho, hb⟩
  obtain ⟨A, c, rfl, hcc, hC⟩ := Kd.R_reads ho
  have HC := Aside0.mk hC
  have HCC := Aside0.mk hcc
  have HB := Aside0.mk hb
  clear ho hb hC hcc
  go_wp2_with fail
  go_ret
  have hB := below_alloc (Below.refl w1.heap.size w1) (.cells #[.slice A l.length c, .int .i64 0] 72)
  refine ⟨w1.heap.size, A, c, rfl, ⟨heap_alloc_new w1 _, Kd.C_below HC.out hB, HCC.out, fun ad e h0 => ?_, fun ad e h0 => ?_, by simp, Nat.le_refl _⟩, below_step HB.out hB, HB.out.size⟩
  · have := Kd.C_lt (by rw [← e]; exact HC.out) h0 (by decide)
    omega
  · have := Kd.C_lt (by rw [← e]; exact HC.out) h0 (by decide)
    rw [size_alloc]; omega
theorem rtext_calls (w : World) (g N : Nat) (A : Option Addr) (c : Nat) (l : List Int) (f s : Int) (h : RdV w g N A c l f) (hu : u8L l) (hll : l.length < 1000000) :
    Calls Try.prog 56 #[.pointer (some ⟨g, 0, none⟩), .int .i64 s] w fun e w' => Kept1 w w' g ∧
      ((∃ A2 c2, f = 0 ∧ bytesIs l s ∧ e = .returned (.string (strOfNums ((l.drop 2).take (bytesN l).toNat))) ∧ RdV w' g N A2 c2 (l.drop (2 + (bytesN l).toNat)) 0) ∨
       (f = 0 ∧ ¬ bytesIs l s ∧ e = .returned (.string (strOfNums [])) ∧ RdV w' g N none 0 [] 4) ∨ (f ≠ 0 ∧ e = .returned (.string (strOfNums [])) ∧ RdV w' g N A c l f)) := by
  have HQ := Aside0.mk (rbytes_calls w g N A c l f s h hu hll)
  clear h hu hll
  go_enter Try.func56, Try.ntmps56
  go_wp2_with fail
  refine HQ.out.mono ?_
  rintro e w1 ⟨hk, ⟨A2, c2, v, hf, hi, rfl, hR, hr⟩ | ⟨hf, hi, rfl, hr⟩ | ⟨hf, rfl, hr⟩⟩
  · obtain ⟨A6, c6, rfl, hc6, hC6⟩ := Kd.R_reads hR
    have hcv := conv_C w1 A6 c6 _ hC6
    have HK := Aside0.mk hk
    have HH := Aside0.mk (And.intro hf hi)
    have HR := Aside0.mk hr
    clear hR hC6 hc6 HQ hk hf hi hr
    generalize hq : (l.drop 2).take (bytesN l).toNat = q at hcv ⊢
    go_wp2_with fail
    go_ret
    exact ⟨HK.out, .inl ⟨A2, c2, HH.out.1, HH.out.2, by rw [hq]; rfl, HR.out⟩⟩
  · have hcv : (convert 22 9 (.slice none 0 0)).run Try.prog w1 = .ok (.string (strOfNums [])) w1 := conv_C w1 none 0 [] (Kd.C_nil _ _)
    have HK := Aside0.mk hk
    have HH := Aside0.mk (And.intro hf hi)
    have HR := Aside0.mk hr
    clear HQ hk hf hi hr
    go_wp2_with fail
    go_ret
    exact ⟨HK.out, .inr (.inl ⟨HH.out.1, HH.out.2, rfl, HR.out⟩)⟩
  · have hcv : (convert 22 9 (.slice none 0 0)).run Try.prog w1 = .ok (.string (strOfNums [])) w1 := conv_C w1 none 0 [] (Kd.C_nil _ _)
    have HK := Aside0.mk hk
    have HR := Aside0.mk hr
    have HF := Aside0.mk hf
    clear HQ hk hr hf
    go_wp2_with fail
    go_ret
    exact ⟨HK.out, .inr (.inr ⟨HF.out, rfl, HR.out⟩)⟩
end Go.Proofs.Ytbodefikbonjaaa.Q

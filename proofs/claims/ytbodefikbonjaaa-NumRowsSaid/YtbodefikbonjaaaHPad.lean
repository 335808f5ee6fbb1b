/- num.Pad, by hand. -/
import Derived.Test.YtbodefikbonjaaaQx0
namespace Go.Proofs.Ytbodefikbonjaaa.Q
open Go.RowKit Go.Proofs.YtbodefikbonjaaaW.PrintWords Go.Proofs.YtbodefikbonjaaaW.PrintLast Go.Proofs.YtbodefikbonjaaaW.PrintMore
set_option linter.unusedVariables false

def padL (l : List Int) (n : Nat) : List Int := l.take (min l.length n) ++ (List.replicate n 0).drop (min l.length n)

def num_Pad.f (l0 : List Int) (a1 : Int) : Option (List Int) := some (if a1 < 1 ∨ 65536 < a1 then [] else padL l0 a1.toNat)

set_option maxHeartbeats 1000000 in
theorem pad_in (A0 : Option Addr) (c0 : Nat) (l0 : List Int) (s : Nat) (w : World) (hr0 : Kd.C (Kd.int .u8) w A0 l0.length l0) (hs : 1 ≤ s) (hs8 : s ≤ 65536) :
    Calls Try.prog 33 #[.slice A0 l0.length c0, .int .i64 s] w fun e w' => ∃ v0_ : Value, e = .returned (v0_) ∧ Kd.R (Kd.int .u8) 5 w' w.heap.size (fun _ => True) v0_ (padL l0 s) ∧ Below w.heap.size w w' := by
  have e1 : decide ((s : Int) < 1) = false := decide_eq_false (by omega)
  have e2 : decide ((65536 : Int) < s) = false := decide_eq_false (by omega)
  have HR := Aside0.mk hr0
  clear hr0
  go_enter Try.func33, Try.ntmps33
  go_wp2_with (first
    | ((with_reducible refine gate_dst (N := 13) rfl ?_); refine Kd.R_make (Kd.int .u8) _ 5 rfl (N := 13) rfl 22 _ _ rfl (s : Int) rfl rfl Try.underlying22 (.int .u8 0) 1 info5 rfl (by decide) (by omega) 0 (ok := fun _ => True) (okp := fun _ => True) rfl (fun _ hk => hk) trivial (by omega) (by simp; omega) (Below.refl _ _) (Nat.le_refl _) ?_; intro v1 w1 ho hb hg hnew; have HO := Aside0.mk ho; have HB := Aside0.mk hb; clear ho hb hg hnew)
    | ((with_reducible refine gate_builtin (b := .copy) (xs := #[.tmp 14, .tmp 15]) rfl ?_); refine Kd.R_copy (0 : Int) (w0 := w) w.heap.size rfl (.tmp 14) (.tmp 15) 22 22 5 rfl Try.underlying22 (by kernel_rfl) v1 (List.replicate (s : Int).toNat 0) l0 A0 l0.length c0 (fun _ => True) rfl rfl HO.out (Kd.C_below HR.out HB.out) HB.out HB.out.size ?_; intro w2 ho hb hg; clear HO HB hg; have HO := Aside0.mk ho; have HB := Aside0.mk hb; clear ho hb))
  go_ret
  have ho := HO.out
  rw [List.length_replicate, Int.toNat_natCast] at ho
  exact ⟨_, rfl, ho, HB.out⟩

theorem num_Pad.calls (A0 : Option Addr) (c0 : Nat) (l0 : List Int) (a1 : Int) (r : List Int) (w : World) (hr0 : Kd.C (Kd.int .u8) w A0 l0.length l0) (hc0 : l0.length ≤ c0) (h : num_Pad.f l0 a1 = some r) :
    Calls Try.prog 33 #[.slice A0 l0.length c0, .int .i64 a1] w fun e w' => ∃ v0_ : Value, e = .returned (v0_) ∧ Kd.R (Kd.int .u8) 5 w' w.heap.size (fun _ => True) v0_ r ∧ Below w.heap.size w w' := by
  unfold num_Pad.f at h
  obtain rfl := Option.some.inj h
  clear h
  by_cases hs : a1 < 1 ∨ 65536 < a1
  · rw [if_pos hs]
    clear hr0 hc0
    rcases hs with hs | hs
    · have e1 : decide (a1 < 1) = true := decide_eq_true hs
      go_enter Try.func33, Try.ntmps33
      go_wp2_with fail
      go_ret
      exact ⟨_, rfl, Kd.R_nil _ _ _ _ _, Below.refl _ _⟩
    · have e1 : decide (a1 < 1) = false := decide_eq_false (by omega)
      have e2 : decide (65536 < a1) = true := decide_eq_true hs
      go_enter Try.func33, Try.ntmps33
      go_wp2_with fail
      go_ret
      exact ⟨_, rfl, Kd.R_nil _ _ _ _ _, Below.refl _ _⟩
  · rw [if_neg hs]
    obtain ⟨s, rfl⟩ := Int.eq_ofNat_of_zero_le (show 0 ≤ a1 by omega)
    rw [Int.toNat_natCast]
    exact pad_in A0 c0 l0 s w hr0 (by omega) (by omega)
end Go.Proofs.Ytbodefikbonjaaa.Q

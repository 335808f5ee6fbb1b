/- num.Put, by hand: the bytes of a number. -/
import Derived.Test.YtbodefikbonjaaaQx0
namespace Go.Proofs.Ytbodefikbonjaaa.Q
open Go.RowKit Go.Proofs.YtbodefikbonjaaaW.PrintWords Go.Proofs.YtbodefikbonjaaaW.PrintLast Go.Proofs.YtbodefikbonjaaaW.PrintMore
set_option linter.unusedVariables false

def putL (n : Int) (s : Nat) : List Int := (List.range s).map fun j => n / 2 ^ (8 * (s - 1 - j)) % 256

def num_Put.f (a0 : Int) (a1 : Int) : Option (List Int) := if 0 ≤ a0 ∧ a0 ≤ 18446744073709551615 then some (if a1 < 1 ∨ 8 < a1 then [] else putL a0 a1.toNat) else none

theorem putL_snoc (n : Int) (s k : Nat) (h : k < s) : (putL n s).take (k + 1) = (putL n s).take k ++ [n / 2 ^ (8 * (s - 1 - k)) % 256] := by
  rw [List.take_succ_eq_append_getElem (by simp [putL, h])]
  simp [putL]

set_option maxHeartbeats 1000000 in
theorem put_in (a0 : Int) (s : Nat) (w : World) (h0 : 0 ≤ a0) (h1 : a0 ≤ 18446744073709551615) (hs : 1 ≤ s) (hs8 : s ≤ 8) :
    Calls Try.prog 26 #[.int .u64 a0, .int .i64 s] w fun e w' => ∃ v0_ : Value, e = .returned (v0_) ∧ Kd.R (Kd.int .u8) 5 w' w.heap.size (fun _ => True) v0_ (putL a0 s) ∧ Below w.heap.size w w' := by
  have e1 : decide ((s : Int) < 1) = false := decide_eq_false (by omega)
  have e2 : decide ((8 : Int) < s) = false := decide_eq_false (by omega)
  go_enter Try.func26, Try.ntmps26
  go_wp2_with fail
  go_step3
  go_wp2_with fail
  go_step3
  go_wp2_with fail
  go_loopw [4, 5] (fun v i wr => ∃ k : Nat, k ≤ s ∧ i = .int .i64 ((s : Int) - 1 - k) ∧ Aside0 (Kd.R (Kd.int .u8) 5 wr w.heap.size (fun _ => True) v ((putL a0 s).take k)) ∧ Below w.heap.size w wr) (fun _ i _ => (intOf i + 1).toNat)
  case atStart => exact ⟨0, by omega, by go_num, ⟨Kd.R_nil _ _ _ _ _⟩, Below.refl _ _⟩
  case round =>
    obtain ⟨k, hk, rfl, ho, hb⟩ := hrel
    by_cases hlt : k < s
    · have HB := Aside0.mk hb
      have HO := ho
      clear hb ho
      go_wp2_with (first | ((with_reducible refine gate_builtin (b := .append) (xs := #[.tmp 18, .tmp 24]) rfl ?_); at_builtin; refine Kd.R_append (Kd.int .u8) (w0 := w) w.heap.size rfl (.tmp 18) (.tmp 24) 22 5 (.int .u8 0) 1 rfl Try.underlying22 info5 rfl (by decide) (by omega) u4 ((putL a0 s).take k) (a0 / 2 ^ (8 * (s - 1 - k)) % 256) [.int .u8 (a0 / 2 ^ (8 * (s - 1 - k)) % 256)] (fun _ => True) (fun _ => False) rfl rfl rfl (fun _ hk => hk.elim) (fun _ _ => trivial) HO.out HB.out HB.out.size (by have : ((putL a0 s).take k).length ≤ k := List.length_take_le _ _; omega) ?_; intro v1 w1 ho hb hg hat; clear hg hat HO HB; rw [← putL_snoc a0 s k hlt] at ho; have HO := Aside0.mk ho; clear ho))
      go_roundw
      case rel => exact ⟨k + 1, by omega, by go_num, HO, hb⟩
      case measure => simp [intOf]; omega
    · have hk8 : k = s := by omega
      subst hk8
      have hs0 : ((k : Int) - 1 - k) = -1 := by omega
      rw [hs0]
      clear hs0
      go_wp2_with fail
      rw [Exit.noGoto_ret]
      go_ret
      rw [List.take_of_length_le (by simp [putL])] at ho
      exact ⟨_, rfl, ho.out, hb⟩

theorem num_Put.calls (a0 : Int) (a1 : Int) (r : List Int) (w : World) (h : num_Put.f a0 a1 = some r) :
    Calls Try.prog 26 #[.int .u64 a0, .int .i64 a1] w fun e w' => ∃ v0_ : Value, e = .returned (v0_) ∧ Kd.R (Kd.int .u8) 5 w' w.heap.size (fun _ => True) v0_ r ∧ Below w.heap.size w w' := by
  unfold num_Put.f at h
  split at h
  case isFalse => cases h
  rename_i ha
  by_cases hs : a1 < 1 ∨ 8 < a1
  · rw [if_pos hs] at h
    obtain rfl := Option.some.inj h
    rcases hs with hs | hs
    · have e1 : decide (a1 < 1) = true := decide_eq_true hs
      go_enter Try.func26, Try.ntmps26
      go_wp2_with fail
      go_step3
      go_wp2_with fail
      rw [Exit.noGoto_ret]
      go_ret
      exact ⟨_, rfl, Kd.R_nil _ _ _ _ _, Below.refl _ _⟩
    · have e1 : decide (a1 < 1) = false := decide_eq_false (by omega)
      have e2 : decide (8 < a1) = true := decide_eq_true hs
      go_enter Try.func26, Try.ntmps26
      go_wp2_with fail
      go_step3
      go_wp2_with fail
      rw [Exit.noGoto_ret]
      go_ret
      exact ⟨_, rfl, Kd.R_nil _ _ _ _ _, Below.refl _ _⟩
  · rw [if_neg hs] at h
    obtain rfl := Option.some.inj h
    obtain ⟨s, rfl⟩ := Int.eq_ofNat_of_zero_le (show 0 ≤ a1 by omega)
    rw [Int.toNat_natCast]
    exact put_in a0 s w ha.1 ha.2 (by omega) (by omega)
end Go.Proofs.Ytbodefikbonjaaa.Q

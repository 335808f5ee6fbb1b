/- What nil readers and writers say, by hand. -/
import Derived.Test.YtbodefikbonjaaaHRead2
namespace Go.Proofs.Ytbodefikbonjaaa.Q
open Go.RowKit Go.Proofs.YtbodefikbonjaaaW.PrintWords Go.Proofs.YtbodefikbonjaaaW.PrintLast Go.Proofs.YtbodefikbonjaaaW.PrintMore
set_option linter.unusedVariables false

theorem nil_put (w : World) (A : Option Addr) (n c : Nat) : Calls Try.prog 57 #[.pointer none, .slice A n c] w fun e w' => e = .returned (.tuple #[]) ∧ w = w' := by
  go_enter Try.func57, Try.ntmps57
  go_wp2_with fail
  go_end0
  exact ⟨rfl, rfl⟩
theorem nil_byte (w : World) (c : Int) : Calls Try.prog 44 #[.pointer none, .int .u8 c] w fun e w' => e = .returned (.tuple #[]) ∧ Below w.heap.size w w' := by
  have hb := below_alloc (Below.refl w.heap.size w) (.cells #[.int .u8 c] 5)
  have HB := Aside0.mk hb
  clear hb
  go_enter Try.func44, Try.ntmps44
  go_wp2_with fail
  refine (nil_put _ _ _ _).mono ?_
  rintro e w2 ⟨rfl, rfl⟩
  go_wp2_with fail
  go_end0
  exact ⟨rfl, HB.out⟩
theorem nil_number (w : World) (n s : Int) (h : 0 ≤ n ∧ n ≤ 18446744073709551615) : Calls Try.prog 52 #[.pointer none, .int .u64 n, .int .i64 s] w fun e w' => e = .returned (.tuple #[]) ∧ Below w.heap.size w w' := by
  obtain ⟨r, hr⟩ : ∃ r, num_Put.f n s = some r := ⟨_, by rw [num_Put.f, if_pos h]⟩
  have HP := Aside0.mk (num_Put.calls n s r w hr)
  clear h hr
  go_enter Try.func52, Try.ntmps52
  go_wp2_with fail
  refine HP.out.mono ?_
  rintro e w1 ⟨v0, rfl, ho, hb⟩
  obtain ⟨A1, c1, rfl, hc1, hC⟩ := Kd.R_reads ho
  have HB := Aside0.mk hb
  clear ho hb hc1 hC HP
  go_wp2_with fail
  refine (nil_put _ _ _ _).mono ?_
  rintro e w2 ⟨rfl, rfl⟩
  go_wp2_with fail
  go_end0
  exact ⟨rfl, HB.out⟩
section
attribute [local go_sem] min2_int min_two
set_option maxHeartbeats 1000000 in
theorem nil_bytes (w : World) (A : Option Addr) (n c : Nat) (hc : n ≤ c) (hn : n ≤ 65535) : Calls Try.prog 53 #[.pointer none, .slice A n c] w fun e w' => e = .returned (.tuple #[]) ∧ Below w.heap.size w w' := by
  have hcc : (n ≤ c) = True := eq_true hc
  have hlt : ((65535 : Int) < n) = False := eq_false (by omega)
  have hwr : IntKind.u64.wrap (n : Int) = n := by simp [IntKind.wrap, IntKind.bits, IntKind.signed]; omega
  have HP := Aside0.mk (nil_number w n 2 (by omega))
  clear hc hn
  go_enter Try.func53, Try.ntmps53
  go_wp2_with fail
  refine HP.out.mono ?_
  rintro e w1 ⟨rfl, hb⟩
  have HB := Aside0.mk hb
  clear hb
  go_wp2_with fail
  refine (nil_put _ _ _ _).mono ?_
  rintro e w2 ⟨rfl, rfl⟩
  go_wp2_with fail
  go_end0
  exact ⟨rfl, HB.out⟩
end
set_option maxHeartbeats 1000000 in
theorem nil_text (w : World) (s : ByteArray) (hs : s.size ≤ 65535) : Calls Try.prog 45 #[.pointer none, .string s] w fun e w' => e = .returned (.tuple #[]) ∧ Below w.heap.size w w' := by
  have kb := print_bytes (P := Try.prog) 9 22 5 Try.underlying9 Try.underlying22 Try.underlying5 s w
  have hb := bytes_below (Below.refl w.heap.size w) (Nat.le_refl _) 5 s
  have hcap : s.size ≤ grownCap w s.size 0 5 := grownCap_ge w s.size 0 5
  have HB := Aside0.mk hb
  have HQ := Aside0.mk (nil_bytes (Lib.bytesWorld w 5 s) (some ⟨w.heap.size, 0, none⟩) s.size (grownCap w s.size 0 5) hcap hs)
  clear hb hcap
  generalize Lib.bytesWorld w 5 s = W1 at kb HQ HB
  go_enter Try.func45, Try.ntmps45
  go_wp2_with fail
  refine HQ.out.mono ?_
  rintro e w2 ⟨rfl, hb⟩
  have HB2 := Aside0.mk (below_step HB.out hb)
  clear hb
  go_wp2_with fail
  go_end0
  exact ⟨rfl, HB2.out⟩
theorem nil_out (w : World) : Calls Try.prog 32 #[.pointer none] w fun e w' => e = .returned (.slice none 0 0) ∧ w = w' := by
  go_enter Try.func32, Try.ntmps32
  go_wp2_with fail
  go_ret
  exact ⟨rfl, rfl⟩
theorem nil_left (w : World) : Calls Try.prog 41 #[.pointer none] w fun e w' => e = .returned (.int .i64 0) ∧ w = w' := by
  go_enter Try.func41, Try.ntmps41
  go_wp2_with fail
  go_ret
  exact ⟨rfl, rfl⟩
theorem nil_fault (w : World) : Calls Try.prog 42 #[.pointer none] w fun e w' => e = .returned (.int .i64 1) ∧ w = w' := by
  go_enter Try.func42, Try.ntmps42
  go_wp2_with fail
  go_ret
  exact ⟨rfl, rfl⟩
theorem nil_end (w : World) : Calls Try.prog 43 #[.pointer none] w fun e w' => e = .returned (.int .i64 1) ∧ w = w' := by
  go_enter Try.func43, Try.ntmps43
  go_wp2_with fail
  refine (nil_fault _).mono ?_
  rintro e w2 ⟨rfl, rfl⟩
  go_wp2_with fail
  go_ret
  exact ⟨rfl, rfl⟩
theorem nil_field (w : World) (F : Value) : Calls Try.prog 58 #[.pointer none, F] w fun e w' => e = .returned (.tuple #[]) ∧ Below w.heap.size w w' := by
  have hB := below_alloc (Below.refl w.heap.size w) (.cells #[.pointer none] 53)
  have hcv := cell_of_one (heap_alloc_new w (.cells #[.pointer none] 53))
  have hmf : ∀ (fn : Fn) (first cap : Array Value) (w : World), (Instr.makeFunc fn first cap).run Try.prog w = .ok (.func fn first cap) w := fun _ _ _ _ => rfl
  go_enter_defers Try.func58, Try.ntmps58
  go_wp2
  exact ⟨.tuple #[], by simp [results, Try.results58], rfl, hB⟩
theorem nil_rbyte (w : World) : Calls Try.prog 46 #[.pointer none] w fun e w' => e = .returned (.int .u8 0) ∧ Below w.heap.size w w' := by
  have hmf : ∀ (fn : Fn) (first cap : Array Value) (w : World), (Instr.makeFunc fn first cap).run Try.prog w = .ok (.func fn first cap) w := fun _ _ _ _ => rfl
  obtain ⟨W1, hW1⟩ : ∃ W1, W1 = (w.alloc (.cells #[.pointer none] 53)).alloc (.cells #[.int .u8 0] 5) := ⟨_, rfl⟩
  have hcv : W1.heap[w.heap.size + 1]? = some (.cells #[.int .u8 0] 5 (0, 0)) := by
    have := heap_alloc_new (w.alloc (.cells #[.pointer none] 53)) (.cells #[.int .u8 0] 5)
    rw [size_alloc] at this; rw [hW1]; exact this
  have hs1 : W1.heap.size = w.heap.size + 2 := by rw [hW1, size_alloc, size_alloc]
  have hb1 : Below w.heap.size w W1 := by rw [hW1]; exact below_alloc (below_alloc (Below.refl _ _) _) _
  have HF := Aside0.mk (nil_field W1 (.func (.func 59) #[] #[.pointer (some ⟨w.heap.size, 0, none⟩), .pointer (some ⟨w.heap.size + 1, 0, none⟩)]))
  go_enter Try.func46, Try.ntmps46
  go_wp2_with fail
  rw [← hW1]
  refine HF.out.mono ?_
  rintro e w1 ⟨rfl, hb⟩
  have hcc := (hb.block (w.heap.size + 1) (by omega)).trans hcv
  have hcell := cell_of_one hcc
  have hfree := free_of_one hcc
  have hset := cell_of_one (one_setCell (u := .int .u8 0) hcc)
  go_wp2_with fail
  exact ⟨rfl, .int .u8 0, by simp [results, Try.results46, go_sem, hset], rfl, (below_step hb1 hb).setCell (p := ⟨w.heap.size + 1, 0, none⟩) (Nat.le_succ _) _⟩
theorem nil_rnumber (w : World) (s : Int) : Calls Try.prog 47 #[.pointer none, .int .i64 s] w fun e w' => e = .returned (.int .u64 0) ∧ Below w.heap.size w w' := by
  have hmf : ∀ (fn : Fn) (first cap : Array Value) (w : World), (Instr.makeFunc fn first cap).run Try.prog w = .ok (.func fn first cap) w := fun _ _ _ _ => rfl
  obtain ⟨_, hrv, hsv, hcv, hs1, hb1⟩ := three w (.cells #[.pointer none] 53) (.cells #[.int .i64 s] 3) (.cells #[.int .u64 0] 34)
  obtain ⟨W1, hW1⟩ : ∃ W1, W1 = ((w.alloc (.cells #[.pointer none] 53)).alloc (.cells #[.int .i64 s] 3)).alloc (.cells #[.int .u64 0] 34) := ⟨_, rfl⟩
  rw [← hW1] at hrv hsv hcv hs1 hb1
  have HF := Aside0.mk (nil_field W1 (.func (.func 61) #[] #[.pointer (some ⟨w.heap.size, 0, none⟩), .pointer (some ⟨w.heap.size + 1, 0, none⟩), .pointer (some ⟨w.heap.size + 2, 0, none⟩)]))
  go_enter Try.func47, Try.ntmps47
  go_wp2_with fail
  rw [← hW1]
  refine HF.out.mono ?_
  rintro e w1 ⟨rfl, hb⟩
  have hcc := (hb.block (w.heap.size + 2) (by omega)).trans hcv
  have hcell := cell_of_one hcc
  have hfree := free_of_one hcc
  have hset := cell_of_one (one_setCell (u := .int .u64 0) hcc)
  go_wp2_with fail
  exact ⟨rfl, .int .u64 0, by simp [results, Try.results47, go_sem, hset], rfl, (below_step hb1 hb).setCell (p := ⟨w.heap.size + 2, 0, none⟩) (Nat.le_add_right _ _) _⟩
theorem nil_rbytes (w : World) (s : Int) : Calls Try.prog 48 #[.pointer none, .int .i64 s] w fun e w' => e = .returned (.slice none 0 0) ∧ Below w.heap.size w w' := by
  have hmf : ∀ (fn : Fn) (first cap : Array Value) (w : World), (Instr.makeFunc fn first cap).run Try.prog w = .ok (.func fn first cap) w := fun _ _ _ _ => rfl
  obtain ⟨_, hrv, hsv, hcv, hs1, hb1⟩ := three w (.cells #[.pointer none] 53) (.cells #[.int .i64 s] 3) (.cells #[.slice none 0 0] 22)
  obtain ⟨W1, hW1⟩ : ∃ W1, W1 = ((w.alloc (.cells #[.pointer none] 53)).alloc (.cells #[.int .i64 s] 3)).alloc (.cells #[.slice none 0 0] 22) := ⟨_, rfl⟩
  rw [← hW1] at hrv hsv hcv hs1 hb1
  have HF := Aside0.mk (nil_field W1 (.func (.func 63) #[] #[.pointer (some ⟨w.heap.size, 0, none⟩), .pointer (some ⟨w.heap.size + 1, 0, none⟩), .pointer (some ⟨w.heap.size + 2, 0, none⟩)]))
  go_enter Try.func48, Try.ntmps48
  go_wp2_with fail
  rw [← hW1]
  refine HF.out.mono ?_
  rintro e w1 ⟨rfl, hb⟩
  have hcc := (hb.block (w.heap.size + 2) (by omega)).trans hcv
  have hcell := cell_of_one hcc
  have hfree := free_of_one hcc
  have hset := cell_of_one (one_setCell (u := .slice none 0 0) hcc)
  go_wp2_with fail
  exact ⟨rfl, .slice none 0 0, by simp [results, Try.results48, go_sem, hset], rfl, (below_step hb1 hb).setCell (p := ⟨w.heap.size + 2, 0, none⟩) (Nat.le_add_right _ _) _⟩
end Go.Proofs.Ytbodefikbonjaaa.Q

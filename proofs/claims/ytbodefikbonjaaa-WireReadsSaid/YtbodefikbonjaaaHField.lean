/- wire.Reader.field, by hand: what is read, if all goes well; too few bytes are its fault. -/
import Derived.Test.YtbodefikbonjaaaHReader
namespace Go.Proofs.Ytbodefikbonjaaa.Q
open Go.RowKit Go.Proofs.YtbodefikbonjaaaW.PrintWords Go.Proofs.YtbodefikbonjaaaW.PrintLast Go.Proofs.YtbodefikbonjaaaW.PrintMore
set_option linter.unusedVariables false

theorem two_one_set {w : World} {b : Nat} {v x : Value} {t : TypeId} (h : w.heap[b]? = some (.cells #[v, x] t (0, 0))) (y : Value) : (w.setCell ⟨b, 1, none⟩ y).heap[b]? = some (.cells #[v, y] t (0, 0)) := by
  have hlt : b < w.heap.size := (Array.getElem?_eq_some_iff.1 h).1
  have h' : w.heap[b] = .cells #[v, x] t (0, 0) := by simpa [Array.getElem?_eq_getElem hlt] using h
  show (w.heap.modify b _)[b]? = _
  rw [Array.getElem?_eq_getElem (by simpa using hlt), Array.getElem_modify_self, h']
  rfl
theorem run_few_is (W : World) : (Instr.typeAssert (.iface 77 (.agg #[.int .i64 4])) 20 77 false).run Try.prog W = .ok (.agg #[.int .i64 4]) W := by
  kernel_rfl
theorem run_few_f (W : World) : (Instr.field 77 (.agg #[.int .i64 4]) 0).run Try.prog W = .ok (.int .i64 4) W := by
  kernel_rfl
set_option maxHeartbeats 1000000 in
theorem catch_idle (rv g : Nat) (w : World) (hv : w.heap[rv]? = some (.cells #[.pointer (some ⟨g, 0, none⟩)] 53 (0, 0))) :
    CallsD Try.prog 65 #[.pointer (some ⟨rv, 0, none⟩)] .returning w fun e u' w' => e = .returned (.tuple #[]) ∧ u' = .returning ∧ w' = w := by
  refine callsD_of_wpS Try.func65 rfl fun c₀ cs hu => ?_
  apply wpS_seq
  apply wpS_region
  simp [wpOpsS, go_sem, recoverD, hu, Try.ntmps65, Exit.thenS]
  refine wpS_of_wp ?_
  rw [show #[Value.pointer (some { block := rv, off := 0 })] ++ ((Array.replicate 13 undef).setIfInBounds 1 Value.nilIface).setIfInBounds 0 Value.nilIface = #[.pointer (some ⟨rv, 0, none⟩), .nilIface, .nilIface, undef, undef, undef, undef, undef, undef, undef, undef, undef, undef, undef] from rfl]
  go_wp2
  exact ⟨rfl, .returning, by cases c₀; simp_all, .tuple #[], by simp [results, Try.results65], rfl, rfl, rfl⟩
set_option maxHeartbeats 1000000 in
theorem catch_few (rv g N : Nat) (w : World) (hv : w.heap[rv]? = some (.cells #[.pointer (some ⟨g, 0, none⟩)] 53 (0, 0))) (A : Option Addr) (c : Nat) (l : List Int) (f : Int) (h : RdV w g N A c l f) :
    CallsD Try.prog 65 #[.pointer (some ⟨rv, 0, none⟩)] (.panicking (fewP 4)) w fun e u' w' => e = .returned (.tuple #[]) ∧ u' = .panicking [{ v := .iface 77 (.agg #[.int .i64 4]), recovered := true }] ∧ RdV w' g N none 0 [] 4 ∧ Kept1 w w' g := by
  refine callsD_of_wpS Try.func65 rfl fun c₀ cs hu => ?_
  apply wpS_seq
  apply wpS_region
  simp [wpOpsS, go_sem, recoverD, hu, Try.ntmps65, Exit.thenS, fewP]
  refine wpS_of_wp ?_
  rw [show #[Value.pointer (some { block := rv, off := 0 })] ++ ((Array.replicate 13 undef).setIfInBounds 1 (Value.iface 77 (Value.agg #[Value.int IntKind.i64 4]))).setIfInBounds 0 (Value.iface 77 (Value.agg #[Value.int IntKind.i64 4])) = #[.pointer (some ⟨rv, 0, none⟩), .iface 77 (.agg #[.int .i64 4]), .iface 77 (.agg #[.int .i64 4]), undef, undef, undef, undef, undef, undef, undef, undef, undef, undef, undef] from rfl]
  have hcv := cell_of_one hv
  have hc0 : w.cell? ⟨g, 0, none⟩ = some (.slice A l.length c) := by simp [World.cell?, h.cell]
  have hc1 : w.cell? ⟨g, 1, none⟩ = some (.int .i64 f) := by simp [World.cell?, h.cell]
  have hf0 : w.frozen? ⟨g, 0, none⟩ = false := by simp [World.frozen?, h.cell]
  have hf1 : w.frozen? ⟨g, 1, none⟩ = false := by simp [World.frozen?, h.cell]
  have hta := fun W => run_few_is W
  have hfd := fun W => run_few_f W
  go_wp2
  go_region
  go_wp2
  have h1 := one_two_set (two_one_set h.cell (.int .i64 4)) (.slice none 0 0)
  refine ⟨rfl, .panicking [{ v := .iface 77 (.agg #[.int .i64 4]), recovered := true }], by cases c₀; simp_all, .tuple #[], by simp [results, Try.results65], rfl, rfl, ⟨h1, Kd.C_nil _ _, Nat.le_refl _, fun _ _ h0 => absurd h0 (by simp), fun _ _ h0 => absurd h0 (by simp), h.lo, Nat.le_trans h.hi (by simp)⟩, ?_⟩
  have h2 := (Kept1.of_set w g 1 (.int .i64 4)).trans (Kept1.of_set _ g 0 (.slice none 0 0))
  exact ⟨h2.kept, h2.size, h2.bel.drew⟩
end Go.Proofs.Ytbodefikbonjaaa.Q

/- wire.Reader.field around each closure, by hand. -/
import Derived.Test.YtbodefikbonjaaaHField
namespace Go.Proofs.Ytbodefikbonjaaa.Q
open Go.RowKit Go.Proofs.YtbodefikbonjaaaW.PrintWords Go.Proofs.YtbodefikbonjaaaW.PrintLast Go.Proofs.YtbodefikbonjaaaW.PrintMore
set_option linter.unusedVariables false

set_option maxHeartbeats 1000000 in
theorem field_off (w : World) (g N : Nat) (A : Option Addr) (c : Nat) (l : List Int) (f : Int) (h : RdV w g N A c l f) (hf : f ≠ 0) (F : Value) :
    Calls Try.prog 58 #[.pointer (some ⟨g, 0, none⟩), F] w fun e w' => e = .returned (.tuple #[]) ∧ Below w.heap.size w w' := by
  have hlt := h.lt
  have hB := below_alloc (Below.refl w.heap.size w) (.cells #[.pointer (some ⟨g, 0, none⟩)] 53)
  have hcv := cell_of_one (heap_alloc_new w (.cells #[.pointer (some ⟨g, 0, none⟩)] 53))
  have hc1 : (w.alloc (.cells #[.pointer (some ⟨g, 0, none⟩)] 53)).cell? ⟨g, 1, none⟩ = some (.int .i64 f) := by simp [World.cell?, (hB.block g hlt).trans h.cell]
  have e1 : (f != 0) = true := bne_iff_ne.mpr hf
  have hmf : ∀ (fn : Fn) (first cap : Array Value) (w : World), (Instr.makeFunc fn first cap).run Try.prog w = .ok (.func fn first cap) w := fun _ _ _ _ => rfl
  go_enter_defers Try.func58, Try.ntmps58
  go_wp2
  exact ⟨.tuple #[], by simp [results, Try.results58], rfl, hB⟩
set_option maxHeartbeats 1000000 in
theorem field_on59 (w : World) (g N : Nat) (A : Option Addr) (c : Nat) (l : List Int) (h : RdV w g N A c l 0) (caps : Array Value) (Ok Bad : World → Prop)
    (hread : Calls Try.prog 59 caps (w.alloc (.cells #[.pointer (some ⟨g, 0, none⟩)] 53)) fun e w' => w'.heap[w.heap.size]? = some (.cells #[.pointer (some ⟨g, 0, none⟩)] 53 (0, 0)) ∧ ((e = .returned (.tuple #[]) ∧ Ok w') ∨ (e = .panicked (fewP 4) ∧ (∃ A2 c2 l2, RdV w' g N A2 c2 l2 0) ∧ ∀ w2, Kept1 w' w2 g → RdV w2 g N none 0 [] 4 → Bad w2))) :
    Calls Try.prog 58 #[.pointer (some ⟨g, 0, none⟩), .func (.func 59) #[] caps] w fun e w' => e = .returned (.tuple #[]) ∧ (Ok w' ∨ Bad w') := by
  have hlt := h.lt
  have hB := below_alloc (Below.refl w.heap.size w) (.cells #[.pointer (some ⟨g, 0, none⟩)] 53)
  have hcv := cell_of_one (heap_alloc_new w (.cells #[.pointer (some ⟨g, 0, none⟩)] 53))
  have hc1 : (w.alloc (.cells #[.pointer (some ⟨g, 0, none⟩)] 53)).cell? ⟨g, 1, none⟩ = some (.int .i64 0) := by simp [World.cell?, (hB.block g hlt).trans h.cell]
  have HR := Aside0.mk hread
  clear hread
  have hmf : ∀ (fn : Fn) (first cap : Array Value) (w : World), (Instr.makeFunc fn first cap).run Try.prog w = .ok (.func fn first cap) w := fun _ _ _ _ => rfl
  go_enter_defers Try.func58, Try.ntmps58
  go_wp2_with fail
  refine HR.out.mono ?_
  rintro e w1 ⟨hrv, ⟨rfl, hok⟩ | ⟨rfl, ⟨A2, c2, l2, hr2⟩, hbad⟩⟩
  · go_wp2_with fail
    refine leaves_cons (f := 65) (args := #[.pointer (some ⟨w.heap.size, 0, none⟩)]) (by simp) (by simp [go_sem]) ?_
    refine (catch_idle w.heap.size g w1 hrv).mono ?_
    rintro e u' w2 ⟨rfl, rfl, rfl⟩
    exact ⟨.tuple #[], by simp [results, Try.results58], rfl, .inl hok⟩
  · go_wp2_with fail
    refine leaves_cons (f := 65) (args := #[.pointer (some ⟨w.heap.size, 0, none⟩)]) (by simp) (by simp [go_sem]) ?_
    refine (catch_few w.heap.size g N w1 hrv A2 c2 l2 0 hr2).mono ?_
    rintro e u' w2 ⟨rfl, rfl, h1, h2⟩
    exact ⟨.tuple #[], by simp [results, Try.results58], rfl, .inr (hbad w2 h2 h1)⟩
set_option maxHeartbeats 1000000 in
theorem field_on61 (w : World) (g N : Nat) (A : Option Addr) (c : Nat) (l : List Int) (h : RdV w g N A c l 0) (caps : Array Value) (Ok Bad : World → Prop)
    (hread : Calls Try.prog 61 caps (w.alloc (.cells #[.pointer (some ⟨g, 0, none⟩)] 53)) fun e w' => w'.heap[w.heap.size]? = some (.cells #[.pointer (some ⟨g, 0, none⟩)] 53 (0, 0)) ∧ ((e = .returned (.tuple #[]) ∧ Ok w') ∨ (e = .panicked (fewP 4) ∧ (∃ A2 c2 l2, RdV w' g N A2 c2 l2 0) ∧ ∀ w2, Kept1 w' w2 g → RdV w2 g N none 0 [] 4 → Bad w2))) :
    Calls Try.prog 58 #[.pointer (some ⟨g, 0, none⟩), .func (.func 61) #[] caps] w fun e w' => e = .returned (.tuple #[]) ∧ (Ok w' ∨ Bad w') := by
  have hlt := h.lt
  have hB := below_alloc (Below.refl w.heap.size w) (.cells #[.pointer (some ⟨g, 0, none⟩)] 53)
  have hcv := cell_of_one (heap_alloc_new w (.cells #[.pointer (some ⟨g, 0, none⟩)] 53))
  have hc1 : (w.alloc (.cells #[.pointer (some ⟨g, 0, none⟩)] 53)).cell? ⟨g, 1, none⟩ = some (.int .i64 0) := by simp [World.cell?, (hB.block g hlt).trans h.cell]
  have HR := Aside0.mk hread
  clear hread
  have hmf : ∀ (fn : Fn) (first cap : Array Value) (w : World), (Instr.makeFunc fn first cap).run Try.prog w = .ok (.func fn first cap) w := fun _ _ _ _ => rfl
  go_enter_defers Try.func58, Try.ntmps58
  go_wp2_with fail
  refine HR.out.mono ?_
  rintro e w1 ⟨hrv, ⟨rfl, hok⟩ | ⟨rfl, ⟨A2, c2, l2, hr2⟩, hbad⟩⟩
  · go_wp2_with fail
    refine leaves_cons (f := 65) (args := #[.pointer (some ⟨w.heap.size, 0, none⟩)]) (by simp) (by simp [go_sem]) ?_
    refine (catch_idle w.heap.size g w1 hrv).mono ?_
    rintro e u' w2 ⟨rfl, rfl, rfl⟩
    exact ⟨.tuple #[], by simp [results, Try.results58], rfl, .inl hok⟩
  · go_wp2_with fail
    refine leaves_cons (f := 65) (args := #[.pointer (some ⟨w.heap.size, 0, none⟩)]) (by simp) (by simp [go_sem]) ?_
    refine (catch_few w.heap.size g N w1 hrv A2 c2 l2 0 hr2).mono ?_
    rintro e u' w2 ⟨rfl, rfl, h1, h2⟩
    exact ⟨.tuple #[], by simp [results, Try.results58], rfl, .inr (hbad w2 h2 h1)⟩
set_option maxHeartbeats 1000000 in
theorem field_on63 (w : World) (g N : Nat) (A : Option Addr) (c : Nat) (l : List Int) (h : RdV w g N A c l 0) (caps : Array Value) (Ok Bad : World → Prop)
    (hread : Calls Try.prog 63 caps (w.alloc (.cells #[.pointer (some ⟨g, 0, none⟩)] 53)) fun e w' => w'.heap[w.heap.size]? = some (.cells #[.pointer (some ⟨g, 0, none⟩)] 53 (0, 0)) ∧ ((e = .returned (.tuple #[]) ∧ Ok w') ∨ (e = .panicked (fewP 4) ∧ (∃ A2 c2 l2, RdV w' g N A2 c2 l2 0) ∧ ∀ w2, Kept1 w' w2 g → RdV w2 g N none 0 [] 4 → Bad w2))) :
    Calls Try.prog 58 #[.pointer (some ⟨g, 0, none⟩), .func (.func 63) #[] caps] w fun e w' => e = .returned (.tuple #[]) ∧ (Ok w' ∨ Bad w') := by
  have hlt := h.lt
  have hB := below_alloc (Below.refl w.heap.size w) (.cells #[.pointer (some ⟨g, 0, none⟩)] 53)
  have hcv := cell_of_one (heap_alloc_new w (.cells #[.pointer (some ⟨g, 0, none⟩)] 53))
  have hc1 : (w.alloc (.cells #[.pointer (some ⟨g, 0, none⟩)] 53)).cell? ⟨g, 1, none⟩ = some (.int .i64 0) := by simp [World.cell?, (hB.block g hlt).trans h.cell]
  have HR := Aside0.mk hread
  clear hread
  have hmf : ∀ (fn : Fn) (first cap : Array Value) (w : World), (Instr.makeFunc fn first cap).run Try.prog w = .ok (.func fn first cap) w := fun _ _ _ _ => rfl
  go_enter_defers Try.func58, Try.ntmps58
  go_wp2_with fail
  refine HR.out.mono ?_
  rintro e w1 ⟨hrv, ⟨rfl, hok⟩ | ⟨rfl, ⟨A2, c2, l2, hr2⟩, hbad⟩⟩
  · go_wp2_with fail
    refine leaves_cons (f := 65) (args := #[.pointer (some ⟨w.heap.size, 0, none⟩)]) (by simp) (by simp [go_sem]) ?_
    refine (catch_idle w.heap.size g w1 hrv).mono ?_
    rintro e u' w2 ⟨rfl, rfl, rfl⟩
    exact ⟨.tuple #[], by simp [results, Try.results58], rfl, .inl hok⟩
  · go_wp2_with fail
    refine leaves_cons (f := 65) (args := #[.pointer (some ⟨w.heap.size, 0, none⟩)]) (by simp) (by simp [go_sem]) ?_
    refine (catch_few w.heap.size g N w1 hrv A2 c2 l2 0 hr2).mono ?_
    rintro e u' w2 ⟨rfl, rfl, h1, h2⟩
    exact ⟨.tuple #[], by simp [results, Try.results58], rfl, .inr (hbad w2 h2 h1)⟩
end Go.Proofs.Ytbodefikbonjaaa.Q

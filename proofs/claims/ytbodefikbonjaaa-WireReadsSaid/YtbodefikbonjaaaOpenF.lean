/- A slice of the document's fields, as an argument of a law: what its cells hold. -/
import Derived.Test.YtbodefikbonjaaaHLawW
import Derived.Deep.Slices
import Derived.ChangeSlices
import Derived.ChangeArms
import Derived.Lib.SmallJoins
namespace Go.Proofs.Ytbodefikbonjaaa.Q
open Go.RowKit Go.ChangeShapes Go.WideShapes Go.Deep Go.Proofs.YtbodefikbonjaaaW.PrintWords Go.Proofs.YtbodefikbonjaaaW.PrintLast Go.Proofs.YtbodefikbonjaaaW.PrintMore
set_option linter.unusedVariables false
section
variable {H : Type} {enc : TypeId × Value → H} {w : World} {base : Nat} {spare : Nat → Bool} {held : Bool}
theorem u47 : Try.prog.underlying 47 = some (TypeDesc.struct
        #[{ name := "Kind", type := 3, offset := 0, embedded := false, tag := "", pkgPath := "", byteOffset := 0 },
          { name := "Size", type := 3, offset := 1, embedded := false, tag := "", pkgPath := "", byteOffset := 8 },
          { name := "N", type := 34, offset := 2, embedded := false, tag := "", pkgPath := "", byteOffset := 16 },
          { name := "B", type := 22, offset := 3, embedded := false, tag := "", pkgPath := "", byteOffset := 24 }]) := Try.underlying47
instance : Inhabited S47 := ⟨z47⟩
theorem open_field {fuel : Nat} {cs : List Value} {x : DataW H × List MemPlace} (h : DataW.trod enc Try.prog w base spare held fuel 47 cs = some x) : ∃ y : S47, k47.K w y cs ∧ okF y := by
  obtain ⟨y0, y1, y2, y3, n, _, hl, h0, h1, h2, h3⟩ := Go.Joins.trod_struct4 u47 h
  have c47 : Try.prog.cellsOf 47 = 4 := by kernel_rfl
  have c3 : Try.prog.cellsOf 3 = 1 := by kernel_rfl
  have c34 : Try.prog.cellsOf 34 = 1 := by kernel_rfl
  have c22 : Try.prog.cellsOf 22 = 1 := by kernel_rfl
  rw [c47] at hl
  simp only [c3, c34, c22] at h0 h1 h2 h3
  match cs, hl with
  | [v0, v1, v2, v3], _ =>
    obtain ⟨n0, e0, _, w0⟩ := DataW.trod_int Try.underlying3 h0
    obtain ⟨n1, e1, _, w1⟩ := DataW.trod_int Try.underlying3 h1
    obtain ⟨n2, e2, _, w2⟩ := DataW.trod_int Try.underlying34 h2
    simp only [List.drop_zero, List.drop_succ_cons, List.take_succ_cons, List.take_zero, List.cons.injEq, and_true] at e0 e1 e2 h3
    subst e0 e1 e2
    have hw2 : 0 ≤ n2 ∧ n2 ≤ 18446744073709551615 := by simp [Lit.wf, IntKind.min, IntKind.max, IntKind.signed, IntKind.bits] at w2; omega
    rcases open_ints Try.underlying22 Try.underlying5 (by kernel_rfl) h3 with ⟨hcs, _⟩ | ⟨a, l, c, zs, hcs, _, hl, hm, hz, _, hcell, hwz⟩
    · simp only [List.cons.injEq, and_true] at hcs
      subst hcs
      exact ⟨⟨n0, n1, n2, []⟩, k47_mk w ⟨n0, n1, n2, []⟩ (A3 := none) (c3 := 0) (Nat.le_refl _) (Kd.C_nil _ _), hw2, by simp⟩
    · simp only [List.cons.injEq, and_true] at hcs
      subst hcs
      have hlz : l ≤ zs.length := by rw [hz]; split <;> omega
      have hlen : (zs.take l).length = l := by rw [List.length_take]; omega
      refine ⟨⟨n0, n1, n2, zs.take l⟩, ?_, hw2, ?_⟩
      · have := k47_mk w ⟨n0, n1, n2, zs.take l⟩ (A3 := some a) (c3 := c) (by show (zs.take l).length ≤ c; omega) (C_int ⟨rfl, by show (zs.take l).length ≤ _; unfold maxLen at hm; omega, fun _ => ⟨a, rfl, fun j hj => ?_⟩⟩)
        · show k47.K w _ [.int .i64 n0, .int .i64 n1, .int .u64 n2, .slice (some a) l c]
          have e : (zs.take l).length = l := hlen
          simpa only [e] using this
        · have hj' : j < l := by rw [← hlen]; exact hj
          rw [hcell j (by omega)]
          simp [List.getD, hj']
      · intro b hb
        have := hwz b (List.mem_of_mem_take hb)
        simp [Lit.wf, IntKind.min, IntKind.max, IntKind.signed, IntKind.bits] at this
        omega
theorem open_fields {fuel : Nat} {cs : List Value} {x : DataW H × List MemPlace} (h : DataW.trod enc Try.prog w base spare held fuel 40 cs = some x) :
    cs = [.slice none 0 0] ∨ ∃ (a : Addr) (len cap : Nat) (l : List S47), cs = [.slice (some a) len cap] ∧ len ≤ cap ∧ cap ≤ maxLen ∧ l.length = len ∧ Kd.C k47 w (some a) len l ∧ (∀ x ∈ l, okF x) := by
  have c47 : Try.prog.cellsOf 47 = 4 := by kernel_rfl
  rcases open_slice Try.underlying40 h with ⟨hcs, _⟩ | ⟨a, len, cap, m, n, D, Pl, hcs, hb, hl, hm, hmm, _, hx⟩
  · exact .inl hcs
  right
  have hlm : len ≤ m := by rw [hmm]; split <;> omega
  obtain ⟨f, hf⟩ := choose_lt (α := S47) (n := m) (p := fun i y => ∃ cs', w.cells? base (a.add (i * 4)) 4 = some cs' ∧ k47.K w y cs' ∧ okF y) (fun i hi => by
    obtain ⟨cs', h1, h2⟩ := hx i hi
    rw [c47] at h1
    obtain ⟨y, hy1, hy2⟩ := open_field h2
    exact ⟨y, cs', h1, hy1, hy2⟩)
  refine ⟨a, len, cap, (List.range len).map f, hcs, hl, hm, by simp, ⟨by simp, by unfold maxLen at hm; omega, fun _ => ⟨a, rfl, fun j p hp => ?_⟩⟩, ?_⟩
  · have hj : j < len := by
      have := (List.getElem?_eq_some_iff.1 hp).1
      simpa using this
    obtain ⟨cs', h1, h2, _⟩ := hf j (by omega)
    have hpe : f j = p := by simpa [hj] using hp
    obtain ⟨_, hlen, hcell⟩ := World.cells?_some h1
    refine ⟨cs', hlen, by rw [← hpe]; exact h2, fun i u hu => ?_⟩
    have hi : i < 4 := by
      have := (List.getElem?_eq_some_iff.1 hu).1
      omega
    rw [← hu, ← hcell i hi, Deep.add_add]
    rfl
  · intro y hy
    obtain ⟨j, hj, rfl⟩ := List.mem_map.1 hy
    obtain ⟨_, _, _, h3⟩ := hf j (by have := List.mem_range.1 hj; omega)
    exact h3
end
end Go.Proofs.Ytbodefikbonjaaa.Q

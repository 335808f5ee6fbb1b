/- wire.Writer.Out and the law's write, by hand. -/
import Derived.Test.YtbodefikbonjaaaHWriter
import Derived.Laws.BytesArg
namespace Go.Proofs.Ytbodefikbonjaaa.Q
open Go.RowKit Go.Proofs.YtbodefikbonjaaaW.PrintWords Go.Proofs.YtbodefikbonjaaaW.PrintLast Go.Proofs.YtbodefikbonjaaaW.PrintMore
set_option linter.unusedVariables false

set_option maxHeartbeats 1000000 in
theorem out_calls (w : World) (B g : Nat) (v : Value) (l : List Int) (hw : WrV w B g v l) (hl : l.length < 1000000000) :
    Calls Try.prog 32 #[.pointer (some ⟨g, 0, none⟩)] w fun e w' => ∃ v0 : Value, e = .returned v0 ∧ Kd.R (Kd.int .u8) 5 w' w.heap.size (fun _ => True) v0 l ∧ Below w.heap.size w w' := by
  have hc := cell_of_one hw.cell
  obtain ⟨A, c, rfl, hcc, hC⟩ := Kd.R_reads hw.row
  have HQ := Aside0.mk (slices_Clone_byte_byte.calls A c l l w hC hcc (by rw [slices_Clone_byte_byte.f, if_pos hl]))
  clear hC hw hcc
  go_enter Try.func32, Try.ntmps32
  go_wp2_with fail
  refine HQ.out.mono ?_
  rintro e w1 ⟨v0, rfl, ho, hb⟩
  go_wp2_with fail
  go_ret
  exact ⟨_, rfl, ho, hb⟩

theorem conv_C (w : World) (A : Option Addr) (c : Nat) (xs : List Int) (hC : Kd.C (Kd.int .u8) w A xs.length xs) : (convert 22 9 (.slice A xs.length c)).run Try.prog w = .ok (.string (strOfNums xs)) w := by
  rcases A with _ | ad
  · have hn : xs = [] := by
      rcases hq : xs with _ | ⟨x, t⟩
      · rfl
      · obtain ⟨_, e, _⟩ := Kd.at_int hC 0 (by omega) (by rw [hq]; simp <;> omega)
        cases e
    subst hn
    exact run_convert_bytes_nil w 22 5 Try.underlying22 Try.underlying5 _ _ 9 Try.underlying9
  · have hl : (loadCells ad xs.length).run Try.prog w = .ok (xs.map (Value.int .u8)).toArray w := by
      have := run_loadCells_list (P := Try.prog) w ad (xs.map (Value.int .u8)) (fun j v hj => by
        have hjl : j < xs.length := by
          rcases Nat.lt_or_ge j xs.length with h | h
          · exact h
          · simp [List.getElem?_eq_none (show (xs.map (Value.int .u8)).length ≤ j by simpa using h)] at hj
        obtain ⟨_, e, hx⟩ := Kd.at_int hC (j : Int) (by omega) (by omega)
        cases e
        rw [Int.toNat_natCast] at hx
        rw [hx]
        simp [List.getElem?_eq_getElem hjl] at hj
        subst hj
        simp [rd, List.getD, List.getElem?_eq_getElem hjl])
      simpa using this
    rw [run_convert_bytes_string w 22 9 5 _ _ c Try.underlying22 Try.underlying5 Try.underlying9, run_bytesToString w _ _ c xs hl, foldl_push_bytes]
    simp [strOfNums, ByteArray.empty, ByteArray.emptyWithCapacity]
    rfl
theorem bytes_strs (l : List Int) (h : ∀ b ∈ l, 0 ≤ b ∧ b < 256) : bytesOf (strOfNums l) = l := by
  unfold bytesOf
  rw [strOfNums_data, List.map_map]
  conv => rhs; rw [← List.map_id l]
  apply List.map_congr_left
  intro b hb
  have := h b hb
  simp
  omega
/-- What a field writes. -/
def wrB (x : S47) : List Int := if x.f0 = 0 then [x.f2 % 256] else if x.f0 = 1 then (if x.f1 < 1 ∨ 8 < x.f1 then [] else putL x.f2 x.f1.toNat) else if x.f0 = 2 then fieldB x.f3 else []

set_option maxHeartbeats 2000000 in
theorem write_calls (w : World) (B g : Nat) (v : Value) (l : List Int) (x : S47) (A3 : Option Addr) (c3 : Nat) (text : Bool) (hw : WrV w B g v l) (hB : B ≤ w.heap.size) (hr3 : ∀ w', Below B w w' → Kd.C (Kd.int .u8) w' A3 x.f3.length x.f3) (hc3 : x.f3.length ≤ c3) (h3 : x.f3.length ≤ 300) (h2 : 0 ≤ x.f2 ∧ x.f2 ≤ 18446744073709551615) (h8 : ∀ b ∈ x.f3, 0 ≤ b ∧ b < 256) (hl : l.length < 10000000) :
    Calls Try.prog 30 #[.pointer (some ⟨g, 0, none⟩), .agg #[.int .i64 x.f0, .int .i64 x.f1, .int .u64 x.f2, .slice A3 x.f3.length c3], .bool text] w fun e w' => e = .returned (.tuple #[]) ∧ ∃ v', WrV w' B g v' (l ++ wrB x) ∧ Below B w w' ∧ Turned w w' g v v' := by
  have HW := Aside0.mk hw
  have HR := Aside0.mk hr3
  have HB := Aside0.mk hB
  have hL := Aside0.mk hl
  have hb : ∀ cs, Below w.heap.size w (w.alloc (.cells cs 47)) := fun cs => below_alloc (Below.refl _ _) _
  unfold wrB
  by_cases k0 : x.f0 = 0
  · rw [if_pos k0]
    have e0 : (x.f0 == 0) = true := beq_iff_eq.mpr k0
    clear hw hr3 hc3 h3 h2 h8 hl hB
    go_enter Try.func30, Try.ntmps30
    go_wp2_with fail
    refine (byte_calls _ B g v l (x.f2 % 256) (HW.out.below (hb _)) (Nat.le_trans HB.out (hb _).size) (by have := hL.out; omega)).mono ?_
    rintro e w2 ⟨rfl, v2, h1, h2, h3⟩
    go_wp2_with fail
    go_end0
    exact ⟨rfl, v2, h1, ((hb _).mono HB.out).trans h2, (Turned.of_below v (hb _)).trans h3⟩
  · rw [if_neg k0]
    have e0 : (x.f0 == 0) = false := beq_eq_false_iff_ne.mpr k0
    by_cases k1 : x.f0 = 1
    · rw [if_pos k1]
      have e1 : (x.f0 == 1) = true := beq_iff_eq.mpr k1
      have hp : num_Put.f x.f2 x.f1 = some (if x.f1 < 1 ∨ 8 < x.f1 then [] else putL x.f2 x.f1.toNat) := by rw [num_Put.f, if_pos h2]
      have hp8 : (if x.f1 < 1 ∨ 8 < x.f1 then [] else putL x.f2 x.f1.toNat).length ≤ 8 := by
        split
        · simp
        · simp [putL]; omega
      generalize (if x.f1 < 1 ∨ 8 < x.f1 then [] else putL x.f2 x.f1.toNat) = rr at hp hp8 ⊢
      have HP := Aside0.mk hp
      have HP8 := Aside0.mk hp8
      clear hw hr3 hc3 h3 h2 h8 hl hB hp hp8
      go_enter Try.func30, Try.ntmps30
      go_wp2_with fail
      refine (number_calls _ B g v l x.f2 x.f1 _ (HW.out.below (hb _)) (Nat.le_trans HB.out (hb _).size) HP.out (by have := hL.out; have := HP8.out; omega)).mono ?_
      rintro e w2 ⟨rfl, v2, h1, h2, h3⟩
      go_wp2_with fail
      go_end0
      exact ⟨rfl, v2, h1, ((hb _).mono HB.out).trans h2, (Turned.of_below v (hb _)).trans h3⟩
    · rw [if_neg k1]
      have e1 : (x.f0 == 1) = false := beq_eq_false_iff_ne.mpr k1
      by_cases k2 : x.f0 = 2
      · rw [if_pos k2]
        have e2 : (x.f0 == 2) = true := beq_iff_eq.mpr k2
        cases text
        · have H3 := Aside0.mk h3
          have HC := Aside0.mk hc3
          clear hw hr3 hc3 h3 h2 h8 hl hB
          go_enter Try.func30, Try.ntmps30
          go_wp2_with fail
          refine (bytes_calls _ B g v l A3 c3 x.f3 (HW.out.below (hb _)) (Nat.le_trans HB.out (hb _).size) (fun w' v' _ hbb => HR.out w' (((hb _).mono HB.out).trans hbb)) HC.out (by have := H3.out; omega) (by have := hL.out; have := H3.out; omega)).mono ?_
          rintro e w2 ⟨rfl, v2, h1, h2, h3⟩
          go_wp2_with fail
          go_end0
          exact ⟨rfl, v2, h1, ((hb _).mono HB.out).trans h2, (Turned.of_below v (hb _)).trans h3⟩
        · have H3 := Aside0.mk h3
          have hcv := fun cs => conv_C (w.alloc (.cells cs 47)) A3 c3 x.f3 (hr3 _ ((hb cs).mono hB))
          have HS := Aside0.mk (bytes_strs x.f3 h8)
          clear hw hr3 hc3 h3 h2 h8 hl hB
          go_enter Try.func30, Try.ntmps30
          go_wp2_with fail
          refine (text_calls _ B g v l (strOfNums x.f3) (HW.out.below (hb _)) (Nat.le_trans HB.out (hb _).size) (by rw [strOfNums_size]; have := H3.out; omega) (by rw [strOfNums_size]; have := hL.out; have := H3.out; omega)).mono ?_
          rw [HS.out]
          rintro e w2 ⟨rfl, v2, h1, h2, h3⟩
          go_wp2_with fail
          go_end0
          exact ⟨rfl, v2, h1, ((hb _).mono HB.out).trans h2, (Turned.of_below v (hb _)).trans h3⟩
      · rw [if_neg k2, List.append_nil]
        have e2 : (x.f0 == 2) = false := beq_eq_false_iff_ne.mpr k2
        clear hr3 hc3 h3 h2 h8 hl
        go_enter Try.func30, Try.ntmps30
        go_wp2_with fail
        go_end0
        exact ⟨rfl, v, HW.out.below (hb _), (hb _).mono HB.out, Turned.of_below v (hb _)⟩
end Go.Proofs.Ytbodefikbonjaaa.Q

/- The document's Take, by hand: a field at the beginning of bytes. -/
import Derived.Test.YtbodefikbonjaaaHRead2
namespace Go.Proofs.Ytbodefikbonjaaa.Q
open Go.RowKit Go.Proofs.YtbodefikbonjaaaW.PrintWords Go.Proofs.YtbodefikbonjaaaW.PrintLast Go.Proofs.YtbodefikbonjaaaW.PrintMore
set_option linter.unusedVariables false

/-- A field at the beginning of b, its size, whether there is one. -/
def takeR (b : List Int) (k s : Int) : S47 × Int × Bool :=
  if k = 0 then (if 1 ≤ b.length then (⟨0, 0, rd b 0, []⟩, 1, true) else (z47, 0, false))
  else if k = 1 then (if 1 ≤ s ∧ s ≤ 8 ∧ s ≤ b.length then (⟨1, s, Pure.getV (b.take s.toNat), []⟩, s, true) else (z47, 0, false))
  else if bytesIs b s then (⟨2, 0, 0, (b.drop 2).take (bytesN b).toNat⟩, 2 + bytesN b, true) else (z47, 0, false)
/-- What Take hands back. -/
def TakeP (A : Option Addr) (b : List Int) (w : World) (R : S47 × Int × Bool) (e : Ending) (w' : World) : Prop :=
  ∃ A3 c3, e = .returned (.tuple #[.agg #[.int .i64 R.1.f0, .int .i64 R.1.f1, .int .u64 R.1.f2, .slice A3 R.1.f3.length c3], .int .i64 R.2.1, .bool R.2.2]) ∧ Below w.heap.size w w' ∧ R.1.f3.length ≤ c3 ∧ ∀ W : World, Kd.C (Kd.int .u8) W A b.length b → Kd.C (Kd.int .u8) W A3 R.1.f3.length R.1.f3

theorem set_at {w : World} {b : Nat} {cs : Array Value} {t : TypeId} (h : w.heap[b]? = some (.cells cs t (0, 0))) (i : Nat) (y : Value) : (w.setCell ⟨b, i, none⟩ y).heap[b]? = some (.cells (cs.setIfInBounds i y) t (0, 0)) := by
  have hlt : b < w.heap.size := (Array.getElem?_eq_some_iff.1 h).1
  have h' : w.heap[b] = .cells cs t (0, 0) := by simpa [Array.getElem?_eq_getElem hlt] using h
  show (w.heap.modify b _)[b]? = _
  rw [Array.getElem?_eq_getElem (by simpa using hlt), Array.getElem_modify_self, h']
  rfl
theorem bytesN_eq (b : List Int) (h : 2 ≤ b.length) : bytesN b = rd b 0 * 256 + rd b 1 := by
  match b, h with
  | x :: y :: t, _ => simp [bytesN, Pure.getV, rd]
theorem yes_len (b : List Int) (x : Int) (h0 : 0 ≤ x) (h : x ≤ (b.length : Int) - 2) : (2 + x).toNat - 2 = (List.take x.toNat (List.drop 2 b)).length := by
  rw [List.length_take, List.length_drop]; omega
theorem yes_C (A : Option Addr) (c : Nat) (b : List Int) (x : Int) (hc : b.length ≤ c) (h0 : 0 ≤ x) (h : x ≤ (b.length : Int) - 2) (w : World) (hr : Kd.C (Kd.int .u8) w A b.length b) :
    Kd.C (Kd.int .u8) w (if c = 2 then A else A.map (·.add 2)) (List.take x.toNat (List.drop 2 b)).length (List.take x.toNat (List.drop 2 b)) := by
  have hd := Kd.C_drop hr (show 2 ≤ b.length by omega) hc
  rw [show 2 * (Kd.int .u8).sz = 2 from rfl] at hd
  exact Kd.C_take hd (by rw [List.length_drop]; omega)
theorem yes_len2 (x : Int) (b : List Int) (c : Nat) (hc : b.length ≤ c) : (List.take x.toNat (List.drop 2 b)).length ≤ c - 2 := by
  rw [List.length_take, List.length_drop]; omega
set_option maxHeartbeats 2000000 in
theorem take_ref (w : World) (A : Option Addr) (c : Nat) (b : List Int) (k s : Int) (hr : Kd.C (Kd.int .u8) w A b.length b) (hc : b.length ≤ c) (hu : u8L b) (hl : b.length < 1000000) :
    Calls Try.prog 39 #[.slice A b.length c, .int .i64 k, .int .i64 s] w (TakeP A b w (takeR b k s)) := by
  obtain ⟨W1, hW1⟩ : ∃ W1, W1 = w.alloc (.cells #[.int .i64 0, .int .i64 0, .int .u64 0, .slice none 0 0] 47) := ⟨_, rfl⟩
  have hbx : W1.heap[w.heap.size]? = some (.cells #[.int .i64 0, .int .i64 0, .int .u64 0, .slice none 0 0] 47 (0, 0)) := by rw [hW1]; exact heap_alloc_new w _
  have hs1 : W1.heap.size = w.heap.size + 1 := by rw [hW1, size_alloc]
  have HB := Aside0.mk (show Below w.heap.size w W1 by rw [hW1]; exact below_alloc (Below.refl _ _) _)
  have hc0 : W1.cell? ⟨w.heap.size, 0, none⟩ = some (.int .i64 0) := by simp [World.cell?, hbx]
  have hc1 : W1.cell? ⟨w.heap.size, 1, none⟩ = some (.int .i64 0) := by simp [World.cell?, hbx]
  have hc2 : W1.cell? ⟨w.heap.size, 2, none⟩ = some (.int .u64 0) := by simp [World.cell?, hbx]
  have hc3 : W1.cell? ⟨w.heap.size, 3, none⟩ = some (.slice none 0 0) := by simp [World.cell?, hbx]
  have hf0 : W1.frozen? ⟨w.heap.size, 0, none⟩ = false := by simp [World.frozen?, hbx]
  have hf1 : W1.frozen? ⟨w.heap.size, 1, none⟩ = false := by simp [World.frozen?, hbx]
  have hf2 : W1.frozen? ⟨w.heap.size, 2, none⟩ = false := by simp [World.frozen?, hbx]
  have hf3 : W1.frozen? ⟨w.heap.size, 3, none⟩ = false := by simp [World.frozen?, hbx]
  unfold takeR
  by_cases k0 : k = 0
  · have e0 : (k == 0) = true := beq_iff_eq.mpr k0
    rw [if_pos k0]
    by_cases h1 : 1 ≤ b.length
    · rw [if_pos h1]
      have e1 : decide ((b.length : Int) < 1) = false := decide_eq_false (by omega)
      obtain ⟨ad, ea, hx⟩ := Kd.at_int (Kd.C_below hr HB.out) 0 (by omega) (by omega)
      cases ea
      replace hx : W1.cell? ad = some (.int .u8 (rd b 0)) := by simpa [Addr.add] using hx
      have hpos : (0 < b.length) = True := eq_true (by omega)
      have hwr : IntKind.u64.wrap (rd b 0) = rd b 0 := by have := u8_rd b hu; simp [IntKind.wrap, IntKind.bits, IntKind.signed]; omega
      clear hr hc hu hl h1
      subst hW1
      go_enter Try.func39, Try.ntmps39
      go_wp2_with fail
      exact ⟨rfl, .tuple #[.agg #[.int .i64 0, .int .i64 0, .int .u64 (rd b 0), .slice none 0 0], .int .i64 1, .bool true], by simp [results, Try.results39, go_sem], none, 0, rfl, below_alloc (Below.refl _ _) _, Nat.le_refl _, fun _ _ => Kd.C_nil _ _⟩
    · rw [if_neg h1]
      have e1 : decide ((b.length : Int) < 1) = true := decide_eq_true (by omega)
      clear hr hc hu hl h1
      subst hW1
      go_enter Try.func39, Try.ntmps39
      go_wp2_with fail
      exact ⟨rfl, .tuple #[.agg #[.int .i64 0, .int .i64 0, .int .u64 0, .slice none 0 0], .int .i64 0, .bool false], by simp [results, Try.results39, go_sem], none, 0, rfl, below_alloc (Below.refl _ _) _, Nat.le_refl _, fun _ _ => Kd.C_nil _ _⟩
  · rw [if_neg k0]
    have e0 : (k == 0) = false := beq_eq_false_iff_ne.mpr k0
    by_cases k1 : k = 1
    · rw [if_pos k1]
      have e1 : (k == 1) = true := beq_iff_eq.mpr k1
      by_cases s1 : s < 1
      · rw [if_neg (by omega)]
        have e2 : decide (s < 1) = true := decide_eq_true s1
        clear hr hc hu hl
        subst hW1
        go_enter Try.func39, Try.ntmps39
        go_wp2_with fail
        exact ⟨rfl, .tuple #[.agg #[.int .i64 0, .int .i64 0, .int .u64 0, .slice none 0 0], .int .i64 0, .bool false], by simp [results, Try.results39, go_sem], none, 0, rfl, below_alloc (Below.refl _ _) _, Nat.le_refl _, fun _ _ => Kd.C_nil _ _⟩
      · have e2 : decide (s < 1) = false := decide_eq_false s1
        by_cases s8 : 8 < s
        · rw [if_neg (by omega)]
          have e3 : decide (8 < s) = true := decide_eq_true s8
          clear hr hc hu hl
          subst hW1
          go_enter Try.func39, Try.ntmps39
          go_wp2_with fail
          exact ⟨rfl, .tuple #[.agg #[.int .i64 0, .int .i64 0, .int .u64 0, .slice none 0 0], .int .i64 0, .bool false], by simp [results, Try.results39, go_sem], none, 0, rfl, below_alloc (Below.refl _ _) _, Nat.le_refl _, fun _ _ => Kd.C_nil _ _⟩
        · have e3 : decide (8 < s) = false := decide_eq_false s8
          by_cases sl : (b.length : Int) < s
          · rw [if_neg (by omega)]
            have e4 : decide ((b.length : Int) < s) = true := decide_eq_true sl
            clear hr hc hu hl
            subst hW1
            go_enter Try.func39, Try.ntmps39
            go_wp2_with fail
            exact ⟨rfl, .tuple #[.agg #[.int .i64 0, .int .i64 0, .int .u64 0, .slice none 0 0], .int .i64 0, .bool false], by simp [results, Try.results39, go_sem], none, 0, rfl, below_alloc (Below.refl _ _) _, Nat.le_refl _, fun _ _ => Kd.C_nil _ _⟩
          · have e4 : decide ((b.length : Int) < s) = false := decide_eq_false sl
            rw [if_pos ⟨by omega, by omega, by omega⟩]
            obtain ⟨n, rfl⟩ := Int.eq_ofNat_of_zero_le (show 0 ≤ s by omega)
            rw [Int.toNat_natCast]
            have hln : (b.take n).length = n := by rw [List.length_take]; omega
            obtain ⟨K, hK⟩ := Pure.refget_ev (b.take n) (fun x hx => hu x (List.mem_of_mem_take hx))
            have hC := Kd.C_take (Kd.C_below hr HB.out) (show n ≤ b.length by omega)
            have hG := oublietteref01_Get.calls K A c (b.take n) (Pure.getV (b.take n)) 0 W1 hC (by omega) (by rw [hK K (Nat.le_refl _), Pure.getR, if_neg (by omega)])
            rw [hln] at hG
            have HG := Aside0.mk hG
            have hnc : (n ≤ c) = True := eq_true (by omega)
            have hnl : (n ≤ b.length) = True := eq_true (by omega)
            clear hr hc hu hl hC hG hK hln
            subst hW1
            go_enter Try.func39, Try.ntmps39
            go_wp2_with fail
            refine HG.out.mono ?_
            rintro e w2 ⟨rfl, hd⟩
            obtain ⟨m, rfl⟩ := hd.out
            go_wp2_with fail
            have hfin := set_at (set_at (set_at (set_at (show ((w.alloc (.cells #[.int .i64 0, .int .i64 0, .int .u64 0, .slice none 0 0] 47)).drewN m).heap[w.heap.size]? = _ from hbx) 0 (.int .i64 1)) 1 (.int .i64 n)) 2 (.int .u64 (Pure.getV (b.take n)))) 3 (.slice none 0 0)
            have hbel := (((((pw_below_drewN HB.out m).setCell (p := ⟨w.heap.size, 0, none⟩) (Nat.le_refl _) (.int .i64 1)).setCell (p := ⟨w.heap.size, 1, none⟩) (Nat.le_refl _) (.int .i64 n)).setCell (p := ⟨w.heap.size, 2, none⟩) (Nat.le_refl _) (.int .u64 (Pure.getV (b.take n)))).setCell (p := ⟨w.heap.size, 3, none⟩) (Nat.le_refl _) (.slice none 0 0))
            refine ⟨rfl, .tuple #[.agg #[.int .i64 1, .int .i64 n, .int .u64 (Pure.getV (b.take n)), .slice none 0 0], .int .i64 n, .bool true], ?_, none, 0, rfl, hbel, Nat.le_refl _, fun _ _ => Kd.C_nil _ _⟩
            clear hbx hc0 hc1 hc2 hc3 hf0 hf1 hf2 hf3
            generalize ((((((w.alloc (.cells #[.int .i64 0, .int .i64 0, .int .u64 0, .slice none 0 0] 47)).drewN m).setCell ⟨w.heap.size, 0, none⟩ (.int .i64 1)).setCell ⟨w.heap.size, 1, none⟩ (.int .i64 n)).setCell ⟨w.heap.size, 2, none⟩ (.int .u64 (Pure.getV (b.take n)))).setCell ⟨w.heap.size, 3, none⟩ (.slice none 0 0)) = W9 at hfin ⊢
            have g0 : W9.cell? ⟨w.heap.size, 0, none⟩ = some (.int .i64 1) := by simp [World.cell?, hfin]
            have g1 : W9.cell? ⟨w.heap.size, 1, none⟩ = some (.int .i64 n) := by simp [World.cell?, hfin]
            have g2 : W9.cell? ⟨w.heap.size, 2, none⟩ = some (.int .u64 (Pure.getV (b.take n))) := by simp [World.cell?, hfin]
            have g3 : W9.cell? ⟨w.heap.size, 3, none⟩ = some (.slice none 0 0) := by simp [World.cell?, hfin]
            simp [results, Try.results39, go_sem, g0, g1, g2, g3]
    · rw [if_neg k1]
      have e1 : (k == 1) = false := beq_eq_false_iff_ne.mpr k1
      by_cases l2 : b.length < 2
      · rw [if_neg (fun h => by have := h.1; omega)]
        have e2 : decide ((b.length : Int) < 2) = true := decide_eq_true (by omega)
        clear hr hc hu hl
        subst hW1
        go_enter Try.func39, Try.ntmps39
        go_wp2_with fail
        exact ⟨rfl, .tuple #[.agg #[.int .i64 0, .int .i64 0, .int .u64 0, .slice none 0 0], .int .i64 0, .bool false], by simp [results, Try.results39, go_sem], none, 0, rfl, below_alloc (Below.refl _ _) _, Nat.le_refl _, fun _ _ => Kd.C_nil _ _⟩
      · have e2 : decide ((b.length : Int) < 2) = false := decide_eq_false (by omega)
        have hbn := bytesN_eq b (by omega)
        obtain ⟨ad, ea, hx⟩ := Kd.at_int (Kd.C_below hr HB.out) 0 (by omega) (by omega)
        cases ea
        replace hx : W1.cell? ad = some (.int .u8 (rd b 0)) := by simpa [Addr.add] using hx
        obtain ⟨ad1, ea1, hx1⟩ := Kd.at_int (Kd.C_below hr HB.out) 1 (by omega) (by omega)
        cases ea1
        replace hx1 : W1.cell? ⟨ad.block, ad.off + 1, none⟩ = some (.int .u8 (rd b 1)) := hx1
        have hr0 := u8_rd b hu
        have hr1 : 0 ≤ rd b 1 ∧ rd b 1 ≤ 255 := by
          match b, l2 with
          | x :: y :: t, _ => exact Pure.u8_of (hu y (by simp))
          | [x], h => simp at h
          | [], h => simp at h
        have w1 : wrap64 (rd b 0) = rd b 0 := by unfold wrap64; omega
        have w2 : wrap64 (rd b 1) = rd b 1 := by unfold wrap64; omega
        have w3 : wrap64 (rd b 0 * 256) = rd b 0 * 256 := by unfold wrap64; omega
        have w4 : wrap64 (rd b 0 * 256 + rd b 1) = bytesN b := by rw [hbn]; unfold wrap64; omega
        have w5 : wrap64 ((b.length : Int) - 2) = b.length - 2 := by unfold wrap64; omega
        have w6 : wrap64 (2 + bytesN b) = 2 + bytesN b := by rw [hbn]; unfold wrap64; omega
        have hp0 : (0 < b.length) = True := eq_true (by omega)
        have hp1 : ((1 : Int) < b.length) = True := eq_true (by omega)
        by_cases n1 : (b.length : Int) - 2 < bytesN b
        · rw [if_neg (fun h => by have := h.2.2; omega)]
          have e3 : decide ((b.length : Int) - 2 < rd b 0 * 256 + rd b 1) = true := decide_eq_true (by rw [← hbn]; exact n1)
          clear hr hc hu hl hbn
          subst hW1
          go_enter Try.func39, Try.ntmps39
          go_wp2_with fail
          go_region
          go_wp2_with fail
          exact ⟨rfl, .tuple #[.agg #[.int .i64 0, .int .i64 0, .int .u64 0, .slice none 0 0], .int .i64 0, .bool false], by simp [results, Try.results39, go_sem], none, 0, rfl, below_drew (below_alloc (Below.refl _ _) _), Nat.le_refl _, fun _ _ => Kd.C_nil _ _⟩
        · have e3 : decide ((b.length : Int) - 2 < rd b 0 * 256 + rd b 1) = false := decide_eq_false (by rw [← hbn]; exact n1)
          by_cases n2 : s < bytesN b
          · rw [if_neg (fun h => by have := h.2.1; omega)]
            have e4 : decide (s < rd b 0 * 256 + rd b 1) = true := decide_eq_true (by rw [← hbn]; exact n2)
            clear hr hc hu hl hbn
            subst hW1
            go_enter Try.func39, Try.ntmps39
            go_wp2_with fail
            go_region
            go_wp2_with fail
            exact ⟨rfl, .tuple #[.agg #[.int .i64 0, .int .i64 0, .int .u64 0, .slice none 0 0], .int .i64 0, .bool false], by simp [results, Try.results39, go_sem], none, 0, rfl, below_drew (below_alloc (Below.refl _ _) _), Nat.le_refl _, fun _ _ => Kd.C_nil _ _⟩
          · rw [if_pos ⟨by omega, by omega, by omega⟩]
            have e4 : decide (s < rd b 0 * 256 + rd b 1) = false := decide_eq_false (by rw [← hbn]; exact n2)
            have b1 : ((2 : Int) ≤ 2 + (rd b 0 * 256 + rd b 1)) = True := eq_true (by omega)
            have b2 : (2 + (rd b 0 * 256 + rd b 1) ≤ (c : Int)) = True := eq_true (by omega)
            have HL := Aside0.mk (yes_len b (rd b 0 * 256 + rd b 1) (by omega) (by rw [← hbn]; omega))
            have HC := Aside0.mk (yes_C (some ad) c b (rd b 0 * 256 + rd b 1) hc (by omega) (by rw [← hbn]; omega))
            have HL2 := Aside0.mk (yes_len2 (rd b 0 * 256 + rd b 1) b c hc)
            clear hr hc hu hl
            subst hW1
            go_enter Try.func39, Try.ntmps39
            go_wp2_with fail
            go_region
            go_wp2_with fail
            all_goals rw [HL.out]
            · have hcc : c = 2 := by assumption
              have HC2 := HC.out
              rw [if_pos hcc] at HC2
              have HL3 := HL2.out
              rw [hcc] at HL3
              exact ⟨rfl, .tuple #[.agg #[.int .i64 2, .int .i64 0, .int .u64 0, .slice (some ad) (List.take (rd b 0 * 256 + rd b 1).toNat (List.drop 2 b)).length 0], .int .i64 (2 + (rd b 0 * 256 + rd b 1)), .bool true], by simp [results, Try.results39, go_sem], some ad, 0, rfl, below_drew (below_alloc (Below.refl _ _) _), HL3, fun W h => (HC2 W h)⟩
            · have hcc : ¬ c = 2 := by assumption
              have HC2 := HC.out
              rw [if_neg hcc] at HC2
              exact ⟨rfl, .tuple #[.agg #[.int .i64 2, .int .i64 0, .int .u64 0, .slice (some (ad.add 2)) (List.take (rd b 0 * 256 + rd b 1).toNat (List.drop 2 b)).length (c - 2)], .int .i64 (2 + (rd b 0 * 256 + rd b 1)), .bool true], by simp [results, Try.results39, go_sem, Addr.add], some (ad.add 2), c - 2, rfl, below_drew (below_alloc (Below.refl _ _) _), HL2.out, fun W h => (HC2 W h)⟩
end Go.Proofs.Ytbodefikbonjaaa.Q

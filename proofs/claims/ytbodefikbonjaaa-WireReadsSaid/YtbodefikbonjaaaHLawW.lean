/- WireWrites, by hand: a writer's bytes are, field for field, the document's. -/
import Derived.Test.YtbodefikbonjaaaHWrite
import Derived.Test.YtbodefikbonjaaaQw1
import Derived.Test.YtbodefikbonjaaaRefWire
namespace Go.Proofs.Ytbodefikbonjaaa.Q
open Go.RowKit Go.Proofs.YtbodefikbonjaaaW.PrintWords Go.Proofs.YtbodefikbonjaaaW.PrintLast Go.Proofs.YtbodefikbonjaaaW.PrintMore
set_option linter.unusedVariables false

theorem wr_new (w : World) : WrV (w.alloc (.cells #[.slice none 0 0] 44)) w.heap.size w.heap.size (.slice none 0 0) [] :=
  ⟨Nat.le_refl _, heap_alloc_new w _, Kd.R_nil _ _ _ _ _⟩
theorem lit_C (w : World) (l : List Int) (hl : l.length ≤ 9223372036854775807) : Kd.C (Kd.int .u8) (w.alloc (.cells (l.map (Value.int .u8)).toArray 5)) (some ⟨w.heap.size, 0, none⟩) l.length l := by
  refine C_int ⟨rfl, hl, fun _ => ⟨_, rfl, fun j hj => ?_⟩⟩
  rw [add_plain]
  have := heap_alloc_new w (.cells (l.map (Value.int .u8)).toArray 5)
  simp only [World.cell?, this]
  simp [List.getD, hj]
set_option maxHeartbeats 1000000 in
theorem alive_calls (w : World) : Calls Try.prog 29 #[] w fun e w' => e = .returned (.bool true) ∧ Below w.heap.size w w' := by
  have HT := Aside0.mk (text_calls (w.alloc (.cells #[.slice none 0 0] 44)) w.heap.size w.heap.size (.slice none 0 0) [] ⟨#[97, 98]⟩ (wr_new w) (by simp) (by decide) (by decide))
  have HB := Aside0.mk (below_alloc (Below.refl w.heap.size w) (.cells #[.slice none 0 0] 44))
  have hf : fieldB (bytesOf ⟨#[97, 98]⟩) = [0, 2, 97, 98] := by decide
  go_enter Try.func29, Try.ntmps29
  go_wp2_with fail
  refine HT.out.mono ?_
  rw [List.nil_append, hf]
  rintro e w1 ⟨rfl, v1, h1, h2, h3⟩
  have hb1 := HB.out.trans h2
  go_wp2_with fail
  refine (out_calls w1 w.heap.size w.heap.size v1 _ h1 (by simp)).mono ?_
  rintro e w2 ⟨v0, rfl, ho, hb⟩
  obtain ⟨A, c, rfl, hcc, hC⟩ := Kd.R_reads ho
  have HC := Aside0.mk hC
  have HCC := Aside0.mk hcc
  have HB2 := Aside0.mk (hb1.trans (hb.mono hb1.size))
  go_wp2_with fail
  have hb3 := below_alloc (Below.refl w2.heap.size w2) (.cells #[.int .u8 0, .int .u8 2, .int .u8 97, .int .u8 98] 5)
  obtain ⟨K, hK⟩ := Pure.same_ev [0, 2, 97, 98] [0, 2, 97, 98] (by simp)
  refine (oublietteref01_Same.calls K A c [0, 2, 97, 98] (some ⟨w2.heap.size, 0, none⟩) 4 [0, 2, 97, 98] true _ (Kd.C_below HC.out hb3) HCC.out (lit_C w2 [0, 2, 97, 98] (by simp)) (by simp) (by rw [hK K (Nat.le_refl _)]; rfl)).mono ?_
  rintro e w4 ⟨rfl, hd⟩
  have HB4 := Aside0.mk (below_step HB2.out (hb3.trans (hd.below.mono hb3.size)))
  clear hd hb3
  go_wp2_with fail
  go_ret
  exact ⟨rfl, HB4.out⟩

/-- A field's numbers are what their types bear. -/
def okF (x : S47) : Prop := (0 ≤ x.f2 ∧ x.f2 ≤ 18446744073709551615) ∧ (∀ b ∈ x.f3, 0 ≤ b ∧ b < 256)
/-- A field that the law takes. -/
def ltF (x : S47) : Prop := 0 ≤ x.f0 ∧ x.f0 ≤ 2 ∧ x.f3.length ≤ 300
theorem light_go (l : List S47) (hl : l.length ≤ 40) : ∀ (j i : Nat), i + j = l.length → ∃ b, oubliettelaw05_light.l0 (j + 1) l i = some b ∧ (b = true → ∀ m : Nat, i ≤ m → m < l.length → ltF (rd_T47 l m))
  | 0, i, hi => ⟨true, by rw [oubliettelaw05_light.l0, if_neg (by omega)], fun _ m h1 h2 => by omega⟩
  | j + 1, i, hi => by
    obtain ⟨b, h1, h2⟩ := light_go l hl j (i + 1) (by omega)
    rw [oubliettelaw05_light.l0, if_pos (by omega), if_pos (by omega), show wrap64 ((i : Int) + 1) = ((i + 1 : Nat) : Int) by unfold wrap64; omega, h1]
    by_cases c1 : (rd_T47 l i).f0 < 0
    · exact ⟨false, by rw [if_pos c1], fun h => by cases h⟩
    · rw [if_neg c1]
      by_cases c2 : (rd_T47 l i).f0 > 2
      · exact ⟨false, by rw [if_pos c2], fun h => by cases h⟩
      · rw [if_neg c2]
        by_cases c3 : ((rd_T47 l i).f3.length : Int) > 300
        · exact ⟨false, by rw [if_pos c3], fun h => by cases h⟩
        · rw [if_neg c3]
          refine ⟨b, rfl, fun hb m hm1 hm2 => ?_⟩
          rcases Nat.eq_or_lt_of_le hm1 with rfl | hlt
          · exact ⟨by omega, by omega, by omega⟩
          · exact h2 hb m hlt hm2
theorem light_eq (l : List S47) : ∃ b, oubliettelaw05_light.f (l.length + 1) l = some b ∧ (b = true → l.length ≤ 40 ∧ ∀ m : Nat, m < l.length → ltF (rd_T47 l m)) := by
  unfold oubliettelaw05_light.f
  by_cases h : (l.length : Int) > 40
  · exact ⟨false, by rw [if_pos h], fun h => by cases h⟩
  · rw [if_neg h]
    obtain ⟨b, h1, h2⟩ := light_go l (by omega) l.length 0 (by omega)
    exact ⟨b, h1, fun hb => ⟨by omega, fun m hm => h2 hb m (Nat.zero_le _) hm⟩⟩
theorem join_eq (a b : List Int) (ha : a.length < 1000000) (hb : b.length < 1000000) : oublietteref01_Join.f a b = some (a ++ b) := by
  unfold oublietteref01_Join.f
  rw [if_pos (by simp; omega), Option.bind_some, if_pos (by simp; omega), List.nil_append]

attribute [local go_sem] min2_int min_two in
set_option maxHeartbeats 2000000 in
/-- The document's bytes of a field. -/
theorem refB_calls (w : World) (x : S47) (A3 : Option Addr) (c3 : Nat) (hr3 : Kd.C (Kd.int .u8) w A3 x.f3.length x.f3) (hc3 : x.f3.length ≤ c3) (hx : ltF x) (h2 : 0 ≤ x.f2 ∧ x.f2 ≤ 18446744073709551615) :
    Calls Try.prog 31 #[.agg #[.int .i64 x.f0, .int .i64 x.f1, .int .u64 x.f2, .slice A3 x.f3.length c3]] w fun e w' => ∃ v0 : Value, e = .returned v0 ∧ Kd.R (Kd.int .u8) 5 w' w.heap.size (fun _ => True) v0 (wrB x) ∧ Below w.heap.size w w' := by
  have hb : ∀ cs, Below w.heap.size w (w.alloc (.cells cs 47)) := fun cs => below_alloc (Below.refl _ _) _
  unfold wrB
  by_cases k0 : x.f0 = 0
  · rw [if_pos k0]
    have e0 : (x.f0 == 0) = true := beq_iff_eq.mpr k0
    clear hr3 hc3 hx h2
    go_enter Try.func31, Try.ntmps31
    go_wp2_with (first | ((with_reducible refine gate_dst (N := 11) rfl ?_); refine Kd.R_lit (Kd.int .u8) _ 5 ?hg (N := 11) ?hd (xs := ([x.f2 % 256] : List Int)) (inner := [.int .u8 (x.f2 % 256)]) (ok := fun _ => True) (okp := fun _ => True) ?hr ?hp (fun _ hk => hk) trivial (Below.refl _ _) (Nat.le_refl _) (by simp) ?_; (case hd => rfl); (case hg => rfl); (case hr => first | (go_simp; done) | (go_simp; rfl)); (case hp => exact (Reps.one (show Kd.M (Kd.int .u8) _ _ _ (x.f2 % 256) [.int .u8 (x.f2 % 256)] from rfl) (Reps.none _ _))); intro v1 w5 ho6 hb6 hg_ hnew_; clear hg_ hnew_; have HO := Aside0.mk (Kd.R_lower ho6 (hb _).size); have HB := Aside0.mk (below_step (hb _) hb6); clear ho6 hb6))
    go_ret
    exact ⟨_, rfl, HO.out, HB.out⟩
  · rw [if_neg k0]
    have e0 : (x.f0 == 0) = false := beq_eq_false_iff_ne.mpr k0
    by_cases k1 : x.f0 = 1
    · rw [if_pos k1]
      have e1 : (x.f0 == 1) = true := beq_iff_eq.mpr k1
      obtain ⟨K, hK⟩ := Pure.put_ev x.f2 x.f1 h2.1 h2.2
      have HP := Aside0.mk (hK K (Nat.le_refl _))
      generalize (if x.f1 < 1 ∨ 8 < x.f1 then [] else putL x.f2 x.f1.toNat) = rr at HP ⊢
      clear hr3 hc3 hx h2 hK
      go_enter Try.func31, Try.ntmps31
      go_wp2_with fail
      refine (oublietteref01_Put.calls K x.f2 x.f1 rr _ HP.out).mono ?_
      rintro e w2 ⟨v0, rfl, ho, hb2⟩
      have HO := Aside0.mk (Kd.R_lower ho (hb #[.int .i64 1, .int .i64 x.f1, .int .u64 x.f2, .slice A3 x.f3.length c3]).size)
      have HB := Aside0.mk (below_step (hb _) hb2)
      clear ho hb2
      go_wp2_with fail
      go_ret
      exact ⟨_, rfl, HO.out, HB.out⟩
    · rw [if_neg k1]
      have e1 : (x.f0 == 1) = false := beq_eq_false_iff_ne.mpr k1
      have k2 : x.f0 = 2 := by have := hx.1; have := hx.2.1; omega
      rw [if_pos k2]
      have H3 := Aside0.mk hx.2.2
      have HC := Aside0.mk hc3
      have hcc : (x.f3.length ≤ c3) = True := eq_true hc3
      have hlt : ((65535 : Int) < x.f3.length) = False := eq_false (by have := hx.2.2; omega)
      have hwr : IntKind.u64.wrap (x.f3.length : Int) = x.f3.length := by have := hx.2.2; simp [IntKind.wrap, IntKind.bits, IntKind.signed]; omega
      obtain ⟨K, hK⟩ := Pure.put_ev (x.f3.length : Int) 2 (by omega) (by have := hx.2.2; omega)
      have HP := Aside0.mk (hK K (Nat.le_refl _))
      rw [if_neg (by omega), show ((2 : Int).toNat) = 2 from rfl] at HP
      have HR := Aside0.mk hr3
      clear hr3 hc3 hx h2 hK
      have e2 : (x.f0 == 2) = true := beq_iff_eq.mpr k2
      unfold fieldB
      go_enter Try.func31, Try.ntmps31
      go_wp2_with fail
      refine (oublietteref01_Put.calls K x.f3.length 2 _ _ HP.out).mono ?_
      rintro e w2 ⟨v0, rfl, ho, hb2⟩
      obtain ⟨A1, c1, rfl, hc1, hC1⟩ := Kd.R_reads ho
      have HC1 := Aside0.mk hC1
      have HCC := Aside0.mk hc1
      have HB2 := Aside0.mk (below_step (hb _) hb2)
      have HQ := Aside0.mk (oublietteref01_Join.calls A1 c1 (putL (x.f3.length : Int) 2) A3 c3 x.f3 _ w2 HC1.out HCC.out (Kd.C_below HR.out HB2.out) HC.out (join_eq _ _ (by simp [putL]) (by have := H3.out; omega)))
      clear ho hb2 hC1 hc1
      go_wp2_with fail
      refine HQ.out.mono ?_
      rintro e w4 ⟨v4, rfl, ho4, hb4⟩
      have HO := Aside0.mk (Kd.R_lower ho4 HB2.out.size)
      have HB := Aside0.mk (below_step HB2.out hb4)
      clear ho4 hb4
      go_wp2_with fail
      go_ret
      exact ⟨_, rfl, HO.out, HB.out⟩

/-- What the first k fields write. -/
def flat (l : List S47) (k : Nat) : List Int := (l.take k).flatMap wrB
theorem rd_T (l : List S47) (k : Nat) (h : k < l.length) : rd_T47 l k = l[k] := by simp [rd_T47, List.getD, h]
theorem flat_succ (l : List S47) (k : Nat) (h : k < l.length) : flat l (k + 1) = flat l k ++ wrB (rd_T47 l k) := by
  unfold flat
  rw [List.take_succ_eq_append_getElem h, List.flatMap_append, rd_T l k h]
  simp
theorem wrB_len (x : S47) (h : ltF x) : (wrB x).length ≤ 400 := by
  have := h.2.2
  unfold wrB
  split
  · simp
  · split
    · split
      · simp
      · simp [putL]; omega
    · split
      · simp [fieldB, putL]; omega
      · simp
theorem flat_len (l : List S47) (hl : ∀ m : Nat, m < l.length → ltF (rd_T47 l m)) : ∀ k, k ≤ l.length → (flat l k).length ≤ 400 * k
  | 0, _ => by simp [flat]
  | k + 1, h => by
    have h1 := flat_len l hl k (by omega)
    have h2 := wrB_len _ (hl k (by omega))
    rw [flat_succ l k (by omega), List.length_append]
    omega

set_option maxHeartbeats 4000000 in
theorem law_calls (A0 : Option Addr) (c0 : Nat) (l0 : List S47) (text : Bool) (w : World) (hr0 : Kd.C k47 w A0 l0.length l0) (hc0 : l0.length ≤ c0) (hok : ∀ x ∈ l0, okF x) :
    Calls Try.prog 7 #[.slice A0 l0.length c0, .bool text] w fun e w' => e = .returned (.bool true) ∧ Below w.heap.size w w' := by
  obtain ⟨b, hb1, hb2⟩ := light_eq l0
  have HLT := Aside0.mk (oubliettelaw05_light.calls (l0.length + 1) A0 c0 l0 b w hr0 hc0 hb1)
  have HR := Aside0.mk hr0
  have HOK := Aside0.mk (fun (m : Nat) (h : m < l0.length) => hok (rd_T47 l0 m) (by rw [rd_T l0 m h]; exact List.getElem_mem h))
  clear hr0 hc0 hb1 hok
  go_enter Try.func7, Try.ntmps7
  go_wp2_with fail
  refine HLT.out.mono ?_
  rintro e w1 ⟨rfl, hd⟩
  have HB1 := Aside0.mk hd.below
  clear hd HLT
  cases b
  · go_wp2_with fail
    refine (alive_calls w1).mono ?_
    rintro e w2 ⟨rfl, hb⟩
    have HB2 := Aside0.mk (below_step HB1.out hb)
    clear hb
    go_wp2_with fail
    go_ret
    exact ⟨rfl, HB2.out⟩
  · obtain ⟨h40, hlt⟩ := hb2 rfl
    have H40 := Aside0.mk h40
    have HLF := Aside0.mk hlt
    have HFL := Aside0.mk (flat_len l0 hlt)
    clear hb2 h40 hlt
    go_wp2_with fail
    have HW0 := Aside0.mk (wr_new w1)
    have HBB := Aside0.mk (below_step HB1.out (below_alloc (Below.refl w1.heap.size w1) (.cells #[.slice none 0 0] 44)))
    go_loopw [6, 7] (fun vw vi wr => ∃ (k : Nat) (v : Value), vi = .int .i64 (k : Int) ∧ k ≤ l0.length ∧ Aside0 (WrV wr w1.heap.size w1.heap.size v (flat l0 k)) ∧ Aside0 (Kd.R (Kd.int .u8) 5 wr w1.heap.size (fun q => q ≠ w1.heap.size ∧ some q ≠ v.ownBlock) vw (flat l0 k)) ∧ Aside0 (Below w1.heap.size w1 wr)) (fun _ vi _ => ((l0.length : Int) - intOf vi).toNat)
    case atStart => exact ⟨0, .slice none 0 0, rfl, Nat.zero_le _, HW0, ⟨Kd.R_nil _ _ _ _ _⟩, ⟨below_alloc (Below.refl _ _) _⟩⟩
    case round =>
      clear HW0 HBB
      obtain ⟨k, v, rfl, hk, HW, HV, HB⟩ := hrel
      obtain ⟨Aw, cw, rfl, hcw, hCw⟩ := Kd.R_reads HV.out
      have HCW := Aside0.mk hcw
      clear hcw hCw
      have HBW := Aside0.mk (below_step HB1.out HB.out)
      by_cases hlt : k < l0.length
      · have e1 : decide ((k : Int) < l0.length) = true := decide_eq_true (by omega)
        have q0 : (0 : Int) ≤ k := by omega
        have q1 : (k : Int) < l0.length := by omega
        obtain ⟨ad, A3, c3, ea, hx0, hx1, hx2, hx3, hc3, hC3⟩ := at_T47 HR.out (k : Int) q0 q1
        cases ea
        rw [Int.toNat_natCast] at hx0 hx1 hx2 hx3
        have hbk : ∀ {p : Addr} {u : Value}, w.cell? p = some u → p.block < w.heap.size := fun {p u} h => by
          rcases Nat.lt_or_ge p.block w.heap.size with h' | h'
          · exact h'
          · simp [World.cell?, Array.getElem?_eq_none h'] at h
        have HX := Aside0.mk (fun (W : World) (hW : Below w.heap.size w W) => And.intro ((hW.cell (hbk hx0)).trans hx0) (And.intro ((hW.cell (hbk hx1)).trans hx1) (And.intro ((hW.cell (hbk hx2)).trans hx2) ((hW.cell (hbk hx3)).trans hx3))))
        clear hx0 hx1 hx2 hx3 hbk
        obtain ⟨hx0, hx1, hx2, hx3⟩ := HX.out wr HBW.out
        have HC3 := Aside0.mk hC3
        have HCC3 := Aside0.mk hc3
        have hBsz : w1.heap.size ≤ wr.heap.size := HB.out.size
        have HWR := Aside0.mk (write_calls wr w1.heap.size w1.heap.size v (flat l0 k) (rd_T47 l0 k) A3 c3 text HW.out hBsz (fun w' hb => Kd.C_below HC3.out (below_step HB1.out (HB.out.trans hb))) hc3 (HLF.out k hlt).2.2 (HOK.out k hlt).1 (HOK.out k hlt).2 (by have := HFL.out k hk; have := H40.out; omega))
        clear hc3 hC3
        go_wp2_with fail
        refine HWR.out.mono ?_
        rintro e w2 ⟨rfl, v2, h1, h2, h3⟩
        have HW2 := Aside0.mk h1
        have HB2 := Aside0.mk (HB.out.trans h2)
        have HT2 := Aside0.mk h3
        have HBW2 := Aside0.mk (below_step HB1.out HB2.out)
        have HV2 := Aside0.mk (Kd.R_step HV.out (w1 := w2) (fun q ho hl => HT2.out.kept q hl ho.1 ho.2))
        clear h1 h2 h3 hx0 hx1 hx2 hx3 HWR
        obtain ⟨hx0, hx1, hx2, hx3⟩ := HX.out w2 HBW2.out
        go_wp2_with fail
        refine (refB_calls w2 (rd_T47 l0 k) A3 c3 (Kd.C_below HC3.out HBW2.out) HCC3.out (HLF.out k hlt) (HOK.out k hlt).1).mono ?_
        rintro e w3 ⟨v3, rfl, ho3, hb3⟩
        obtain ⟨A5, c5, rfl, hc5, hC5⟩ := Kd.R_reads ho3
        have HLX := Aside0.mk (show (flat l0 k).length < 1000000 ∧ (wrB (rd_T47 l0 k)).length < 1000000 by have := HFL.out k hk; have := H40.out; have := wrB_len _ (HLF.out k hlt); omega)
        have HJ := Aside0.mk (oublietteref01_Join.calls Aw cw (flat l0 k) A5 c5 (wrB (rd_T47 l0 k)) _ w3 (Kd.R_reads' (Kd.R_below HV2.out hb3)).2.2 HCW.out hC5 hc5 (join_eq _ _ HLX.out.1 HLX.out.2))
        have HW3 := Aside0.mk (HW2.out.below hb3)
        have HB3 := Aside0.mk (HB2.out.trans (hb3.mono HB2.out.size))
        have HZ3 := Aside0.mk hb3.size
        clear ho3 hb3 hC5 hc5 hx0 hx1 hx2 hx3
        go_wp2_with fail
        refine HJ.out.mono ?_
        rintro e w4 ⟨v4, rfl, ho4, hb4⟩
        have hW4 := HW3.out.below hb4
        obtain ⟨L, hLq⟩ : ∃ L, flat l0 k ++ wrB (rd_T47 l0 k) = L := ⟨_, rfl⟩
        have HLl := Aside0.mk (show L.length < 2000000 by rw [← hLq, List.length_append]; have := HLX.out; omega)
        rw [hLq] at ho4 hW4
        have HLQ := Aside0.mk hLq
        have HW4 := Aside0.mk hW4
        clear hLq hW4
        have HB4 := Aside0.mk (HB3.out.trans (hb4.mono HB3.out.size))
        have hsz : w1.heap.size < w3.heap.size := HW3.out.lt
        have hv2 : ∀ q, v2.ownBlock = some q → q < w3.heap.size := fun q e => Nat.lt_of_lt_of_le (Kd.R_lt HW2.out.row q e) HZ3.out
        have HV4 := Aside0.mk (Kd.R_mono (Kd.R_bound (Kd.R_lower ho4 (Nat.le_refl _))) (ok' := fun q => q ≠ w1.heap.size ∧ some q ≠ v2.ownBlock) (fun q hq => ⟨by have := hq.2.1; omega, fun e => by have := hv2 q e.symm; have := hq.2.1; omega⟩))
        have HV4' := Aside0.mk (Kd.R_lower HV4.out (Nat.le_of_lt hsz))
        clear ho4 hb4 hsz hv2 HJ HV4
        go_wp2_with fail
        refine (out_calls w4 w1.heap.size w1.heap.size v2 L HW4.out (by have := HLl.out; omega)).mono ?_
        rintro e w5 ⟨v5, rfl, ho5, hb5⟩
        obtain ⟨A6, c6, rfl, hc6, hC6⟩ := Kd.R_reads ho5
        have HW5 := Aside0.mk (HW4.out.below hb5)
        have HB5 := Aside0.mk (HB4.out.trans (hb5.mono HB4.out.size))
        have HV5 := Aside0.mk (Kd.R_below HV4'.out hb5)
        obtain ⟨A7, c7, rfl, hc7, hC7⟩ := Kd.R_reads HV5.out
        obtain ⟨K, hK⟩ := Pure.same_ev L L (by have := HLl.out; omega)
        have HS := Aside0.mk (oublietteref01_Same.calls K A6 c6 L A7 c7 L true w5 hC6 hc6 hC7 hc7 (by rw [hK K (Nat.le_refl _)]; simp))
        clear ho5 hb5 hC6 hc6 hC7 hc7 hK
        go_wp2_with fail
        refine HS.out.mono ?_
        rintro e w6 ⟨rfl, hd6⟩
        have hb6 := hd6.below
        have HW6 := Aside0.mk (HW5.out.below hb6)
        have HB6 := Aside0.mk (HB5.out.trans (hb6.mono HB5.out.size))
        have HV6 := Aside0.mk (Kd.R_below HV5.out hb6)
        have HFS := Aside0.mk ((flat_succ l0 k hlt).trans HLQ.out)
        have hw64 : wrap64 ((k : Int) + 1) = k + 1 := by have := H40.out; unfold wrap64; omega
        clear hd6 hb6 HS
        go_wp2_with fail
        go_roundw
        case rel => exact ⟨k + 1, v2, by rw [hw64]; rfl, by omega, ⟨by rw [HFS.out]; exact HW6.out⟩, ⟨by rw [HFS.out]; exact HV6.out⟩, HB6⟩
        case measure => rw [hw64]; simp [intOf]; omega
      · have e1 : decide ((k : Int) < l0.length) = false := decide_eq_false (by omega)
        go_wp2_with fail
        refine (alive_calls wr).mono ?_
        rintro e w2 ⟨rfl, hb⟩
        have HB2 := Aside0.mk (below_step HBW.out hb)
        clear hb
        go_wp2_with fail
        go_ret
        exact ⟨rfl, HB2.out⟩
end Go.Proofs.Ytbodefikbonjaaa.Q

/- The law's read, by hand: what is read of a reader, and what is left. -/
import Derived.Test.YtbodefikbonjaaaHRead
import Derived.Test.YtbodefikbonjaaaHLawW
import Derived.Deep.RegionWith
namespace Go.Proofs.Ytbodefikbonjaaa.Q
open Go.RowKit Go.Proofs.YtbodefikbonjaaaW.PrintWords Go.Proofs.YtbodefikbonjaaaW.PrintLast Go.Proofs.YtbodefikbonjaaaW.PrintMore
set_option linter.unusedVariables false

instance (l : List Int) (lim : Int) : Decidable (bytesIs l lim) := inferInstanceAs (Decidable (_ ∧ _ ∧ _))
/-- What is left, and the fault, behind a reading. -/
def nxt (k s : Int) (l : List Int) (f : Int) : List Int × Int :=
  if f ≠ 0 then (l, f) else if k = 0 then (if 1 ≤ l.length then (l.drop 1, 0) else ([], 4))
  else if k = 1 then (if 1 ≤ s ∧ s ≤ 8 ∧ s ≤ l.length then (l.drop s.toNat, 0) else ([], 4))
  else (if bytesIs l s then (l.drop (2 + (bytesN l).toNat), 0) else ([], 4))
def valB (l : List Int) (f : Int) : Int := if f = 0 ∧ 1 ≤ l.length then rd l 0 else 0
def valN (l : List Int) (f s : Int) : Int := if f = 0 ∧ (1 ≤ s ∧ s ≤ 8 ∧ s ≤ l.length) then Pure.getV (l.take s.toNat) else 0
def valX (l : List Int) (f s : Int) : List Int := if f = 0 ∧ bytesIs l s then (l.drop 2).take (bytesN l).toNat else []
def rdOk (k s : Int) (l : List Int) (f : Int) (x : S47) : Bool :=
  if k = 0 then valB l f == x.f2 else if k = 1 then valN l f s == x.f2 else decide (valX l f s = x.f3)

theorem rbyte2 (w : World) (g N : Nat) (A : Option Addr) (c : Nat) (l : List Int) (f s : Int) (h : RdV w g N A c l f) :
    Calls Try.prog 46 #[.pointer (some ⟨g, 0, none⟩)] w fun e w' => e = .returned (.int .u8 (valB l f)) ∧ (∃ A2 c2, RdV w' g N A2 c2 (nxt 0 s l f).1 (nxt 0 s l f).2) ∧ Kept1 w w' g := by
  refine (rbyte_calls w g N A c l f h).mono ?_
  rintro e w' ⟨hk, ⟨A2, c2, hf, hl, rfl, hr⟩ | ⟨hf, hl, rfl, hr⟩ | ⟨hf, rfl, hr⟩⟩
  · exact ⟨by rw [valB, if_pos ⟨hf, hl⟩], ⟨A2, c2, by rw [nxt, if_neg (by omega), if_pos rfl, if_pos hl]; exact hr⟩, hk⟩
  · exact ⟨by rw [valB, if_neg (fun h => hl h.2)], ⟨none, 0, by rw [nxt, if_neg (by omega), if_pos rfl, if_neg hl]; exact hr⟩, hk⟩
  · exact ⟨by rw [valB, if_neg (fun h => hf h.1)], ⟨A, c, by rw [nxt, if_pos hf]; exact hr⟩, hk⟩
theorem rnumber2 (w : World) (g N : Nat) (A : Option Addr) (c : Nat) (l : List Int) (f s : Int) (h : RdV w g N A c l f) (hu : u8L l) :
    Calls Try.prog 47 #[.pointer (some ⟨g, 0, none⟩), .int .i64 s] w fun e w' => e = .returned (.int .u64 (valN l f s)) ∧ (∃ A2 c2, RdV w' g N A2 c2 (nxt 1 s l f).1 (nxt 1 s l f).2) ∧ Kept1 w w' g := by
  refine (rnumber_calls w g N A c l f s h hu).mono ?_
  rintro e w' ⟨hk, ⟨A2, c2, hf, hl, rfl, hr⟩ | ⟨hf, hl, rfl, hr⟩ | ⟨hf, rfl, hr⟩⟩
  · exact ⟨by rw [valN, if_pos ⟨hf, hl⟩], ⟨A2, c2, by rw [nxt, if_neg (by omega), if_neg (by decide), if_pos rfl, if_pos hl]; exact hr⟩, hk⟩
  · exact ⟨by rw [valN, if_neg (fun h => hl h.2)], ⟨none, 0, by rw [nxt, if_neg (by omega), if_neg (by decide), if_pos rfl, if_neg hl]; exact hr⟩, hk⟩
  · exact ⟨by rw [valN, if_neg (fun h => hf h.1)], ⟨A, c, by rw [nxt, if_pos hf]; exact hr⟩, hk⟩
theorem rbytes2 (w : World) (g N : Nat) (A : Option Addr) (c : Nat) (l : List Int) (f k s : Int) (h : RdV w g N A c l f) (hu : u8L l) (hll : l.length < 1000000) (h0 : k ≠ 0) (h1 : k ≠ 1) :
    Calls Try.prog 48 #[.pointer (some ⟨g, 0, none⟩), .int .i64 s] w fun e w' => (∃ v, e = .returned v ∧ Kd.R (Kd.int .u8) 5 w' w.heap.size (fun _ => True) v (valX l f s)) ∧ (∃ A2 c2, RdV w' g N A2 c2 (nxt k s l f).1 (nxt k s l f).2) ∧ Kept1 w w' g := by
  refine (rbytes_calls w g N A c l f s h hu hll).mono ?_
  rintro e w' ⟨hk, ⟨A2, c2, v, hf, hl, rfl, hR, hr⟩ | ⟨hf, hl, rfl, hr⟩ | ⟨hf, rfl, hr⟩⟩
  · exact ⟨⟨v, rfl, by rw [valX, if_pos ⟨hf, hl⟩]; exact hR⟩, ⟨A2, c2, by rw [nxt, if_neg (by omega), if_neg h0, if_neg h1, if_pos hl]; exact hr⟩, hk⟩
  · exact ⟨⟨_, rfl, by rw [valX, if_neg (fun h => hl h.2)]; exact Kd.R_nil _ _ _ _ _⟩, ⟨none, 0, by rw [nxt, if_neg (by omega), if_neg h0, if_neg h1, if_neg hl]; exact hr⟩, hk⟩
  · exact ⟨⟨_, rfl, by rw [valX, if_neg (fun h => hf h.1)]; exact Kd.R_nil _ _ _ _ _⟩, ⟨A, c, by rw [nxt, if_pos hf]; exact hr⟩, hk⟩
theorem rtext2 (w : World) (g N : Nat) (A : Option Addr) (c : Nat) (l : List Int) (f k s : Int) (h : RdV w g N A c l f) (hu : u8L l) (hll : l.length < 1000000) (h0 : k ≠ 0) (h1 : k ≠ 1) :
    Calls Try.prog 56 #[.pointer (some ⟨g, 0, none⟩), .int .i64 s] w fun e w' => e = .returned (.string (strOfNums (valX l f s))) ∧ (∃ A2 c2, RdV w' g N A2 c2 (nxt k s l f).1 (nxt k s l f).2) ∧ Kept1 w w' g := by
  refine (rtext_calls w g N A c l f s h hu hll).mono ?_
  rintro e w' ⟨hk, ⟨A2, c2, hf, hl, rfl, hr⟩ | ⟨hf, hl, rfl, hr⟩ | ⟨hf, rfl, hr⟩⟩
  · exact ⟨by rw [valX, if_pos ⟨hf, hl⟩], ⟨A2, c2, by rw [nxt, if_neg (by omega), if_neg h0, if_neg h1, if_pos hl]; exact hr⟩, hk⟩
  · exact ⟨by rw [valX, if_neg (fun h => hl h.2)], ⟨none, 0, by rw [nxt, if_neg (by omega), if_neg h0, if_neg h1, if_neg hl]; exact hr⟩, hk⟩
  · exact ⟨by rw [valX, if_neg (fun h => hf h.1)], ⟨A, c, by rw [nxt, if_pos hf]; exact hr⟩, hk⟩

theorem valX_u8 (l : List Int) (f s : Int) (hu : u8L l) : ∀ b ∈ valX l f s, 0 ≤ b ∧ b < 256 := by
  unfold valX
  split
  · intro b hb
    have := Pure.u8_of (hu b (List.mem_of_mem_drop (List.mem_of_mem_take hb)))
    omega
  · simp
theorem valX_len (l : List Int) (f s : Int) : (valX l f s).length ≤ l.length := by
  unfold valX
  split
  · rw [List.length_take, List.length_drop]; omega
  · simp
theorem str_dec (a b : List Int) (ha : ∀ x ∈ a, 0 ≤ x ∧ x < 256) (hb : ∀ x ∈ b, 0 ≤ x ∧ x < 256) : ((strOfNums a).toList == (strOfNums b).toList) = decide (a = b) := by
  by_cases h : a = b
  · subst h; simp
  · rw [decide_eq_false h]
    apply beq_eq_false_iff_ne.mpr
    intro e
    apply h
    rw [ByteArray.toList_eq, ByteArray.toList_eq] at e
    rw [← bytes_strs a ha, ← bytes_strs b hb, bytesOf, bytesOf, e]
theorem u8_rd (l : List Int) (hu : u8L l) : 0 ≤ rd l 0 ∧ rd l 0 ≤ 255 := by
  rcases l with _ | ⟨y, t⟩
  · simp [rd]
  · exact Pure.u8_of (hu y (List.mem_cons_self ..))
set_option maxHeartbeats 2000000 in
theorem read_calls (w : World) (g N : Nat) (A : Option Addr) (c : Nat) (l : List Int) (f k s : Int) (text : Bool) (x : S47) (A3 : Option Addr) (c3 : Nat) (h : RdV w g N A c l f) (hu : u8L l) (hll : l.length < 1000000)
    (hr3 : ∀ w', Kept1 w w' g → Kd.C (Kd.int .u8) w' A3 x.f3.length x.f3) (hc3 : x.f3.length ≤ c3) (h8 : ∀ b ∈ x.f3, 0 ≤ b ∧ b < 256) :
    Calls Try.prog 40 #[.pointer (some ⟨g, 0, none⟩), .int .i64 k, .int .i64 s, .bool text, .agg #[.int .i64 x.f0, .int .i64 x.f1, .int .u64 x.f2, .slice A3 x.f3.length c3]] w fun e w' =>
      e = .returned (.bool (rdOk k s l f x)) ∧ (∃ A2 c2, RdV w' g N A2 c2 (nxt k s l f).1 (nxt k s l f).2) ∧ Kept1 w w' g := by
  have hg := h.lt
  have hb : ∀ cs, Below w.heap.size w (w.alloc (.cells cs 47)) := fun cs => below_alloc (Below.refl _ _) _
  have hk : ∀ cs, Kept1 w (w.alloc (.cells cs 47)) g := fun cs => Kept1.of_below (hb cs) hg
  have HB := Aside0.mk hb
  have HK := Aside0.mk hk
  have HH := Aside0.mk h
  by_cases k0 : k = 0
  · have e0 : (k == 0) = true := beq_iff_eq.mpr k0
    have hv : 0 ≤ valB l f ∧ valB l f ≤ 255 := by unfold valB; split; exact u8_rd l hu; omega
    have hwr : IntKind.u64.wrap (valB l f) = valB l f := by simp [IntKind.wrap, IntKind.bits, IntKind.signed]; omega
    have hok : rdOk k s l f x = (valB l f == x.f2) := by rw [rdOk, if_pos k0]
    rw [hok, k0]
    subst k0
    clear h hu hll hr3 hc3 h8 hb hk hok hv
    go_enter Try.func40, Try.ntmps40
    go_wp2_with fail
    obtain ⟨W1, hW1⟩ : ∃ W1, W1 = w.alloc (.cells #[.int .i64 x.f0, .int .i64 x.f1, .int .u64 x.f2, .slice A3 x.f3.length c3] 47) := ⟨_, rfl⟩
    have hbx : W1.heap[w.heap.size]? = some (.cells #[.int .i64 x.f0, .int .i64 x.f1, .int .u64 x.f2, .slice A3 x.f3.length c3] 47 (0, 0)) := by rw [hW1]; exact heap_alloc_new w _
    have hs1 : W1.heap.size = w.heap.size + 1 := by rw [hW1, size_alloc]
    have HR1 := Aside0.mk (show RdV W1.drew g N A c l f by rw [hW1]; exact (HH.out.below (HB.out _)).below (below_drew (Below.refl _ _)))
    have HK1 := Aside0.mk (show Kept1 w W1.drew g by rw [hW1]; exact (HK.out _).trans (Kept1.of_below (below_drew (Below.refl _ _)) (Nat.lt_of_lt_of_le hg (HB.out _).size)))
    have hc2 : W1.cell? ⟨w.heap.size, 2, none⟩ = some (.int .u64 x.f2) := by simp [World.cell?, hbx]
    have HX := Aside0.mk (fun W (hk : Kept1 W1.drew W g) => show W.cell? ⟨w.heap.size, 2, none⟩ = some (.int .u64 x.f2) from (cell_same (hk.kept w.heap.size (by show w.heap.size < W1.heap.size; omega) (by omega)) 2).trans hc2)
    have HQ := Aside0.mk (rbyte2 W1.drew g N A c l f s HR1.out)
    rw [← hW1]
    clear hW1 hbx
    go_region_with (go_at_call 46; refine HQ.out.mono ?_; rintro e w' ⟨rfl, ⟨A2, c2, hr⟩, hk⟩; have hcx := HX.out _ hk; have HK2 := Aside0.mk (HK1.out.trans hk); have HR := Aside0.mk hr; clear hr hk)
    all_goals (go_wp2_with fail; go_ret; exact ⟨rfl, ⟨A2, c2, HR.out⟩, HK2.out⟩)
  · have e0 : (k == 0) = false := beq_eq_false_iff_ne.mpr k0
    by_cases k1 : k = 1
    · have e1 : (k == 1) = true := beq_iff_eq.mpr k1
      have hok : rdOk k s l f x = (valN l f s == x.f2) := by rw [rdOk, if_neg k0, if_pos k1]
      rw [hok]
      obtain ⟨W1, hW1⟩ : ∃ W1, W1 = w.alloc (.cells #[.int .i64 x.f0, .int .i64 x.f1, .int .u64 x.f2, .slice A3 x.f3.length c3] 47) := ⟨_, rfl⟩
      have hbx : W1.heap[w.heap.size]? = some (.cells #[.int .i64 x.f0, .int .i64 x.f1, .int .u64 x.f2, .slice A3 x.f3.length c3] 47 (0, 0)) := by rw [hW1]; exact heap_alloc_new w _
      have hs1 : W1.heap.size = w.heap.size + 1 := by rw [hW1, size_alloc]
      have HR1 := Aside0.mk (show RdV W1.drew g N A c l f by rw [hW1]; exact (HH.out.below (HB.out _)).below (below_drew (Below.refl _ _)))
      have HK1 := Aside0.mk (show Kept1 w W1.drew g by rw [hW1]; exact (HK.out _).trans (Kept1.of_below (below_drew (Below.refl _ _)) (Nat.lt_of_lt_of_le hg (HB.out _).size)))
      have hc2 : W1.cell? ⟨w.heap.size, 2, none⟩ = some (.int .u64 x.f2) := by simp [World.cell?, hbx]
      have HX := Aside0.mk (fun W (hk : Kept1 W1.drew W g) => show W.cell? ⟨w.heap.size, 2, none⟩ = some (.int .u64 x.f2) from (cell_same (hk.kept w.heap.size (by show w.heap.size < W1.heap.size; omega) (by omega)) 2).trans hc2)
      have HQ := Aside0.mk (rnumber2 W1.drew g N A c l f s HR1.out hu)
      rw [← k1] at HQ
      clear h hu hll hr3 hc3 h8 hb hk hok hbx
      go_enter Try.func40, Try.ntmps40
      go_wp2_with fail
      rw [← hW1]
      clear hW1
      go_region_with (go_at_call 47; refine HQ.out.mono ?_; rintro e w' ⟨rfl, ⟨A2, c2, hr⟩, hk⟩; have hcx := HX.out _ hk; have HK2 := Aside0.mk (HK1.out.trans hk); have HR := Aside0.mk hr; clear hr hk)
      all_goals (go_wp2_with fail; go_ret; exact ⟨rfl, ⟨A2, c2, HR.out⟩, HK2.out⟩)
    · have e1 : (k == 1) = false := beq_eq_false_iff_ne.mpr k1
      have hok : rdOk k s l f x = decide (valX l f s = x.f3) := by rw [rdOk, if_neg k0, if_neg k1]
      rw [hok]
      obtain ⟨W1, hW1⟩ : ∃ W1, W1 = w.alloc (.cells #[.int .i64 x.f0, .int .i64 x.f1, .int .u64 x.f2, .slice A3 x.f3.length c3] 47) := ⟨_, rfl⟩
      have hbx : W1.heap[w.heap.size]? = some (.cells #[.int .i64 x.f0, .int .i64 x.f1, .int .u64 x.f2, .slice A3 x.f3.length c3] 47 (0, 0)) := by rw [hW1]; exact heap_alloc_new w _
      have hs1 : W1.heap.size = w.heap.size + 1 := by rw [hW1, size_alloc]
      have HR1 := Aside0.mk (show RdV W1.drew g N A c l f by rw [hW1]; exact (HH.out.below (HB.out _)).below (below_drew (Below.refl _ _)))
      have HK1 := Aside0.mk (show Kept1 w W1.drew g by rw [hW1]; exact (HK.out _).trans (Kept1.of_below (below_drew (Below.refl _ _)) (Nat.lt_of_lt_of_le hg (HB.out _).size)))
      have hc2 : W1.cell? ⟨w.heap.size, 3, none⟩ = some (.slice A3 x.f3.length c3) := by simp [World.cell?, hbx]
      have HX := Aside0.mk (fun W (hk : Kept1 W1.drew W g) => show W.cell? ⟨w.heap.size, 3, none⟩ = some (.slice A3 x.f3.length c3) from (cell_same (hk.kept w.heap.size (by show w.heap.size < W1.heap.size; omega) (by omega)) 3).trans hc2)
      have HC3 := Aside0.mk hr3
      have HC := Aside0.mk hc3
      have HV := Aside0.mk (valX_u8 l f s hu)
      have H8 := Aside0.mk h8
      have HVL := Aside0.mk (valX_len l f s)
      cases text
      · have HQ := Aside0.mk (rbytes2 W1.drew g N A c l f k s HR1.out hu hll k0 k1)
        have HLL := Aside0.mk hll
        clear h hu hll hr3 hc3 h8 hb hk hok hbx
        go_enter Try.func40, Try.ntmps40
        go_wp2_with fail
        rw [← hW1]
        clear hW1
        obtain ⟨K, hK⟩ := Pure.same_ev (valX l f s) x.f3 (by have := HVL.out; have := HLL.out; omega)
        have HSK := Aside0.mk (hK K (Nat.le_refl _))
        clear hK
        go_region_with (first | (go_at_call 48; refine HQ.out.mono ?_; rintro e w' ⟨⟨v, rfl, hR⟩, ⟨A2, c2, hr⟩, hk⟩; obtain ⟨A6, c6, rfl, hc6, hC6⟩ := Kd.R_reads hR; have hcx := HX.out _ hk; have HK2 := Aside0.mk (HK1.out.trans hk); have HR := Aside0.mk hr; have HSM := Aside0.mk (oublietteref01_Same.calls K A6 c6 (valX l f s) A3 c3 x.f3 _ w' hC6 hc6 (HC3.out _ HK2.out) HC.out HSK.out); clear hr hk hR hC6 hc6) | (go_at_call 20; refine HSM.out.mono ?_; rintro e w2 ⟨rfl, hd⟩; have HR5 := Aside0.mk (HR.out.below hd.below); have HK5 := Aside0.mk (HK2.out.trans (Kept1.of_below hd.below HR.out.lt)); clear hd))
        all_goals (go_wp2_with fail; go_ret; exact ⟨rfl, ⟨A2, c2, HR5.out⟩, HK5.out⟩)
      · have HQ := Aside0.mk (rtext2 W1.drew g N A c l f k s HR1.out hu hll k0 k1)
        have hcv0 := conv_C W1.drew A3 c3 x.f3 (hr3 _ HK1.out)
        have HCV := Aside0.mk (fun W (hk : Kept1 W1.drew W g) => conv_C W A3 c3 x.f3 (hr3 _ (HK1.out.trans hk)))
        have hse : ((strOfNums (valX l f s)).toList == (strOfNums x.f3).toList) = decide (valX l f s = x.f3) := str_dec _ _ HV.out h8
        rw [← hse]
        clear h hu hll hr3 hc3 h8 hb hk hok hbx hse
        go_enter Try.func40, Try.ntmps40
        go_wp2_with fail
        rw [← hW1]
        clear hW1
        go_region_with (go_at_call 56; refine HQ.out.mono ?_; rintro e w' ⟨rfl, ⟨A2, c2, hr⟩, hk⟩; have hcx := HX.out _ hk; have hcv1 := HCV.out _ hk; have HK2 := Aside0.mk (HK1.out.trans hk); have HR := Aside0.mk hr; clear hr hk)
        all_goals (go_wp2_with fail; go_ret; exact ⟨rfl, ⟨A2, c2, HR.out⟩, HK2.out⟩)
end Go.Proofs.Ytbodefikbonjaaa.Q

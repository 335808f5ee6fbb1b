/- The closures that a reader's methods hand to field, by hand. -/
import Derived.Test.YtbodefikbonjaaaHField2
namespace Go.Proofs.Ytbodefikbonjaaa.Q
open Go.RowKit Go.Proofs.YtbodefikbonjaaaW.PrintWords Go.Proofs.YtbodefikbonjaaaW.PrintLast Go.Proofs.YtbodefikbonjaaaW.PrintMore
set_option linter.unusedVariables false

/-- All blocks but two. -/
structure Kept2 (w w' : World) (g q : Nat) : Prop where
  kept : ∀ k, k < w.heap.size → k ≠ g → k ≠ q → w'.heap[k]? = w.heap[k]?
  size : w.heap.size ≤ w'.heap.size
  bel : Below (min g q) w w'
theorem Kept1.to2 {w w' : World} {g : Nat} (h : Kept1 w w' g) (q : Nat) : Kept2 w w' g q := ⟨fun k a b _ => h.kept k a b, h.size, h.bel.mono (Nat.min_le_left _ _)⟩
theorem Kept1.then2 {w0 w w' : World} {g q : Nat} (h : Kept1 w0 w g) (h2 : Kept2 w w' g q) (hg : g < w0.heap.size) (hq : w0.heap.size ≤ q) : Kept1 w0 w' g :=
  ⟨fun k a b => (h2.kept k (Nat.lt_of_lt_of_le a h.size) b (by omega)).trans (h.kept k a b), Nat.le_trans h.size h2.size, h.bel.trans (h2.bel.mono (by omega))⟩
theorem Kept1.set2 {w w1 : World} {g q o : Nat} (h : Kept1 w w1 g) (v : Value) : Kept2 w (w1.setCell ⟨q, o, none⟩ v) g q :=
  ⟨fun k a b c => (Below.heap_setCell w1 ⟨q, o, none⟩ v k c).trans (h.kept k a b), by have := h.size; simpa using this, (h.bel.mono (Nat.min_le_left _ _)).setCell (p := ⟨q, o, none⟩) (Nat.min_le_right _ _) v⟩
theorem RdV.far {w : World} {g N : Nat} {A : Option Addr} {c : Nat} {l : List Int} {f : Int} (h : RdV w g N A c l f) (q o : Nat) (hq : N ≤ q) (v : Value) : RdV (w.setCell ⟨q, o, none⟩ v) g N A c l f :=
  ⟨(Below.heap_setCell w ⟨q, o, none⟩ v g (by have := h.lo; show g ≠ q; omega)).trans h.cell, (Kept1.of_set w q o v).C h.row (fun ad e h0 => by have := h.old ad e h0; omega), h.cap, h.ne, h.old, h.lo, Nat.le_trans h.hi (by simp)⟩

set_option maxHeartbeats 1000000 in
theorem clos59 (W : World) (rv cv g N : Nat) (A : Option Addr) (c : Nat) (l : List Int) (x : Int) (h : RdV W g N A c l 0) (hrv : W.heap[rv]? = some (.cells #[.pointer (some ⟨g, 0, none⟩)] 53 (0, 0))) (hcv : W.heap[cv]? = some (.cells #[.int .u8 x] 5 (0, 0))) (hc0 : N ≤ cv) :
    Calls Try.prog 59 #[.pointer (some ⟨rv, 0, none⟩), .pointer (some ⟨cv, 0, none⟩)] W fun e w' => Kept2 W w' g cv ∧
      ((∃ A2 c2, e = .returned (.tuple #[]) ∧ 1 ≤ l.length ∧ RdV w' g N A2 c2 (l.drop 1) 0 ∧ w'.heap[cv]? = some (.cells #[.int .u8 (rd l 0)] 5 (0, 0))) ∨
       (¬ 1 ≤ l.length ∧ e = .panicked (fewP 4) ∧ (∃ A2 c2 l2, RdV w' g N A2 c2 l2 0) ∧ w'.heap[cv]? = some (.cells #[.int .u8 x] 5 (0, 0)))) := by
  have HT := Aside0.mk (take_calls W g N A c l 0 1 h)
  have hclt : cv < W.heap.size := (Array.getElem?_eq_some_iff.1 hcv).1
  have hgc : cv ≠ g := by have := h.lo; omega
  have h1 := cell_of_one hrv
  clear h
  go_enter Try.func59, Try.ntmps59
  go_wp2_with fail
  refine HT.out.mono ?_
  rintro e w1 ⟨A2, c2, l2, hr, hk, ⟨hn0, hn1, ⟨A3, rfl, hC⟩, rfl⟩ | ⟨hn, rfl⟩⟩
  · have HR := Aside0.mk hr
    have HK := Aside0.mk hk
    have hcv1 := (hk.kept cv hclt hgc).trans hcv
    have hcc := cell_of_one hcv1
    have hcf := free_of_one hcv1
    obtain ⟨ad, ea, hx⟩ := Kd.at_int hC 0 (by omega) (by decide)
    cases ea
    have hrd : rd (l.take (1 : Int).toNat) 0 = rd l 0 := by
      rcases l with _ | ⟨y, t⟩
      · simp at hn1
      · rfl
    rw [hrd] at hx
    replace hx : w1.cell? ad = some (.int .u8 (rd l 0)) := by simpa [Addr.add] using hx
    clear hr hk hC HT
    go_wp2_with fail
    go_end0
    exact ⟨HK.out.set2 _, .inl ⟨_, _, rfl, by omega, HR.out.far cv 0 hc0 _, one_setCell hcv1⟩⟩
  · have HR := Aside0.mk hr
    have HK := Aside0.mk hk
    have hcv1 := (hk.kept cv hclt hgc).trans hcv
    go_wp2_with fail
    exact ⟨rfl, hk.to2 cv, .inr ⟨by omega, rfl, ⟨_, _, _, hr⟩, hcv1⟩⟩

set_option maxHeartbeats 1000000 in
theorem clos61 (W : World) (rv sv cv g N : Nat) (A : Option Addr) (c : Nat) (l : List Int) (s x : Int) (h : RdV W g N A c l 0) (hu : u8L l) (hrv : W.heap[rv]? = some (.cells #[.pointer (some ⟨g, 0, none⟩)] 53 (0, 0))) (hsv : W.heap[sv]? = some (.cells #[.int .i64 s] 3 (0, 0))) (hcv : W.heap[cv]? = some (.cells #[.int .u64 x] 34 (0, 0))) (hc0 : N ≤ cv) :
    Calls Try.prog 61 #[.pointer (some ⟨rv, 0, none⟩), .pointer (some ⟨sv, 0, none⟩), .pointer (some ⟨cv, 0, none⟩)] W fun e w' => Kept2 W w' g cv ∧
      ((∃ A2 c2, e = .returned (.tuple #[]) ∧ (1 ≤ s ∧ s ≤ 8 ∧ s ≤ l.length) ∧ RdV w' g N A2 c2 (l.drop s.toNat) 0 ∧ w'.heap[cv]? = some (.cells #[.int .u64 (Pure.getV (l.take s.toNat))] 34 (0, 0))) ∨
       (¬ (1 ≤ s ∧ s ≤ 8 ∧ s ≤ l.length) ∧ e = .panicked (fewP 4) ∧ (∃ A2 c2 l2, RdV w' g N A2 c2 l2 0) ∧ w'.heap[cv]? = some (.cells #[.int .u64 x] 34 (0, 0)))) := by
  have HT := Aside0.mk (number_calls2 W g N A c l 0 s h hu)
  have hclt : cv < W.heap.size := (Array.getElem?_eq_some_iff.1 hcv).1
  have hgc : cv ≠ g := by have := h.lo; omega
  have h1 := cell_of_one hrv
  have h2 := cell_of_one hsv
  clear h hu
  go_enter Try.func61, Try.ntmps61
  go_wp2_with fail
  refine HT.out.mono ?_
  rintro e w1 ⟨A2, c2, l2, hr, hk, ⟨hn0, hn1, hn2, rfl, rfl⟩ | ⟨hn, rfl⟩⟩
  · have HR := Aside0.mk hr
    have HK := Aside0.mk hk
    have hcv1 := (hk.kept cv hclt hgc).trans hcv
    have hcc := cell_of_one hcv1
    have hcf := free_of_one hcv1
    clear hr hk HT
    go_wp2_with fail
    go_end0
    exact ⟨HK.out.set2 _, .inl ⟨_, _, rfl, ⟨hn0, hn1, hn2⟩, HR.out.far cv 0 hc0 _, one_setCell hcv1⟩⟩
  · have hcv1 := (hk.kept cv hclt hgc).trans hcv
    go_wp2_with fail
    exact ⟨rfl, hk.to2 cv, .inr ⟨hn, rfl, ⟨_, _, _, hr⟩, hcv1⟩⟩

/-- What a field of bytes is, asked of l within a limit: how many bytes. -/
def bytesN (l : List Int) : Int := Pure.getV (l.take 2)
def bytesIs (l : List Int) (lim : Int) : Prop := 2 ≤ l.length ∧ bytesN l ≤ lim ∧ bytesN l ≤ (l.length : Int) - 2
set_option maxHeartbeats 2000000 in
theorem clos63 (W : World) (rv sv cv g N : Nat) (A : Option Addr) (c : Nat) (l : List Int) (lim : Int) (h : RdV W g N A c l 0) (hu : u8L l) (hl : l.length < 1000000) (hrv : W.heap[rv]? = some (.cells #[.pointer (some ⟨g, 0, none⟩)] 53 (0, 0))) (hsv : W.heap[sv]? = some (.cells #[.int .i64 lim] 3 (0, 0))) (hcv : W.heap[cv]? = some (.cells #[.slice none 0 0] 22 (0, 0))) (hc0 : N ≤ cv) (hs0 : N ≤ sv) (hr0 : N ≤ rv) :
    Calls Try.prog 63 #[.pointer (some ⟨rv, 0, none⟩), .pointer (some ⟨sv, 0, none⟩), .pointer (some ⟨cv, 0, none⟩)] W fun e w' => Kept2 W w' g cv ∧
      ((∃ A2 c2 v, e = .returned (.tuple #[]) ∧ bytesIs l lim ∧ RdV w' g N A2 c2 (l.drop (2 + (bytesN l).toNat)) 0 ∧ w'.heap[cv]? = some (.cells #[v] 22 (0, 0)) ∧ Kd.R (Kd.int .u8) 5 w' W.heap.size (fun _ => True) v ((l.drop 2).take (bytesN l).toNat)) ∨
       (¬ bytesIs l lim ∧ e = .panicked (fewP 4) ∧ (∃ A2 c2 l2, RdV w' g N A2 c2 l2 0) ∧ w'.heap[cv]? = some (.cells #[.slice none 0 0] 22 (0, 0)))) := by
  have HT := Aside0.mk (number_calls2 W g N A c l 0 2 h hu)
  have HU := Aside0.mk hu
  have HLL := Aside0.mk hl
  have hclt : cv < W.heap.size := (Array.getElem?_eq_some_iff.1 hcv).1
  have hslt : sv < W.heap.size := (Array.getElem?_eq_some_iff.1 hsv).1
  have hrlt : rv < W.heap.size := (Array.getElem?_eq_some_iff.1 hrv).1
  have hlo := h.lo
  have h1 := cell_of_one hrv
  clear h hu hl
  go_enter Try.func63, Try.ntmps63
  go_wp2_with fail
  refine HT.out.mono ?_
  rintro e w1 ⟨A2, c2, l2, hr, hk, ⟨hn0, hn1, hn2, rfl, rfl⟩ | ⟨hn, rfl⟩⟩
  · have HR := Aside0.mk hr
    have HK := Aside0.mk hk
    have hcv1 := (hk.kept cv hclt (by omega)).trans hcv
    have hsv1 := (hk.kept sv hslt (by omega)).trans hsv
    have hrv1 := (hk.kept rv hrlt (by omega)).trans hrv
    have h2 := cell_of_one hsv1
    have h3 := cell_of_one hrv1
    have hN := Pure.getV_bound (l.take 2) (fun x hx => HU.out x (List.mem_of_mem_take hx))
    rw [List.length_take, Nat.min_eq_left (by omega)] at hN
    have hNe : Pure.getV (l.take (2 : Int).toNat) = bytesN l := rfl
    rw [hNe]
    have hN2 : 0 ≤ bytesN l ∧ bytesN l < 65536 := ⟨hN.1, by have := hN.2; show Pure.getV (l.take 2) < 65536; simpa using this⟩
    have hwr : wrap64 (bytesN l) = bytesN l := by unfold wrap64; omega
    clear hr hk HT hN hNe
    by_cases hlim : lim < bytesN l
    · have e1 : decide (lim < bytesN l) = true := decide_eq_true hlim
      have hp := run_panic_few w1 4
      go_wp2_with fail
      exact ⟨rfl, HK.out.to2 cv, .inr ⟨fun hh => by have := hh.2.1; omega, rfl, ⟨_, _, _, HR.out⟩, hcv1⟩⟩
    · have e1 : decide (lim < bytesN l) = false := decide_eq_false hlim
      have HT2 := Aside0.mk (take_calls w1 g N A2 c2 (l.drop (2 : Int).toNat) 0 (bytesN l) HR.out)
      have hD : (l.drop (2 : Int).toNat).length = l.length - 2 := by rw [List.length_drop]; rfl
      go_wp2_with fail
      refine HT2.out.mono ?_
      rintro e w2 ⟨A4, c4, l4, hr4, hk4, ⟨hm0, hm1, ⟨A5, rfl, hC5⟩, rfl⟩ | ⟨hm, rfl⟩⟩
      · have hl5 : ((l.drop (2 : Int).toNat).take (bytesN l).toNat).length = (bytesN l).toNat := by rw [List.length_take]; omega
        have hQ := slices_Clone_byte_byte.calls A5 (bytesN l).toNat ((l.drop (2 : Int).toNat).take (bytesN l).toNat) _ w2 (by rw [hl5]; exact hC5) (by rw [hl5]; exact Nat.le_refl _) (by rw [slices_Clone_byte_byte.f, if_pos (by rw [hl5]; omega)])
        rw [hl5] at hQ
        have HQ := Aside0.mk hQ
        have HR4 := Aside0.mk hr4
        have HK4 := Aside0.mk (HK.out.trans hk4)
        have hw1 : cv < w1.heap.size := (Array.getElem?_eq_some_iff.1 hcv1).1
        have hcv4 := (hk4.kept cv hw1 (by omega)).trans hcv1
        have hw2 : cv < w2.heap.size := (Array.getElem?_eq_some_iff.1 hcv4).1
        have HIS := Aside0.mk (show bytesIs l lim from ⟨by omega, by omega, by omega⟩)
        clear hQ hl5 hC5 hr4 hk4 hw1 HT2 HLL HU
        go_wp2_with fail
        refine HQ.out.mono ?_
        rintro e w3 ⟨v3, rfl, ho, hb⟩
        have HR5 := Aside0.mk (HR4.out.below hb)
        have HK5 := Aside0.mk (HK4.out.trans (Kept1.of_below hb HR4.out.lt))
        have hcv5 := (hb.block cv hw2).trans hcv4
        have hcc := cell_of_one hcv5
        have hcf := free_of_one hcv5
        obtain ⟨A6, c6, rfl⟩ := Kd.R_slice ho
        have HO := Aside0.mk (Kd.R_far (Kd.R_mono (Kd.R_bound ho) (ok' := fun k => k ≠ cv) (fun k hk => by have := hk.2.1; omega)) (p := ⟨cv, 0, none⟩) (fun k hk => hk) (.slice A6 ((l.drop (2 : Int).toNat).take (bytesN l).toNat).length c6))
        have hwW : W.heap.size ≤ w2.heap.size := HK4.out.size
        clear ho hb
        go_wp2_with fail
        go_end0
        have hle : ((l.drop (2 : Int).toNat).take (bytesN l).toNat).length = min (bytesN l).toNat (l.length - 2) := by rw [List.length_take, hD]
        rw [hle] at HO
        refine ⟨HK5.out.set2 _, .inl ⟨A4, c4, _, rfl, HIS.out, ?_, one_setCell hcv5, Kd.R_lower (Kd.R_mono HO.out (fun _ _ => trivial)) hwW⟩⟩
        have := HR5.out.far cv 0 hc0 (.slice A6 (min (bytesN l).toNat (l.length - 2)) c6)
        rw [← List.drop_drop]
        exact this
      · have hw1 : cv < w1.heap.size := (Array.getElem?_eq_some_iff.1 hcv1).1
        have hcv4 := (hk4.kept cv hw1 (by omega)).trans hcv1
        go_wp2_with fail
        exact ⟨rfl, (HK.out.trans hk4).to2 cv, .inr ⟨fun hh => by have := hh.2.2; omega, rfl, ⟨_, _, _, hr4⟩, hcv4⟩⟩
  · have hcv1 := (hk.kept cv hclt (by omega)).trans hcv
    go_wp2_with fail
    exact ⟨rfl, hk.to2 cv, .inr ⟨fun hh => hn ⟨by omega, by omega, by have := hh.1; omega⟩, rfl, ⟨_, _, _, hr⟩, hcv1⟩⟩
end Go.Proofs.Ytbodefikbonjaaa.Q

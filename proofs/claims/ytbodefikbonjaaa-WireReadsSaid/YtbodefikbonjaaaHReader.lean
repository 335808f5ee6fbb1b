/- wire.Reader, by hand: what it takes off its bytes. -/
import Derived.Test.YtbodefikbonjaaaHWriter
import Derived.Recover
import Derived.Test.YtbodefikbonjaaaRefGet
namespace Go.Proofs.Ytbodefikbonjaaa.Q
open Go.RowKit Go.Proofs.YtbodefikbonjaaaW.PrintWords Go.Proofs.YtbodefikbonjaaaW.PrintLast Go.Proofs.YtbodefikbonjaaaW.PrintMore
set_option linter.unusedVariables false

/-- A reader: its block g, its slice, what is left, its fault. -/
structure RdV (w : World) (g N : Nat) (A : Option Addr) (c : Nat) (l : List Int) (f : Int) : Prop where
  cell : w.heap[g]? = some (.cells #[.slice A l.length c, .int .i64 f] 72 (0, 0))
  row : Kd.C (Kd.int .u8) w A l.length l
  cap : l.length ≤ c
  ne : ∀ ad, A = some ad → 0 < l.length → ad.block ≠ g
  old : ∀ ad, A = some ad → 0 < l.length → ad.block < N
  lo : g < N
  hi : N ≤ w.heap.size
/-- What a reader's method leaves: all blocks but its own. -/
structure Kept1 (w w' : World) (g : Nat) : Prop where
  kept : ∀ k, k < w.heap.size → k ≠ g → w'.heap[k]? = w.heap[k]?
  size : w.heap.size ≤ w'.heap.size
  bel : Below g w w'
theorem Kept1.trans {w w1 w2 : World} {g : Nat} (h : Kept1 w w1 g) (h2 : Kept1 w1 w2 g) : Kept1 w w2 g :=
  ⟨fun k a b => (h2.kept k (Nat.lt_of_lt_of_le a h.size) b).trans (h.kept k a b), Nat.le_trans h.size h2.size, h.bel.trans h2.bel⟩
theorem Kept1.of_below {w w1 : World} {g : Nat} (h : Below w.heap.size w w1) (hg : g < w.heap.size) : Kept1 w w1 g := ⟨fun k a _ => h.block k a, h.size, h.mono (Nat.le_of_lt hg)⟩
theorem RdV.lt {w : World} {g N : Nat} {A : Option Addr} {c : Nat} {l : List Int} {f : Int} (h : RdV w g N A c l f) : g < w.heap.size := (Array.getElem?_eq_some_iff.1 h.cell).1
theorem RdV.below {w w1 : World} {g N : Nat} {A : Option Addr} {c : Nat} {l : List Int} {f : Int} (h : RdV w g N A c l f) (hb : Below w.heap.size w w1) : RdV w1 g N A c l f :=
  ⟨(hb.block g h.lt).trans h.cell, Kd.C_below h.row hb, h.cap, h.ne, h.old, h.lo, Nat.le_trans h.hi hb.size⟩
/-- The panic that is too few bytes. -/
def fewP (f : Int) : List PanicEntry := [{ v := .iface 77 (.agg #[.int .i64 f]), recovered := false }]

theorem run_panic_few (w : World) (f : Int) : (Instr.panic (.iface 77 (.agg #[.int .i64 f]))).run Try.prog w = .halt (.panic (.iface 77 (.agg #[.int .i64 f]))) w := by
  simp [Instr.panic]
theorem one_two_set {w : World} {b : Nat} {v x : Value} {t : TypeId} (h : w.heap[b]? = some (.cells #[v, x] t (0, 0))) (y : Value) : (w.setCell ⟨b, 0, none⟩ y).heap[b]? = some (.cells #[y, x] t (0, 0)) := by
  have hlt : b < w.heap.size := (Array.getElem?_eq_some_iff.1 h).1
  have h' : w.heap[b] = .cells #[v, x] t (0, 0) := by simpa [Array.getElem?_eq_getElem hlt] using h
  show (w.heap.modify b _)[b]? = _
  rw [Array.getElem?_eq_getElem (by simpa using hlt), Array.getElem_modify_self, h']
  rfl
theorem add_block (a : Addr) (n : Nat) : (a.add n).block = a.block := by unfold Addr.add; split <;> rfl
theorem Kept1.of_set (w : World) (g o : Nat) (v : Value) : Kept1 w (w.setCell ⟨g, o, none⟩ v) g := ⟨fun k _ h2 => Below.heap_setCell w ⟨g, o, none⟩ v k h2, by simp, (Below.refl g w).setCell (p := ⟨g, o, none⟩) (Nat.le_refl _) v⟩
theorem Kept1.C {w w' : World} {g : Nat} (h : Kept1 w w' g) {A : Option Addr} {n : Nat} {xs : List Int} (hC : Kd.C (Kd.int .u8) w A n xs) (hne : ∀ ad, A = some ad → 0 < n → ad.block ≠ g) : Kd.C (Kd.int .u8) w' A n xs :=
  Kd.C_keep 0 hC ⟨h.size, fun k h1 h2 _ => h.kept k h1 h2⟩ hne
/-- The reader behind a taking. -/
theorem RdV.took {w : World} {g N : Nat} {A : Option Addr} {c : Nat} {l : List Int} {f : Int} (h : RdV w g N A c l f) (n : Nat) (hn : n ≤ l.length) :
    RdV (w.setCell ⟨g, 0, none⟩ (.slice (if c = n then A else A.map (·.add n)) (l.length - n) (c - n))) g N (if c = n then A else A.map (·.add n)) (c - n) (l.drop n) f := by
  have hd := Kd.C_drop h.row hn h.cap
  rw [show n * (Kd.int .u8).sz = n from Nat.mul_one n] at hd
  have hA : ∀ ad, (if c = n then A else A.map (·.add n)) = some ad → 0 < (l.drop n).length → ad.block ≠ g ∧ ad.block < N := by
    intro ad he h0
    rw [List.length_drop] at h0
    rw [if_neg (by have := h.cap; omega)] at he
    obtain ⟨a, ha, rfl⟩ := Option.map_eq_some_iff.1 he
    rw [add_block]
    exact ⟨h.ne a ha (by omega), h.old a ha (by omega)⟩
  refine ⟨?_, (Kept1.of_set w g 0 _).C hd (fun ad he h0 => (hA ad he h0).1), by rw [List.length_drop]; have := h.cap; omega, fun ad he h0 => (hA ad he h0).1, fun ad he h0 => (hA ad he h0).2, h.lo, Nat.le_trans h.hi (by simp)⟩
  rw [List.length_drop]; exact one_two_set h.cell _
theorem RdV.front {w : World} {g N : Nat} {A : Option Addr} {c : Nat} {l : List Int} {f : Int} (h : RdV w g N A c l f) (n : Nat) (hn : n ≤ l.length) (w' : World) (hk : Kept1 w w' g) : Kd.C (Kd.int .u8) w' A n (l.take n) := by
  have ht := Kd.C_take h.row hn
  rw [List.length_take, Nat.min_eq_left hn] at ht
  exact hk.C ht (fun ad e h0 => h.ne ad e (by omega))
set_option maxHeartbeats 1000000 in
theorem take_few (w : World) (g N : Nat) (A : Option Addr) (c : Nat) (l : List Int) (f n : Int) (h : RdV w g N A c l f) (hn : n < 0 ∨ (l.length : Int) < n) :
    Calls Try.prog 60 #[.pointer (some ⟨g, 0, none⟩), .int .i64 n] w fun e w' => e = .panicked (fewP 4) ∧ Drawn0 w w' := by
  have HW := Aside0.mk h
  have hc0 : w.cell? ⟨g, 0, none⟩ = some (.slice A l.length c) := by simp [World.cell?, h.cell]
  clear h
  by_cases h0 : n < 0
  · have e0 : decide (n < 0) = true := decide_eq_true h0
    go_enter Try.func60, Try.ntmps60
    have hp := run_panic_few w 4
    go_wp2_with fail
    exact ⟨rfl, rfl, Drawn0.refl _⟩
  · have e0 : decide (n < 0) = false := decide_eq_false h0
    have e1 : decide ((l.length : Int) < n) = true := decide_eq_true (by omega)
    have hp := run_panic_few w 4
    go_enter Try.func60, Try.ntmps60
    go_wp2_with fail
    exact ⟨rfl, rfl, Drawn0.refl _⟩
set_option maxHeartbeats 1000000 in
theorem take_some (w : World) (g N : Nat) (A : Option Addr) (c : Nat) (l : List Int) (f : Int) (n : Nat) (h : RdV w g N A c l f) (hn : n ≤ l.length) :
    Calls Try.prog 60 #[.pointer (some ⟨g, 0, none⟩), .int .i64 n] w fun e w' => ∃ A2 c2 A3, e = .returned (.slice A3 n n) ∧ Kd.C (Kd.int .u8) w' A3 n (l.take n) ∧ RdV w' g N A2 c2 (l.drop n) f ∧ Kept1 w w' g := by
  have HW := Aside0.mk h
  have hc0 : w.cell? ⟨g, 0, none⟩ = some (.slice A l.length c) := by simp [World.cell?, h.cell]
  have hf0 : w.frozen? ⟨g, 0, none⟩ = false := by simp [World.frozen?, h.cell]
  have e0 : decide ((n : Int) < 0) = false := decide_eq_false (by omega)
  have e1 : decide ((l.length : Int) < n) = false := decide_eq_false (by omega)
  have e2 : (l.length < n) = False := eq_false (by omega)
  have e3 : (n ≤ c) = True := eq_true (by have := h.cap; omega)
  have e4 : (n ≤ l.length) = True := eq_true hn
  have e5 : (l.length ≤ c) = True := eq_true h.cap
  have HK := Aside0.mk (h.took n hn)
  have HF := Aside0.mk (h.front n hn)
  have HS := Aside0.mk (Kept1.of_set w g 0)
  clear h
  by_cases hcn : c = n
  · rw [if_pos hcn] at HK
    have hl : l.length = n := by have := HW.out.cap; omega
    go_enter Try.func60, Try.ntmps60
    go_wp2_with fail
    go_ret
    refine ⟨A, c - n, A, rfl, HF.out _ (HS.out _), ?_, HS.out _⟩
    have := HK.out
    simpa [hl, hcn] using this
  · rw [if_neg hcn] at HK
    go_enter Try.func60, Try.ntmps60
    go_wp2_with fail
    go_ret
    exact ⟨_, _, _, rfl, HF.out _ (HS.out _), HK.out, HS.out _⟩

/-- What take answers. -/
theorem take_calls (w : World) (g N : Nat) (A : Option Addr) (c : Nat) (l : List Int) (f n : Int) (h : RdV w g N A c l f) :
    Calls Try.prog 60 #[.pointer (some ⟨g, 0, none⟩), .int .i64 n] w fun e w' => ∃ A2 c2 l2, RdV w' g N A2 c2 l2 f ∧ Kept1 w w' g ∧
      ((0 ≤ n ∧ n ≤ l.length ∧ (∃ A3, e = .returned (.slice A3 n.toNat n.toNat) ∧ Kd.C (Kd.int .u8) w' A3 n.toNat (l.take n.toNat)) ∧ l2 = l.drop n.toNat) ∨ (¬ (0 ≤ n ∧ n ≤ l.length) ∧ e = .panicked (fewP 4))) := by
  by_cases hn : 0 ≤ n ∧ n ≤ l.length
  · obtain ⟨k, rfl⟩ := Int.eq_ofNat_of_zero_le hn.1
    refine (take_some w g N A c l f k h (by omega)).mono ?_
    rintro e w' ⟨A2, c2, A3, rfl, h1, h2, h3⟩
    exact ⟨A2, c2, _, h2, h3, .inl ⟨hn.1, hn.2, ⟨A3, rfl, h1⟩, rfl⟩⟩
  · refine (take_few w g N A c l f n h (by omega)).mono ?_
    rintro e w' ⟨rfl, hd⟩
    exact ⟨A, c, l, h.below hd.below, Kept1.of_below hd.below h.lt, .inr ⟨hn, rfl⟩⟩

/-- The bytes are bytes. -/
def u8L (l : List Int) : Prop := ∀ x ∈ l, (Lit.int .u8 x).wf = true
set_option maxHeartbeats 1000000 in
theorem number_calls2 (w : World) (g N : Nat) (A : Option Addr) (c : Nat) (l : List Int) (f n : Int) (h : RdV w g N A c l f) (hu : u8L l) :
    Calls Try.prog 62 #[.pointer (some ⟨g, 0, none⟩), .int .i64 n] w fun e w' => ∃ A2 c2 l2, RdV w' g N A2 c2 l2 f ∧ Kept1 w w' g ∧
      ((1 ≤ n ∧ n ≤ 8 ∧ n ≤ l.length ∧ e = .returned (.int .u64 (Pure.getV (l.take n.toNat))) ∧ l2 = l.drop n.toNat) ∨ (¬ (1 ≤ n ∧ n ≤ 8 ∧ n ≤ l.length) ∧ e = .panicked (fewP 4))) := by
  have HT := Aside0.mk (take_calls w g N A c l f n h)
  have HU := Aside0.mk hu
  clear h hu
  go_enter Try.func62, Try.ntmps62
  go_wp2_with fail
  refine HT.out.mono ?_
  rintro e w1 ⟨A2, c2, l2, h1, h2, ⟨hn0, hn1, ⟨A3, rfl, hC⟩, rfl⟩ | ⟨hn, rfl⟩⟩
  · have HR := Aside0.mk h1
    have HK := Aside0.mk h2
    have hl : (l.take n.toNat).length = n.toNat := by rw [List.length_take]; omega
    obtain ⟨K, hK⟩ := Pure.get_ev (l.take n.toNat) (fun x hx => HU.out x (List.mem_of_mem_take hx))
    replace hC : Kd.C (Kd.int .u8) w1 A3 (l.take n.toNat).length (l.take n.toNat) := by rw [hl]; exact hC
    have HG := Aside0.mk (fun r1 r2 hr => num_Get.calls K A3 (l.take n.toNat).length (l.take n.toNat) r1 r2 w1 hC (Nat.le_refl _) ((hK K (Nat.le_refl _)).trans hr))
    rw [hl] at HG
    have HL := Aside0.mk hl
    clear h1 h2 hC hK hl
    go_wp2_with fail
    by_cases hb : n = 0 ∨ 8 < n
    · refine (HG.out 0 4 (by rw [Pure.getR, if_pos (by rw [HL.out]; omega)])).mono ?_
      rintro e w2 ⟨rfl, hd⟩
      have HD := Aside0.mk hd
      clear hd HG
      have hp := run_panic_few w2 4
      go_wp2_with fail
      exact ⟨rfl, _, _, _, HR.out.below HD.out.below, HK.out.trans (Kept1.of_below HD.out.below HR.out.lt), .inr ⟨by omega, rfl⟩⟩
    · refine (HG.out (Pure.getV (l.take n.toNat)) 0 (by rw [Pure.getR, if_neg (by rw [HL.out]; omega)])).mono ?_
      rintro e w2 ⟨rfl, hd⟩
      have HD := Aside0.mk hd
      clear hd HG
      go_wp2_with fail
      go_ret
      exact ⟨_, _, _, HR.out.below HD.out.below, HK.out.trans (Kept1.of_below HD.out.below HR.out.lt), .inl ⟨by omega, by omega, hn1, rfl, rfl⟩⟩
  · have HR := Aside0.mk h1
    have HK := Aside0.mk h2
    go_wp2_with fail
    exact ⟨rfl, _, _, _, HR.out, HK.out, .inr ⟨by omega, rfl⟩⟩
end Go.Proofs.Ytbodefikbonjaaa.Q

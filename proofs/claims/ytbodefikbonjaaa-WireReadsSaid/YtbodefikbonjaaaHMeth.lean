/- A reader's methods, by hand. -/
import Derived.Test.YtbodefikbonjaaaHClos
namespace Go.Proofs.Ytbodefikbonjaaa.Q
open Go.RowKit Go.Proofs.YtbodefikbonjaaaW.PrintWords Go.Proofs.YtbodefikbonjaaaW.PrintLast Go.Proofs.YtbodefikbonjaaaW.PrintMore
set_option linter.unusedVariables false

/-- What a method of a reader answers: a value, the reader goes on; or too little was there. -/
theorem Kept1.alloc {w w1 : World} {g : Nat} (h : Kept1 w w1 g) (hg : g < w.heap.size) (o : Obj) : Kept1 w (w1.alloc o) g :=
  h.trans (Kept1.of_below (below_alloc (Below.refl _ _) o) (Nat.lt_of_lt_of_le hg h.size))
theorem Kept1.refl (w : World) (g : Nat) : Kept1 w w g := ⟨fun _ _ _ => rfl, Nat.le_refl _, Below.refl _ _⟩

theorem Kept1.setn {w w1 : World} {g q o : Nat} (h : Kept1 w w1 g) (hg : g < w.heap.size) (hq : w.heap.size ≤ q) (v : Value) : Kept1 w (w1.setCell ⟨q, o, none⟩ v) g := (Kept1.refl w g).then2 (h.set2 v) hg hq
theorem blk_old {w : World} {k : Nat} {o o2 : Obj} (h : w.heap[k]? = some o) : (w.alloc o2).heap[k]? = some o := by
  have hlt := (Array.getElem?_eq_some_iff.1 h).1
  exact ((below_alloc (Below.refl w.heap.size w) o2).block k hlt).trans h
theorem size_alloc (w : World) (o : Obj) : (w.alloc o).heap.size = w.heap.size + 1 := by simp

set_option maxHeartbeats 2000000 in
theorem rbyte_calls (w : World) (g N : Nat) (A : Option Addr) (c : Nat) (l : List Int) (f : Int) (h : RdV w g N A c l f) :
    Calls Try.prog 46 #[.pointer (some ⟨g, 0, none⟩)] w fun e w' => Kept1 w w' g ∧
      ((∃ A2 c2, f = 0 ∧ 1 ≤ l.length ∧ e = .returned (.int .u8 (rd l 0)) ∧ RdV w' g N A2 c2 (l.drop 1) 0) ∨
       (f = 0 ∧ ¬ 1 ≤ l.length ∧ e = .returned (.int .u8 0) ∧ RdV w' g N none 0 [] 4) ∨ (f ≠ 0 ∧ e = .returned (.int .u8 0) ∧ RdV w' g N A c l f)) := by
  have hmf : ∀ (fn : Fn) (first cap : Array Value) (w : World), (Instr.makeFunc fn first cap).run Try.prog w = .ok (.func fn first cap) w := fun _ _ _ _ => rfl
  have hg := h.lt
  have hlo := h.lo
  have hhi := h.hi
  obtain ⟨W1, hW1⟩ : ∃ W1, W1 = (w.alloc (.cells #[.pointer (some ⟨g, 0, none⟩)] 53)).alloc (.cells #[.int .u8 0] 5) := ⟨_, rfl⟩
  have hrv : W1.heap[w.heap.size]? = some (.cells #[.pointer (some ⟨g, 0, none⟩)] 53 (0, 0)) := by rw [hW1]; exact blk_old (heap_alloc_new w _)
  have hcv : W1.heap[w.heap.size + 1]? = some (.cells #[.int .u8 0] 5 (0, 0)) := by
    have := heap_alloc_new (w.alloc (.cells #[.pointer (some ⟨g, 0, none⟩)] 53)) (.cells #[.int .u8 0] 5)
    rw [size_alloc] at this; rw [hW1]; exact this
  have hs1 : W1.heap.size = w.heap.size + 2 := by rw [hW1, size_alloc, size_alloc]
  have hb1 : Below w.heap.size w W1 := by rw [hW1]; exact below_alloc (below_alloc (Below.refl _ _) _) _
  have hk1 := Kept1.of_below hb1 hg
  have h1 := h.below hb1
  by_cases hf : f = 0
  · subst hf
    have hb2 := below_alloc (Below.refl W1.heap.size W1) (.cells #[.pointer (some ⟨g, 0, none⟩)] 53)
    have hs2 := size_alloc W1 (.cells #[.pointer (some ⟨g, 0, none⟩)] 53)
    have hC := clos59 (W1.alloc (.cells #[.pointer (some ⟨g, 0, none⟩)] 53)) w.heap.size (w.heap.size + 1) g N A c l 0 (h1.below hb2) (blk_old hrv) (blk_old hcv) (by omega)
    have HF := Aside0.mk (field_on59 W1 g N A c l h1 #[.pointer (some ⟨w.heap.size, 0, none⟩), .pointer (some ⟨w.heap.size + 1, 0, none⟩)]
      (fun w' => Kept1 w w' g ∧ 1 ≤ l.length ∧ (∃ A2 c2, RdV w' g N A2 c2 (l.drop 1) 0) ∧ w'.heap[w.heap.size + 1]? = some (.cells #[.int .u8 (rd l 0)] 5 (0, 0)))
      (fun w' => Kept1 w w' g ∧ ¬ 1 ≤ l.length ∧ RdV w' g N none 0 [] 4 ∧ w'.heap[w.heap.size + 1]? = some (.cells #[.int .u8 0] 5 (0, 0)))
      (hC.mono (by
        rintro e w' ⟨hk, hh⟩
        have hkk := (hk1.trans (Kept1.of_below hb2 (Nat.lt_of_lt_of_le hg hb1.size))).then2 hk hg (by omega)
        refine ⟨(hk.kept W1.heap.size (by omega) (by omega) (by omega)).trans (heap_alloc_new W1 _), ?_⟩
        rcases hh with ⟨A2, c2, rfl, hl, hr, hcc⟩ | ⟨hl, rfl, hr, hcc⟩
        · exact .inl ⟨rfl, hkk, hl, ⟨A2, c2, hr⟩, hcc⟩
        · refine .inr ⟨rfl, hr, fun w2 hk2 hr2 => ⟨hkk.trans hk2, hl, hr2, (hk2.kept (w.heap.size + 1) (Array.getElem?_eq_some_iff.1 hcc).1 (by omega)).trans hcc⟩⟩)))
    clear hC hrv hcv hb1 hk1 h1 hb2 hs2
    go_enter Try.func46, Try.ntmps46
    go_wp2_with fail
    rw [← hW1]
    refine HF.out.mono ?_
    rintro e w1 ⟨rfl, ⟨hk, hl, ⟨A2, c2, hr⟩, hcc⟩ | ⟨hk, hl, hr, hcc⟩⟩
    · have hcell := cell_of_one hcc
      have hfree := free_of_one hcc
      go_wp2_with fail
      have hset := cell_of_one (one_setCell (u := .int .u8 (rd l 0)) hcc)
      exact ⟨rfl, .int .u8 (rd l 0), by simp [results, Try.results46, go_sem, hset], hk.setn hg (by omega) _, .inl ⟨A2, c2, trivial, hl, rfl, hr.far _ 0 (by omega) _⟩⟩
    · have hcell := cell_of_one hcc
      have hfree := free_of_one hcc
      go_wp2_with fail
      have hset := cell_of_one (one_setCell (u := .int .u8 0) hcc)
      exact ⟨rfl, .int .u8 0, by simp [results, Try.results46, go_sem, hset], hk.setn hg (by omega) _, .inr (.inl ⟨trivial, hl, rfl, hr.far _ 0 (by omega) _⟩)⟩
  · have HF := Aside0.mk (field_off W1 g N A c l f h1 hf (.func (.func 59) #[] #[.pointer (some ⟨w.heap.size, 0, none⟩), .pointer (some ⟨w.heap.size + 1, 0, none⟩)]))
    go_enter Try.func46, Try.ntmps46
    go_wp2_with fail
    rw [← hW1]
    refine HF.out.mono ?_
    rintro e w1 ⟨rfl, hb⟩
    have hcell := cell_of_one ((hb.block (w.heap.size + 1) (by omega)).trans hcv)
    have hfree := free_of_one ((hb.block (w.heap.size + 1) (by omega)).trans hcv)
    have hset := cell_of_one (one_setCell (u := .int .u8 0) ((hb.block (w.heap.size + 1) (by omega)).trans hcv))
    go_wp2_with fail
    exact ⟨rfl, .int .u8 0, by simp [results, Try.results46, go_sem, hset], (hk1.trans (Kept1.of_below hb h1.lt)).setn hg (by omega) _, .inr (.inr ⟨hf, rfl, (h1.below hb).far _ 0 (by omega) _⟩)⟩

/-- The three variables that a method's closure takes. -/
theorem three (w : World) (a b c : Obj) : ((w.alloc a).alloc b).alloc c = ((w.alloc a).alloc b).alloc c ∧ (((w.alloc a).alloc b).alloc c).heap[w.heap.size]? = some a ∧ (((w.alloc a).alloc b).alloc c).heap[w.heap.size + 1]? = some b ∧ (((w.alloc a).alloc b).alloc c).heap[w.heap.size + 2]? = some c ∧ (((w.alloc a).alloc b).alloc c).heap.size = w.heap.size + 3 ∧ Below w.heap.size w (((w.alloc a).alloc b).alloc c) := by
  refine ⟨rfl, blk_old (blk_old (heap_alloc_new w a)), blk_old ?_, ?_, by simp, below_alloc (below_alloc (below_alloc (Below.refl _ _) _) _) _⟩
  · have := heap_alloc_new (w.alloc a) b
    rwa [size_alloc] at this
  · have := heap_alloc_new ((w.alloc a).alloc b) c
    rwa [size_alloc, size_alloc] at this

set_option maxHeartbeats 2000000 in
theorem rnumber_calls (w : World) (g N : Nat) (A : Option Addr) (c : Nat) (l : List Int) (f s : Int) (h : RdV w g N A c l f) (hu : u8L l) :
    Calls Try.prog 47 #[.pointer (some ⟨g, 0, none⟩), .int .i64 s] w fun e w' => Kept1 w w' g ∧
      ((∃ A2 c2, f = 0 ∧ (1 ≤ s ∧ s ≤ 8 ∧ s ≤ l.length) ∧ e = .returned (.int .u64 (Pure.getV (l.take s.toNat))) ∧ RdV w' g N A2 c2 (l.drop s.toNat) 0) ∨
       (f = 0 ∧ ¬ (1 ≤ s ∧ s ≤ 8 ∧ s ≤ l.length) ∧ e = .returned (.int .u64 0) ∧ RdV w' g N none 0 [] 4) ∨ (f ≠ 0 ∧ e = .returned (.int .u64 0) ∧ RdV w' g N A c l f)) := by
  have hmf : ∀ (fn : Fn) (first cap : Array Value) (w : World), (Instr.makeFunc fn first cap).run Try.prog w = .ok (.func fn first cap) w := fun _ _ _ _ => rfl
  have hg := h.lt
  have hlo := h.lo
  have hhi := h.hi
  obtain ⟨_, hrv, hsv, hcv, hs1, hb1⟩ := three w (.cells #[.pointer (some ⟨g, 0, none⟩)] 53) (.cells #[.int .i64 s] 3) (.cells #[.int .u64 0] 34)
  obtain ⟨W1, hW1⟩ : ∃ W1, W1 = ((w.alloc (.cells #[.pointer (some ⟨g, 0, none⟩)] 53)).alloc (.cells #[.int .i64 s] 3)).alloc (.cells #[.int .u64 0] 34) := ⟨_, rfl⟩
  rw [← hW1] at hrv hsv hcv hs1 hb1
  have hk1 := Kept1.of_below hb1 hg
  have h1 := h.below hb1
  by_cases hf : f = 0
  · subst hf
    have hb2 := below_alloc (Below.refl W1.heap.size W1) (.cells #[.pointer (some ⟨g, 0, none⟩)] 53)
    have hs2 := size_alloc W1 (.cells #[.pointer (some ⟨g, 0, none⟩)] 53)
    have hC := clos61 (W1.alloc (.cells #[.pointer (some ⟨g, 0, none⟩)] 53)) w.heap.size (w.heap.size + 1) (w.heap.size + 2) g N A c l s 0 (h1.below hb2) hu (blk_old hrv) (blk_old hsv) (blk_old hcv) (by omega)
    have HF := Aside0.mk (field_on61 W1 g N A c l h1 #[.pointer (some ⟨w.heap.size, 0, none⟩), .pointer (some ⟨w.heap.size + 1, 0, none⟩), .pointer (some ⟨w.heap.size + 2, 0, none⟩)]
      (fun w' => Kept1 w w' g ∧ (1 ≤ s ∧ s ≤ 8 ∧ s ≤ l.length) ∧ (∃ A2 c2, RdV w' g N A2 c2 (l.drop s.toNat) 0) ∧ w'.heap[w.heap.size + 2]? = some (.cells #[.int .u64 (Pure.getV (l.take s.toNat))] 34 (0, 0)))
      (fun w' => Kept1 w w' g ∧ ¬ (1 ≤ s ∧ s ≤ 8 ∧ s ≤ l.length) ∧ RdV w' g N none 0 [] 4 ∧ w'.heap[w.heap.size + 2]? = some (.cells #[.int .u64 0] 34 (0, 0)))
      (hC.mono (by
        rintro e w' ⟨hk, hh⟩
        have hkk := (hk1.trans (Kept1.of_below hb2 (Nat.lt_of_lt_of_le hg hb1.size))).then2 hk hg (by omega)
        refine ⟨(hk.kept W1.heap.size (by omega) (by omega) (by omega)).trans (heap_alloc_new W1 _), ?_⟩
        rcases hh with ⟨A2, c2, rfl, hl, hr, hcc⟩ | ⟨hl, rfl, hr, hcc⟩
        · exact .inl ⟨rfl, hkk, hl, ⟨A2, c2, hr⟩, hcc⟩
        · refine .inr ⟨rfl, hr, fun w2 hk2 hr2 => ⟨hkk.trans hk2, hl, hr2, (hk2.kept (w.heap.size + 2) (Array.getElem?_eq_some_iff.1 hcc).1 (by omega)).trans hcc⟩⟩)))
    clear hC hrv hsv hcv hb1 hk1 h1 hb2 hs2 hu
    go_enter Try.func47, Try.ntmps47
    go_wp2_with fail
    rw [← hW1]
    refine HF.out.mono ?_
    rintro e w1 ⟨rfl, ⟨hk, hl, ⟨A2, c2, hr⟩, hcc⟩ | ⟨hk, hl, hr, hcc⟩⟩
    · have hcell := cell_of_one hcc
      have hfree := free_of_one hcc
      have HL := Aside0.mk hl
      clear hl
      go_wp2_with fail
      have hset := cell_of_one (one_setCell (u := .int .u64 (Pure.getV (l.take s.toNat))) hcc)
      exact ⟨rfl, .int .u64 (Pure.getV (l.take s.toNat)), by simp [results, Try.results47, go_sem, hset], hk.setn hg (by omega) _, .inl ⟨A2, c2, trivial, HL.out, rfl, hr.far _ 0 (by omega) _⟩⟩
    · have hcell := cell_of_one hcc
      have hfree := free_of_one hcc
      have HL := Aside0.mk hl
      clear hl
      go_wp2_with fail
      have hset := cell_of_one (one_setCell (u := .int .u64 0) hcc)
      exact ⟨rfl, .int .u64 0, by simp [results, Try.results47, go_sem, hset], hk.setn hg (by omega) _, .inr (.inl ⟨trivial, HL.out, rfl, hr.far _ 0 (by omega) _⟩)⟩
  · have HF := Aside0.mk (field_off W1 g N A c l f h1 hf (.func (.func 61) #[] #[.pointer (some ⟨w.heap.size, 0, none⟩), .pointer (some ⟨w.heap.size + 1, 0, none⟩), .pointer (some ⟨w.heap.size + 2, 0, none⟩)]))
    go_enter Try.func47, Try.ntmps47
    go_wp2_with fail
    rw [← hW1]
    refine HF.out.mono ?_
    rintro e w1 ⟨rfl, hb⟩
    have hcc := (hb.block (w.heap.size + 2) (by omega)).trans hcv
    have hcell := cell_of_one hcc
    have hfree := free_of_one hcc
    have hset := cell_of_one (one_setCell (u := .int .u64 0) hcc)
    go_wp2_with fail
    exact ⟨rfl, .int .u64 0, by simp [results, Try.results47, go_sem, hset], (hk1.trans (Kept1.of_below hb h1.lt)).setn hg (by omega) _, .inr (.inr ⟨hf, rfl, (h1.below hb).far _ 0 (by omega) _⟩)⟩

set_option maxHeartbeats 2000000 in
theorem rbytes_calls (w : World) (g N : Nat) (A : Option Addr) (c : Nat) (l : List Int) (f s : Int) (h : RdV w g N A c l f) (hu : u8L l) (hll : l.length < 1000000) :
    Calls Try.prog 48 #[.pointer (some ⟨g, 0, none⟩), .int .i64 s] w fun e w' => Kept1 w w' g ∧
      ((∃ A2 c2 v, f = 0 ∧ bytesIs l s ∧ e = .returned v ∧ Kd.R (Kd.int .u8) 5 w' w.heap.size (fun _ => True) v ((l.drop 2).take (bytesN l).toNat) ∧ RdV w' g N A2 c2 (l.drop (2 + (bytesN l).toNat)) 0) ∨
       (f = 0 ∧ ¬ bytesIs l s ∧ e = .returned (.slice none 0 0) ∧ RdV w' g N none 0 [] 4) ∨ (f ≠ 0 ∧ e = .returned (.slice none 0 0) ∧ RdV w' g N A c l f)) := by
  have hmf : ∀ (fn : Fn) (first cap : Array Value) (w : World), (Instr.makeFunc fn first cap).run Try.prog w = .ok (.func fn first cap) w := fun _ _ _ _ => rfl
  have hg := h.lt
  have hlo := h.lo
  have hhi := h.hi
  obtain ⟨_, hrv, hsv, hcv, hs1, hb1⟩ := three w (.cells #[.pointer (some ⟨g, 0, none⟩)] 53) (.cells #[.int .i64 s] 3) (.cells #[.slice none 0 0] 22)
  obtain ⟨W1, hW1⟩ : ∃ W1, W1 = ((w.alloc (.cells #[.pointer (some ⟨g, 0, none⟩)] 53)).alloc (.cells #[.int .i64 s] 3)).alloc (.cells #[.slice none 0 0] 22) := ⟨_, rfl⟩
  rw [← hW1] at hrv hsv hcv hs1 hb1
  have hk1 := Kept1.of_below hb1 hg
  have h1 := h.below hb1
  by_cases hf : f = 0
  · subst hf
    have hb2 := below_alloc (Below.refl W1.heap.size W1) (.cells #[.pointer (some ⟨g, 0, none⟩)] 53)
    have hs2 := size_alloc W1 (.cells #[.pointer (some ⟨g, 0, none⟩)] 53)
    have hC := clos63 (W1.alloc (.cells #[.pointer (some ⟨g, 0, none⟩)] 53)) w.heap.size (w.heap.size + 1) (w.heap.size + 2) g N A c l s (h1.below hb2) hu hll (blk_old hrv) (blk_old hsv) (blk_old hcv) (by omega) (by omega) (by omega)
    have HF := Aside0.mk (field_on63 W1 g N A c l h1 #[.pointer (some ⟨w.heap.size, 0, none⟩), .pointer (some ⟨w.heap.size + 1, 0, none⟩), .pointer (some ⟨w.heap.size + 2, 0, none⟩)]
      (fun w' => Kept1 w w' g ∧ bytesIs l s ∧ (∃ A2 c2 v, RdV w' g N A2 c2 (l.drop (2 + (bytesN l).toNat)) 0 ∧ w'.heap[w.heap.size + 2]? = some (.cells #[v] 22 (0, 0)) ∧ Kd.R (Kd.int .u8) 5 w' W1.heap.size (fun _ => True) v ((l.drop 2).take (bytesN l).toNat)))
      (fun w' => Kept1 w w' g ∧ ¬ bytesIs l s ∧ RdV w' g N none 0 [] 4 ∧ w'.heap[w.heap.size + 2]? = some (.cells #[.slice none 0 0] 22 (0, 0)))
      (hC.mono (by
        rintro e w' ⟨hk, hh⟩
        have hkk := (hk1.trans (Kept1.of_below hb2 (Nat.lt_of_lt_of_le hg hb1.size))).then2 hk hg (by omega)
        refine ⟨(hk.kept W1.heap.size (by omega) (by omega) (by omega)).trans (heap_alloc_new W1 _), ?_⟩
        rcases hh with ⟨A2, c2, v, rfl, hl, hr, hcc, hR⟩ | ⟨hl, rfl, hr, hcc⟩
        · exact .inl ⟨rfl, hkk, hl, ⟨A2, c2, v, hr, hcc, Kd.R_lower hR (by omega)⟩⟩
        · refine .inr ⟨rfl, hr, fun w2 hk2 hr2 => ⟨hkk.trans hk2, hl, hr2, (hk2.kept (w.heap.size + 2) (Array.getElem?_eq_some_iff.1 hcc).1 (by omega)).trans hcc⟩⟩)))
    clear hC hrv hsv hcv hb1 hk1 h1 hb2 hs2 hu hll
    go_enter Try.func48, Try.ntmps48
    go_wp2_with fail
    rw [← hW1]
    refine HF.out.mono ?_
    rintro e w1 ⟨rfl, ⟨hk, hl, ⟨A2, c2, v, hr, hcc, hR⟩⟩ | ⟨hk, hl, hr, hcc⟩⟩
    · obtain ⟨A6, c6, rfl⟩ := Kd.R_slice hR
      have hcell := cell_of_one hcc
      have hfree := free_of_one hcc
      have HL := Aside0.mk hl
      have HR := Aside0.mk hR
      have hr2 := Aside0.mk hr
      clear hl hR hr
      generalize hq : (l.drop 2).take (bytesN l).toNat = q at hcell hcc HR ⊢
      have hB1 := Kd.R_mono (Kd.R_bound HR.out) (ok' := fun k => k ≠ w.heap.size + 2) (fun k hk => by have h3 := hk.2.1; omega)
      have hB2 := Kd.R_lower (Kd.R_mono (Kd.R_far hB1 (p := ⟨w.heap.size + 2, 0, none⟩) (fun k hk => hk) (.slice A6 q.length c6)) (fun _ _ => trivial) (ok' := fun _ => True)) (show w.heap.size ≤ W1.heap.size by omega)
      have HB2 := Aside0.mk hB2
      clear hB1 hB2 HR
      go_wp2_with fail
      have hset := cell_of_one (one_setCell (u := .slice A6 q.length c6) hcc)
      exact ⟨rfl, .slice A6 q.length c6, by simp [results, Try.results48, go_sem, hset], hk.setn hg (by omega) _, .inl ⟨A2, c2, _, trivial, HL.out, rfl, (by rw [hq]; exact HB2.out), hr2.out.far _ 0 (by omega) _⟩⟩
    · have hcell := cell_of_one hcc
      have hfree := free_of_one hcc
      have HL := Aside0.mk hl
      clear hl
      go_wp2_with fail
      have hset := cell_of_one (one_setCell (u := .slice none 0 0) hcc)
      exact ⟨rfl, .slice none 0 0, by simp [results, Try.results48, go_sem, hset], hk.setn hg (by omega) _, .inr (.inl ⟨trivial, HL.out, rfl, hr.far _ 0 (by omega) _⟩)⟩
  · have HF := Aside0.mk (field_off W1 g N A c l f h1 hf (.func (.func 63) #[] #[.pointer (some ⟨w.heap.size, 0, none⟩), .pointer (some ⟨w.heap.size + 1, 0, none⟩), .pointer (some ⟨w.heap.size + 2, 0, none⟩)]))
    go_enter Try.func48, Try.ntmps48
    go_wp2_with fail
    rw [← hW1]
    refine HF.out.mono ?_
    rintro e w1 ⟨rfl, hb⟩
    have hcc := (hb.block (w.heap.size + 2) (by omega)).trans hcv
    have hcell := cell_of_one hcc
    have hfree := free_of_one hcc
    have hset := cell_of_one (one_setCell (u := .slice none 0 0) hcc)
    go_wp2_with fail
    exact ⟨rfl, .slice none 0 0, by simp [results, Try.results48, go_sem, hset], (hk1.trans (Kept1.of_below hb h1.lt)).setn hg (by omega) _, .inr (.inr ⟨hf, rfl, (h1.below hb).far _ 0 (by omega) _⟩)⟩
end Go.Proofs.Ytbodefikbonjaaa.Q

/- wire.Writer, by hand: its bytes grow; all else lies as it lay. -/
import Derived.Test.YtbodefikbonjaaaHClone
import Derived.Test.YtbodefikbonjaaaHPut
namespace Go.Proofs.Ytbodefikbonjaaa.Q
open Go.RowKit Go.Proofs.YtbodefikbonjaaaW.PrintWords Go.Proofs.YtbodefikbonjaaaW.PrintLast Go.Proofs.YtbodefikbonjaaaW.PrintMore
set_option linter.unusedVariables false

/-- A writer: its block g, its slice v, its bytes l. -/
structure WrV (w : World) (B g : Nat) (v : Value) (l : List Int) : Prop where
  base : B ≤ g
  cell : w.heap[g]? = some (.cells #[v] 44 (0, 0))
  row : Kd.R (Kd.int .u8) 5 w B (fun k => k ≠ g) v l
/-- What a writer's method leaves: all blocks but its own two. -/
structure Turned (w w' : World) (g : Nat) (v v' : Value) : Prop where
  kept : ∀ k, k < w.heap.size → k ≠ g → some k ≠ v.ownBlock → w'.heap[k]? = w.heap[k]?
  own : v'.ownBlock = v.ownBlock ∨ ∃ b, v'.ownBlock = some b ∧ w.heap.size ≤ b
  size : w.heap.size ≤ w'.heap.size

set_option maxHeartbeats 1000000 in
theorem put_calls (w : World) (B g : Nat) (v : Value) (l : List Int) (A1 : Option Addr) (c1 : Nat) (l1 : List Int) (hw : WrV w B g v l) (hB : B ≤ w.heap.size) (hr1 : Kd.C (Kd.int .u8) w A1 l1.length l1) (hl : l.length + l1.length < 1000000000) :
    Calls Try.prog 57 #[.pointer (some ⟨g, 0, none⟩), .slice A1 l1.length c1] w fun e w' => e = .returned (.tuple #[]) ∧ ∃ v', WrV w' B g v' (l ++ l1) ∧ Below B w w' ∧ Turned w w' g v v' := by
  have HW := Aside0.mk hw
  have HR := Aside0.mk hr1
  have HL := Aside0.mk hl
  have hc := hw.cell
  have hlt : g < w.heap.size := (Array.getElem?_eq_some_iff.1 hc).1
  have hcell : w.cell? ⟨g, 0, none⟩ = some v := by simp [World.cell?, hc]
  clear hw hr1 hl
  go_enter Try.func57, Try.ntmps57
  go_wp2_with (first | ((with_reducible refine gate_builtin (b := .append) (xs := #[.tmp 10, .tmp 11]) rfl ?_); at_builtin; refine Kd.R_append_rows (Kd.int .u8) (w0 := w) B rfl (.tmp 10) (.tmp 11) 22 5 (.int .u8 0) 1 rfl Try.underlying22 info5 rfl (by decide) (by omega) v l l1 _ _ _ (fun k => k ≠ g) (fun _ => False) rfl rfl HW.out.row HR.out (fun _ _ h => h) (fun _ h => h.elim) (fun k hk => by omega) (Below.refl _ _) hB (by have := HL.out; omega) ?_; intro v1 w1 ho hb hg hat; obtain ⟨A2, c2, rfl⟩ := Kd.R_slice ho; rw [List.length_append] at ho hat; have hne : some g ≠ v.ownBlock := fun e => HW.out.row.1 g e.symm rfl; have hc1 : w1.heap[g]? = some (.cells #[v] 44 (0, 0)) := (hg.block g hlt hne).trans hc; have hcell1 := cell_of_one hc1; have hfree1 := free_of_one hc1; have HO := Aside0.mk ho; have HB := Aside0.mk hb; have HG := Aside0.mk hg; have HAT := Aside0.mk hat; clear ho hb hg hat hcell))
  go_end0
  refine ⟨rfl, _, ⟨HW.out.base, one_setCell hc1, Kd.R_far HO.out (fun k hk => hk) _⟩, HB.out.setCell (p := ⟨g, 0, none⟩) HW.out.base _, ⟨fun k h1 h2 h3 => ?_, HAT.out, ?_⟩⟩
  · rw [Below.heap_setCell w1 ⟨g, 0, none⟩ _ k h2]
    exact HG.out.block k h1 h3
  · have := HB.out.size
    simpa using this

theorem Turned.trans {w w1 w2 : World} {g : Nat} {v v1 v2 : Value} (h : Turned w w1 g v v1) (h2 : Turned w1 w2 g v1 v2) : Turned w w2 g v v2 := by
  refine ⟨fun k a b c => ?_, ?_, Nat.le_trans h.size h2.size⟩
  · refine (h2.kept k (Nat.lt_of_lt_of_le a h.size) b ?_).trans (h.kept k a b c)
    rcases h.own with e | ⟨q, e, hq⟩
    · rw [e]; exact c
    · rw [e]; intro hh; cases hh; omega
  · rcases h2.own with e | ⟨q, e, hq⟩
    · rw [e]; exact h.own
    · exact .inr ⟨q, e, Nat.le_trans h.size hq⟩
theorem Turned.of_below {w w1 : World} {g : Nat} (v : Value) (h : Below w.heap.size w w1) : Turned w w1 g v v := ⟨fun k a _ _ => h.block k a, .inl rfl, h.size⟩
theorem WrV.lt {w : World} {B g : Nat} {v : Value} {l : List Int} (h : WrV w B g v l) : g < w.heap.size := (Array.getElem?_eq_some_iff.1 h.cell).1
theorem WrV.below {w w1 : World} {B g : Nat} {v : Value} {l : List Int} (h : WrV w B g v l) (hb : Below w.heap.size w w1) : WrV w1 B g v l :=
  ⟨h.base, (hb.block g h.lt).trans h.cell, Kd.R_below h.row hb⟩

theorem C_int {w : World} {k : IntKind} {A : Option Addr} {n : Nat} {xs : List Int} (h : ReadsInt w k A n xs) : Kd.C (Kd.int k) w A n xs := Kd.C_of_reads (d := 0) h
theorem one_C (w : World) (c : Int) : Kd.C (Kd.int .u8) (w.alloc (.cells #[.int .u8 c] 5)) (some ⟨w.heap.size, 0, none⟩) [c].length [c] := by
  refine C_int ⟨rfl, by simp, fun _ => ⟨_, rfl, fun j hj => ?_⟩⟩
  obtain rfl : j = 0 := by simp at hj; omega
  exact cell_of_one (heap_alloc_new w (.cells #[.int .u8 c] 5))
set_option maxHeartbeats 1000000 in
theorem byte_calls (w : World) (B g : Nat) (v : Value) (l : List Int) (c : Int) (hw : WrV w B g v l) (hB : B ≤ w.heap.size) (hl : l.length + 1 < 1000000000) :
    Calls Try.prog 44 #[.pointer (some ⟨g, 0, none⟩), .int .u8 c] w fun e w' => e = .returned (.tuple #[]) ∧ ∃ v', WrV w' B g v' (l ++ [c]) ∧ Below B w w' ∧ Turned w w' g v v' := by
  have HW := Aside0.mk hw
  have HL := Aside0.mk hl
  clear hw hl
  go_enter Try.func44, Try.ntmps44
  go_wp2_with fail
  have hb : Below w.heap.size w (w.alloc (.cells #[.int .u8 c] 5)) := below_alloc (Below.refl _ _) _
  refine (put_calls _ B g v l (some ⟨w.heap.size, 0, none⟩) 1 [c] (HW.out.below hb) (Nat.le_trans hB hb.size) (one_C w c) HL.out).mono ?_
  rintro e w2 ⟨rfl, v2, h1, h2, h3⟩
  go_wp2_with fail
  go_end0
  exact ⟨rfl, v2, h1, (hb.mono hB).trans h2, (Turned.of_below v hb).trans h3⟩
set_option maxHeartbeats 1000000 in
theorem number_calls (w : World) (B g : Nat) (v : Value) (l : List Int) (n s : Int) (r : List Int) (hw : WrV w B g v l) (hB : B ≤ w.heap.size) (hr : num_Put.f n s = some r) (hl : l.length + r.length < 1000000000) :
    Calls Try.prog 52 #[.pointer (some ⟨g, 0, none⟩), .int .u64 n, .int .i64 s] w fun e w' => e = .returned (.tuple #[]) ∧ ∃ v', WrV w' B g v' (l ++ r) ∧ Below B w w' ∧ Turned w w' g v v' := by
  have HW := Aside0.mk hw
  have HL := Aside0.mk hl
  have HP := Aside0.mk (num_Put.calls n s r w hr)
  clear hw hl hr
  go_enter Try.func52, Try.ntmps52
  go_wp2_with fail
  refine HP.out.mono ?_
  rintro e w1 ⟨v0, rfl, ho, hb⟩
  obtain ⟨A1, c1, rfl, hc1, hC⟩ := Kd.R_reads ho
  go_wp2_with fail
  refine (put_calls w1 B g v l A1 c1 r (HW.out.below hb) (Nat.le_trans hB hb.size) hC HL.out).mono ?_
  rintro e w2 ⟨rfl, v2, h1, h2, h3⟩
  go_wp2_with fail
  go_end0
  exact ⟨rfl, v2, h1, (hb.mono hB).trans h2, (Turned.of_below v hb).trans h3⟩

/-- The bytes of a field of bytes: how many, in two; then they. -/
def fieldB (l : List Int) : List Int := putL l.length 2 ++ l
section
attribute [local go_sem] min2_int min_two
set_option maxHeartbeats 1000000 in
theorem bytes_calls (w : World) (B g : Nat) (v : Value) (l : List Int) (A1 : Option Addr) (c1 : Nat) (l1 : List Int) (hw : WrV w B g v l) (hB : B ≤ w.heap.size) (hr1 : ∀ w' v', Turned w w' g v v' → Below B w w' → Kd.C (Kd.int .u8) w' A1 l1.length l1) (hc1 : l1.length ≤ c1) (hl1 : l1.length ≤ 65535) (hl : l.length + l1.length < 100000000) :
    Calls Try.prog 53 #[.pointer (some ⟨g, 0, none⟩), .slice A1 l1.length c1] w fun e w' => e = .returned (.tuple #[]) ∧ ∃ v', WrV w' B g v' (l ++ fieldB l1) ∧ Below B w w' ∧ Turned w w' g v v' := by
  have HW := Aside0.mk hw
  have HL := Aside0.mk hl
  have HR := Aside0.mk hr1
  have hcc : (l1.length ≤ c1) = True := eq_true hc1
  have hlt : ((65535 : Int) < l1.length) = False := eq_false (by omega)
  have hwr : IntKind.u64.wrap (l1.length : Int) = l1.length := by simp [IntKind.wrap, IntKind.bits, IntKind.signed]; omega
  have hput : num_Put.f (l1.length : Int) 2 = some (putL l1.length 2) := by rw [num_Put.f, if_pos ⟨by omega, by omega⟩, if_neg (by omega)]; rfl
  have HP := Aside0.mk (number_calls w B g v l l1.length 2 _ hw hB hput (by rw [putL, List.length_map, List.length_range]; omega))
  clear hw hl hr1 hc1 hput hl1
  go_enter Try.func53, Try.ntmps53
  go_wp2_with fail
  refine HP.out.mono ?_
  rintro e w1 ⟨rfl, v1, h1, h2, h3⟩
  have HW1 := Aside0.mk h1
  have HB1 := Aside0.mk h2
  have HT1 := Aside0.mk h3
  clear h1 h2 h3 HP
  have hlen : (l ++ putL (l1.length : Int) 2).length = l.length + 2 := by simp [putL]
  have HQ := Aside0.mk (put_calls w1 B g v1 (l ++ putL (l1.length : Int) 2) A1 c1 l1 HW1.out (Nat.le_trans hB HB1.out.size) (HR.out w1 v1 HT1.out HB1.out) (by have := HL.out; rw [hlen]; omega))
  clear hlen
  go_wp2_with fail
  refine HQ.out.mono ?_
  rintro e w2 ⟨rfl, v2, h1, h2, h3⟩
  go_wp2_with fail
  go_end0
  rw [List.append_assoc] at h1
  exact ⟨rfl, v2, h1, HB1.out.trans h2, HT1.out.trans h3⟩
end
theorem cell_same {w w' : World} {b : Nat} (h : w'.heap[b]? = w.heap[b]?) (o : Nat) : w'.cell? ⟨b, o, none⟩ = w.cell? ⟨b, o, none⟩ := by simp only [World.cell?, h]
set_option maxHeartbeats 1000000 in
theorem text_calls (w : World) (B g : Nat) (v : Value) (l : List Int) (s : ByteArray) (hw : WrV w B g v l) (hB : B ≤ w.heap.size) (hs : s.size ≤ 65535) (hl : l.length + s.size < 100000000) :
    Calls Try.prog 45 #[.pointer (some ⟨g, 0, none⟩), .string s] w fun e w' => e = .returned (.tuple #[]) ∧ ∃ v', WrV w' B g v' (l ++ fieldB (bytesOf s)) ∧ Below B w w' ∧ Turned w w' g v v' := by
  have kb := print_bytes (P := Try.prog) 9 22 5 Try.underlying9 Try.underlying22 Try.underlying5 s w
  have hlen := bytesOf_length s
  have hR := bytes_reads w 5 s (by omega)
  have hb := bytes_below (Below.refl w.heap.size w) (Nat.le_refl _) 5 s
  have hcap : s.size ≤ grownCap w s.size 0 5 := grownCap_ge w s.size 0 5
  have HB := Aside0.mk hb
  have hsz : w.heap.size < (Lib.bytesWorld w 5 s).heap.size := by rw [Lib.bytesWorld_size]; omega
  have hown : some w.heap.size ≠ v.ownBlock := fun e => Nat.lt_irrefl _ (Kd.R_lt hw.row _ e.symm)
  have hQ := bytes_calls (Lib.bytesWorld w 5 s) B g v l (some ⟨w.heap.size, 0, none⟩) (grownCap w s.size 0 5) (bytesOf s) (hw.below hb) (Nat.le_trans hB hb.size)
    (fun w' v' ht _ => C_int ⟨rfl, by omega, fun h0 => ⟨_, rfl, fun j hj => by
      obtain ⟨ad, e, hc⟩ := hR.2.2 (by omega)
      cases e
      rw [← hc j (by omega)]
      rw [add_plain]; exact cell_same (ht.kept w.heap.size hsz (by have := hw.lt; omega) hown) _⟩⟩) (by omega) (by omega) (by omega)
  rw [hlen] at hQ
  have HQ := Aside0.mk hQ
  clear hQ hown hsz hb hR hlen hw
  generalize Lib.bytesWorld w 5 s = W1 at kb HQ HB
  go_enter Try.func45, Try.ntmps45
  go_wp2_with fail
  refine HQ.out.mono ?_
  rintro e w2 ⟨rfl, v2, h1, h2, h3⟩
  go_wp2_with fail
  go_end0
  exact ⟨rfl, v2, h1, (HB.out.mono hB).trans h2, (Turned.of_below v HB.out).trans h3⟩
end Go.Proofs.Ytbodefikbonjaaa.Q

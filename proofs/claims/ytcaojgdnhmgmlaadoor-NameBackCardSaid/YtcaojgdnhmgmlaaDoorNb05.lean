import Derived.Test.YtcaojgdnhmgmlaaDoorNb04
import Derived.Test.YtcaojgdnhmgmlaaDoorNb02
import Derived.SliceStrings
import Derived.HandedShaped
import Derived.Shelf.Vars
import Derived.Lib.Split
import Derived.Lib.CountLaws
import Derived.Lib.IndexBytes
section
/- name.Right, by hand: whether a text is a name. -/
namespace Go.Proofs.YtcaojgdnhmgmlaaDoor.Q
open Go.RowKit Go.Shelf Go.Proofs.YtcaojgdnhmgmlaaDoorW.PrintWords Go.Proofs.YtcaojgdnhmgmlaaDoorW.PrintLast Go.Proofs.YtcaojgdnhmgmlaaDoorW.PrintMore
set_option linter.unusedVariables false
attribute [local go_sem] Oper.semAt_some

/-- What a call may lean on: the tables of unicode/utf8; that bytealg's bound is some number. -/
structure LaidS (w : World) : Prop where
  u : LaidU w
  mx : ∃ m, w.cell? ⟨2, 0, none⟩ = some (.int .i64 m)
theorem LaidS.below {w W : World} (h : LaidS w) (hb : Below w.heap.size w W) : LaidS W := by
  obtain ⟨m, hm⟩ := h.mx
  refine ⟨h.u.below hb, m, (hb.cell (p := ⟨2, 0, none⟩) ?_).trans hm⟩
  rcases Nat.lt_or_ge 2 w.heap.size with h' | h'
  · exact h'
  · simp [World.cell?, Array.getElem?_eq_none h'] at hm

/-- The world behind SplitSeq: its three boxes. -/
def boxW (w : World) (s : ByteArray) : World := ((w.alloc (.cells #[.string s] 9)).alloc (.cells #[.string ⟨#[46]⟩] 9)).alloc (.cells #[.int .i64 0] 3)
theorem boxW_is (w : World) (s : ByteArray) : BoxS w.heap.size s (boxW w s) := by
  refine ⟨?_, ?_, ?_⟩
  · rw [boxW, Below.heap_alloc _ _ _ (by simp; omega), Below.heap_alloc _ _ _ (by simp)]; exact heap_alloc_new w _
  · have h := heap_alloc_new (w.alloc (.cells #[.string s] 9)) (.cells #[.string ⟨#[46]⟩] 9)
    rw [World.size_alloc] at h
    rw [boxW, Below.heap_alloc _ _ _ (by simp)]; exact h
  · have h := heap_alloc_new ((w.alloc (.cells #[.string s] 9)).alloc (.cells #[.string ⟨#[46]⟩] 9)) (.cells #[.int .i64 0] 3)
    rw [World.size_alloc, World.size_alloc] at h
    exact h
theorem splitSeq_calls (w : World) (s : ByteArray) :
    Calls Tryd.prog 62 #[.string s, .string ⟨#[46]⟩] w fun e w' => e = .returned (.func (.func 120) #[] #[.pointer (some ⟨w.heap.size + 1, 0, none⟩), .pointer (some ⟨w.heap.size, 0, none⟩), .pointer (some ⟨w.heap.size + 2, 0, none⟩)]) ∧ boxW w s = w' := by
  have hmf : ∀ (fn : Fn) (first cap : Array Value) (w : World), (Instr.makeFunc fn first cap).run Tryd.prog w = .ok (.func fn first cap) w := fun _ _ _ _ => rfl
  go_enter Tryd.func62, Tryd.ntmps62
  go_wp2
  go_ret
  exact ⟨rfl, rfl⟩

/-- Right's own three cells between two pieces: no answer yet, how many pieces, how many runes. -/
structure RI (w : World) (pre : List ByteArray) (W : World) : Prop where
  c0 : W.heap[w.heap.size]? = some (.cells #[.bool false] 4 (0, 0))
  c1 : W.heap[w.heap.size + 1]? = some (.cells #[.int .i64 pre.length] 3 (0, 0))
  c2 : W.heap[w.heap.size + 2]? = some (.cells #[.int .i64 (runesN pre)] 3 (0, 0))
  ok : pre.all partB = true
  bel : Below w.heap.size w W
/-- .. where a piece was no part. -/
structure RX (w : World) (pre : List ByteArray) (W : World) : Prop where
  c0 : W.heap[w.heap.size]? = some (.cells #[.bool false] 4 (0, 0))
  bad : pre.all partB = false
  bel : Below w.heap.size w W
theorem put_below {w W : World} (h : Below w.heap.size w W) (l : Nat) (o o' : Obj) (hl : w.heap.size ≤ l) (hh : W.heap[l]? = some o) : Below w.heap.size w (W.putObj l o') :=
  h.trans ((Below.refl w.heap.size W).grown (grownBy_putObj' W l o') (by have := (Array.getElem?_eq_some_iff.1 hh).1; omega) (fun k e => by cases e; omega))
theorem old_alloc {W : World} {k : Nat} {x : Obj} (o : Obj) (h : W.heap[k]? = some x) : (W.alloc o).heap[k]? = some x := (Below.heap_alloc W o k (Array.getElem?_eq_some_iff.1 h).1).trans h
theorem ri_ab (w : World) (B : Nat) (hB : w.heap.size + 6 ≤ B) : AbB (w.heap.size + 3) B (RI w) :=
  ⟨fun pre W o h => ⟨old_alloc o h.c0, old_alloc o h.c1, old_alloc o h.c2, h.ok, h.bel.alloc h.bel.size o⟩,
   fun pre W l o o' hl hh h => ⟨(World.putObj_heap_other (by omega)).trans h.c0, (World.putObj_heap_other (by omega)).trans h.c1, (World.putObj_heap_other (by omega)).trans h.c2, h.ok, put_below h.bel l o o' (by omega) hh⟩,
   fun pre W v h => ⟨(Below.heap_setCell W _ v _ (by show w.heap.size ≠ w.heap.size + 3; omega)).trans h.c0, (Below.heap_setCell W _ v _ (by show w.heap.size + 1 ≠ w.heap.size + 3; omega)).trans h.c1, (Below.heap_setCell W _ v _ (by show w.heap.size + 2 ≠ w.heap.size + 3; omega)).trans h.c2, h.ok, h.bel.setCell (p := ⟨w.heap.size + 3, 0, none⟩) (by simp) v⟩⟩
theorem rx_ab (w : World) (B : Nat) (hB : w.heap.size + 6 ≤ B) : AbB (w.heap.size + 3) B (RX w) :=
  ⟨fun pre W o h => ⟨old_alloc o h.c0, h.bad, h.bel.alloc h.bel.size o⟩,
   fun pre W l o o' hl hh h => ⟨(World.putObj_heap_other (by omega)).trans h.c0, h.bad, put_below h.bel l o o' (by omega) hh⟩,
   fun pre W v h => ⟨(Below.heap_setCell W _ v _ (by show w.heap.size ≠ w.heap.size + 3; omega)).trans h.c0, h.bad, h.bel.setCell (p := ⟨w.heap.size + 3, 0, none⟩) (by simp) v⟩⟩

theorem wr64 (x : Int) (h0 : -9223372036854775808 ≤ x) (h1 : x ≤ 9223372036854775807) : IntKind.i64.wrap x = x := by
  simp [IntKind.wrap, IntKind.bits, IntKind.signed]; omega
theorem keeps_below {W w1 : World} (hb : Below W.heap.size W w1) : KeepsOthers W w1 := ⟨hb.size, fun k o hk _ => (hb.block k (Array.getElem?_eq_some_iff.1 hk).1).trans hk⟩
theorem runesN_snoc (pre : List ByteArray) (x : ByteArray) : runesN (pre ++ [x]) = runesN pre + ((runesOf x).1.length + 1) := by simp [runesN]
theorem runesN_le (B : Nat) : ∀ pre : List ByteArray, (∀ p ∈ pre, (runesOf p).1.length ≤ B) → runesN pre ≤ (B + 1) * pre.length := by
  intro pre
  induction hn : pre.length generalizing pre with
  | zero => intro _; rw [List.eq_nil_of_length_eq_zero hn]; simp [runesN]
  | succ n ih =>
    intro h
    obtain ⟨q, c, rfl⟩ : ∃ q c, pre = q ++ [c] := ⟨pre.dropLast, pre.getLast (by intro e; subst e; simp at hn), (List.dropLast_concat_getLast _).symm⟩
    have h1 := ih q (by simpa using hn) (fun p hp => h p (by simp [hp]))
    have h2 := h c (by simp)
    rw [runesN_snoc, Nat.mul_add]
    omega

set_option maxRecDepth 100000 in
set_option maxHeartbeats 4000000 in
theorem right_calls (s : ByteArray) (w : World) (hlaid : LaidS w) (hs : s.size < 900000) :
    Calls Tryd.prog 18 #[.string s] w fun e w' => e = .returned (.bool (rightB s)) ∧ Below w.heap.size w w' := by
  refine (callsIn_wide (n := 6)).1 ?_
  refine callsIn_of_wp_marks Tryd.func18 rfl trivial ?_ rfl
  simp only [Tryd.ntmps18, List.size_toArray, List.length_cons, List.length_nil, Nat.reduceAdd, Nat.reduceSub, Array.replicate_succ, Array.replicate_zero, List.push_toArray, List.append_toArray, List.nil_append, List.cons_append]
  obtain ⟨W0, hW0⟩ : ∃ W0, boxW (((w.alloc (.cells #[.bool false] 4)).alloc (.cells #[.int .i64 0] 3)).alloc (.cells #[.int .i64 0] 3)) s = W0 := ⟨_, rfl⟩
  have hsz : W0.heap.size = w.heap.size + 6 := by rw [← hW0]; simp [boxW]
  have hbx : BoxS (w.heap.size + 3) s W0 := by
    have h := boxW_is (((w.alloc (.cells #[.bool false] 4)).alloc (.cells #[.int .i64 0] 3)).alloc (.cells #[.int .i64 0] 3)) s
    rw [hW0] at h
    simpa using h
  have hri : RI w [] W0 := by
    rw [← hW0]
    have h1 := heap_alloc_new (w.alloc (.cells #[.bool false] 4)) (.cells #[.int .i64 0] 3)
    have h2 := heap_alloc_new ((w.alloc (.cells #[.bool false] 4)).alloc (.cells #[.int .i64 0] 3)) (.cells #[.int .i64 0] 3)
    rw [World.size_alloc] at h1
    rw [World.size_alloc, World.size_alloc] at h2
    exact ⟨old_alloc _ (old_alloc _ (old_alloc _ (old_alloc _ (old_alloc _ (heap_alloc_new w _))))), old_alloc _ (old_alloc _ (old_alloc _ (old_alloc _ h1))), old_alloc _ (old_alloc _ (old_alloc _ h2)), rfl, below_alloc (below_alloc (below_alloc (below_alloc (below_alloc (below_alloc (Below.refl _ _) _) _) _) _) _) _⟩
  have HSZ := Aside0.mk hsz
  have HBX := Aside0.mk hbx
  have HRI := Aside0.mk hri
  clear hsz hbx hri
  gi_wp2
  refine ⟨trivial, (callsIn_wide.2 (splitSeq_calls _ s)).mono ?_⟩
  rintro e w' ⟨rfl, rfl⟩
  rw [hW0]
  clear hW0
  gi_wp2
  refine range_box (n := 6) rfl (by omega) (gf := 120) (lb := #[.pointer (some ⟨w.heap.size + 3 + 1, 0, none⟩), .pointer (some ⟨w.heap.size + 3, 0, none⟩), .pointer (some ⟨w.heap.size + 3 + 2, 0, none⟩)]) rfl trivial (enters_of Tryd.func120 (by kernel_rfl) rfl) (k0 := w.heap.size + 3) (by have := HSZ.out; omega) (l := pieces s) (seq_splits 5 (w.heap.size + 3) s W0 (by omega) HBX.out) rfl (RI w) (RX w) (ri_ab w _ (by have := HSZ.out; omega)) (rx_ab w _ (by have := HSZ.out; omega)) HRI.out
    (fun x => { tmps := #[.string s, undef, .pointer (some ⟨w.heap.size, 0, none⟩), .pointer (some ⟨w.heap.size + 1, 0, none⟩), .pointer (some ⟨w.heap.size + 1 + 1, 0, none⟩), .string x, .string s, .func (.func 120) #[] #[.pointer (some ⟨w.heap.size + 1 + 1 + 1 + 1, 0, none⟩), .pointer (some ⟨w.heap.size + 1 + 1 + 1, 0, none⟩), .pointer (some ⟨w.heap.size + 1 + 1 + 1 + 2, 0, none⟩)], .string x, undef, undef, undef, undef, undef, undef, undef, undef, undef, undef, undef, undef, undef, undef, undef, undef, undef], defers := [] }) ?assign ?body ?done ?stop
  case assign =>
    intro r x W K hK
    gi_wp2
    exact hK
  case body =>
    rintro r pre x W hpre hI hW
    have hxs : x.size ≤ s.size := pieces_size _ s rfl x (by obtain ⟨t, ht⟩ := hpre; rw [← ht]; simp)
    have hpl : pre.length ≤ s.size := by
      have h1 := hpre.length_le
      have h2 := (pieces_len _ s rfl).2
      simp at h1; omega
    have hc1 : W.cell? ⟨w.heap.size + 1, 0, none⟩ = some (.int .i64 pre.length) := by simp [World.cell?, hI.c1]
    have hf0 : W.frozen? ⟨w.heap.size, 0, none⟩ = false := by simp [World.frozen?, hI.c0]
    have hf1 : W.frozen? ⟨w.heap.size + 1, 0, none⟩ = false := by simp [World.frozen?, hI.c1]
    have hlt0 : w.heap.size + 2 < W.heap.size := (Array.getElem?_eq_some_iff.1 hI.c2).1
    have HI := Aside0.mk hI
    have HP := Aside0.mk (part_calls x W (by omega))
    have HPRE := Aside0.mk hpre
    have HXS := Aside0.mk hxs
    have HPL := Aside0.mk hpl
    have HLT := Aside0.mk hlt0
    have HWZ := Aside0.mk (show w.heap.size + 6 ≤ W.heap.size by have := HSZ.out; omega)
    clear hI hpre hxs hpl hW hlt0
    cases hp : partB x
    · rw [hp] at HP
      have HPX := Aside0.mk hp
      clear hp
      gi_wp2
      refine ⟨trivial, (CallsIn.inRound r (callsIn_wide.2 HP.out)).mono ?_⟩
      rintro e w1 ⟨rfl, hb⟩
      have HB := Aside0.mk hb
      have g0 : w1.cell? ⟨w.heap.size, 0, none⟩ = some (.bool false) := by
        have := (hb.block w.heap.size (by have := HLT.out; omega)).trans HI.out.c0
        simp [World.cell?, this]
      have gf : w1.frozen? ⟨w.heap.size, 0, none⟩ = false := by
        have := (hb.block w.heap.size (by have := HLT.out; omega)).trans HI.out.c0
        simp [World.frozen?, this]
      clear hb
      gi_wp2
      exact ⟨(keeps_below HB.out).trans (KeepsOthers.setCell _ _ _), ⟨box_set ((HB.out.block w.heap.size (by have := HLT.out; omega)).trans HI.out.c0) _, by simp [HPX.out], (below_step HI.out.bel HB.out).setCell (p := ⟨w.heap.size, 0, none⟩) (Nat.le_refl _) _⟩⟩
    · rw [hp] at HP
      have HPX := Aside0.mk hp
      clear hp
      gi_wp2
      refine ⟨trivial, (CallsIn.inRound r (callsIn_wide.2 HP.out)).mono ?_⟩
      rintro e w1 ⟨rfl, hb⟩
      have HB := Aside0.mk hb
      have k1 := (hb.block (w.heap.size + 1) (by have := HLT.out; omega)).trans HI.out.c1
      have k2 := (hb.block (w.heap.size + 2) (by have := HLT.out; omega)).trans HI.out.c2
      have k0 := (hb.block w.heap.size (by have := HLT.out; omega)).trans HI.out.c0
      have g1 : w1.cell? ⟨w.heap.size + 1, 0, none⟩ = some (.int .i64 pre.length) := by simp [World.cell?, k1]
      have gf1 : w1.frozen? ⟨w.heap.size + 1, 0, none⟩ = false := by simp [World.frozen?, k1]
      have hwp : wrap64 ((pre.length : Int) + 1) = pre.length + 1 := by have := HPL.out; unfold wrap64; omega
      obtain ⟨W2, hW2⟩ : ∃ W2, w1.setCell ⟨w.heap.size + 1, 0, none⟩ (.int .i64 ((pre.length : Int) + 1)) = W2 := ⟨_, rfl⟩
      have m1 : W2.heap[w.heap.size + 1]? = some (.cells #[.int .i64 ((pre.length : Int) + 1)] 3 (0, 0)) := by rw [← hW2]; exact box_set k1 _
      have m2 : W2.heap[w.heap.size + 2]? = some (.cells #[.int .i64 (runesN pre)] 3 (0, 0)) := by rw [← hW2]; exact (Below.heap_setCell w1 _ _ _ (by show w.heap.size + 2 ≠ w.heap.size + 1; omega)).trans k2
      have m0 : W2.heap[w.heap.size]? = some (.cells #[.bool false] 4 (0, 0)) := by rw [← hW2]; exact (Below.heap_setCell w1 _ _ _ (by show w.heap.size ≠ w.heap.size + 1; omega)).trans k0
      have HM := Aside0.mk (And.intro m0 (And.intro m1 m2))
      have HBW := Aside0.mk (show Below w.heap.size w W2 by rw [← hW2]; exact (below_step HI.out.bel HB.out).setCell (p := ⟨w.heap.size + 1, 0, none⟩) (Nat.le_succ _) _)
      have HKO := Aside0.mk (show KeepsOthers W W2 by rw [← hW2]; exact (keeps_below HB.out).trans (KeepsOthers.setCell _ _ _))
      have HKB := Aside0.mk (show KeepB (w.heap.size + 3) W W2 by
        rw [← hW2]
        intro k h1 h2
        exact (Below.heap_setCell w1 _ _ _ (by show k ≠ w.heap.size + 1; omega)).trans (HB.out.block k (by have := HWZ.out; omega)))
      clear hb k0 k1 k2 m0 m1 m2 hc1 hf0 hf1
      gi_wp2
      clear hW2 g1 gf1
      have HLL := Aside0.mk (hlaid.u.below HBW.out)
      have hpb := partB_len x HPX.out
      have hcnt : utf_Count.f x = some ((runesOf x).1.length : Int) := by
        rw [utf_Count.f, if_pos (by have := HXS.out; omega), if_pos hpb.1]
      have HCN := Aside0.mk (fun (W3 : World) (h : LaidU W3) => utf_Count.calls x _ W3 h hcnt)
      have hrp : runesN pre ≤ 9 * pre.length := runesN_le 8 pre (fun p hp => (partB_len p (List.all_eq_true.1 HI.out.ok p hp)).2.2)
      have HSN := Aside0.mk (show (runesN (pre ++ [x]) : Int) = (runesN pre : Int) + (((runesOf x).1.length : Int) + 1) by rw [runesN_snoc]; omega)
      have HRB := Aside0.mk (show runesN pre ≤ 9 * pre.length ∧ (runesOf x).1.length ≤ 8 from ⟨hrp, hpb.2.2⟩)
      generalize (runesOf x).1.length = cn at HCN HSN HRB
      have hw1 : wrap64 ((cn : Int) + 1) = cn + 1 := by have := HRB.out.2; unfold wrap64; omega
      have hw2 : wrap64 ((runesN pre : Int) + ((cn : Int) + 1)) = runesN (pre ++ [x]) := by have := HRB.out; have := HPL.out; have := HSN.out; unfold wrap64; omega
      have g2 : W2.cell? ⟨w.heap.size + 1 + 1, 0, none⟩ = some (.int .i64 (runesN pre)) := by simp [World.cell?, HM.out.2.2]
      have gf2 : W2.frozen? ⟨w.heap.size + 1 + 1, 0, none⟩ = false := by simp [World.frozen?, HM.out.2.2]
      have hlt2 : w.heap.size + 1 + 1 < W2.heap.size := (Array.getElem?_eq_some_iff.1 HM.out.2.2).1
      have hmx : Tryd.prog.follows .mixedOrders = true := by kernel_rfl
      clear hpb hcnt hrp
      gi_region_with_o (refine ⟨trivial, (CallsIn.inRound r (callsIn_wide.2 (HCN.out _ ?hl))).mono ?_⟩; (case hl => exact HLL.out.below (below_drew (Below.refl _ _))); rintro e w3 ⟨rfl, hb3⟩; have HB3 := Aside0.mk hb3; have g3 := (hb3.cell (p := ⟨w.heap.size + 1 + 1, 0, none⟩) hlt2).trans g2; have gf3 := (hb3.frozen (p := ⟨w.heap.size + 1 + 1, 0, none⟩) hlt2).trans gf2; clear hb3)
      all_goals
        have HB4 := below_step (below_drew (Below.refl W2.heap.size W2)) HB3.out
        have hv : IntKind.i64.wrap ((runesN pre : Int) + IntKind.i64.wrap ((cn : Int) + 1)) = (runesN (pre ++ [x]) : Int) := by
          rw [wr64 ((cn : Int) + 1) (by have := HRB.out.2; omega) (by have := HRB.out.2; omega), ← HSN.out]
          exact wr64 _ (by have := HSN.out; omega) (by have := HRB.out; have := HPL.out; have := HSN.out; omega)
        have hlt := hlt2
        rw [hv]
        exact ⟨(HKO.out.trans (keeps_below HB4)).trans (KeepsOthers.setCell _ _ _),
          HKB.out.trans (fun k h1 h2 => (Below.heap_setCell w3 _ _ _ (by show k ≠ w.heap.size + 1 + 1; omega)).trans (HB4.block k (by have := HKO.out.size; have := HWZ.out; omega))),
          ⟨(Below.heap_setCell w3 _ _ _ (by show w.heap.size ≠ w.heap.size + 1 + 1; omega)).trans ((HB4.block _ (by omega)).trans HM.out.1),
           by
            have h1 := (Below.heap_setCell w3 ⟨w.heap.size + 1 + 1, 0, none⟩ (.int .i64 (runesN (pre ++ [x]) : Int)) (w.heap.size + 1) (by show w.heap.size + 1 ≠ w.heap.size + 1 + 1; omega)).trans ((HB4.block _ (by omega)).trans HM.out.2.1)
            simpa using h1,
           box_set ((HB4.block _ (by omega)).trans HM.out.2.2) _, by rw [List.all_append, HI.out.ok]; simp [HPX.out],
           (below_step HBW.out HB4).setCell (p := ⟨w.heap.size + 1 + 1, 0, none⟩) (by show w.heap.size ≤ w.heap.size + 1 + 1; omega) _⟩⟩
  case done =>
    rintro D W hD hI hK
    have HI := Aside0.mk hI
    have HK := Aside0.mk hK
    have HD := Aside0.mk hD
    have g1 : W.cell? ⟨w.heap.size + 1, 0, none⟩ = some (.int .i64 ((pieces s).length : Int)) := by simp [World.cell?, hI.c1]
    have g2 : W.cell? ⟨w.heap.size + 1 + 1, 0, none⟩ = some (.int .i64 (runesN (pieces s) : Int)) := by simp [World.cell?, hI.c2]
    have g0 : W.cell? ⟨w.heap.size, 0, none⟩ = some (.bool false) := by simp [World.cell?, hI.c0]
    have gf : W.frozen? ⟨w.heap.size, 0, none⟩ = false := by simp [World.frozen?, hI.c0]
    clear hI hK hD
    have hrn : runesN (pieces s) ≤ 9 * (pieces s).length := runesN_le 8 _ (fun p hp => (partB_len p (List.all_eq_true.1 HI.out.ok p hp)).2.2)
    have hpl := (pieces_len _ s rfl).2
    have hwr : wrap64 ((runesN (pieces s) : Int) - 1) = (runesN (pieces s) : Int) - 1 := by unfold wrap64; omega
    have hend : ∀ b : Bool, rightB s = b → ((W.setCell ⟨w.heap.size, 0, none⟩ (.bool b)).heap[D]? = some (.deferred (some [])) ∧ ((W.setCell ⟨w.heap.size, 0, none⟩ (.bool b)).putObj D (.deferred none)).cell? ⟨w.heap.size, 0, none⟩ = some (.bool b) ∧ Below w.heap.size w ((W.setCell ⟨w.heap.size, 0, none⟩ (.bool b)).putObj D (.deferred none))) := fun b _ => by
      have hK' := (KeepsOthers.setCell W ⟨w.heap.size, 0, none⟩ (.bool b)).same D _ HK.out rfl
      refine ⟨hK', ?_, ?_⟩
      · exact cell_kept (World.cell?_setCell_same' W ⟨w.heap.size, 0, none⟩ (.bool b) (by rw [g0]; rfl)) (grownBy_putObj' _ D (.deferred none)) (fun r e => by cases e; exact ⟨_, hK', rfl⟩)
      · exact put_below (HI.out.bel.setCell (p := ⟨w.heap.size, 0, none⟩) (Nat.le_refl _) _) D _ _ (by have := HD.out; have := HSZ.out; omega) hK'
    have HEND := Aside0.mk hend
    have HRN := Aside0.mk (show rightB s = (decide ((pieces s).length ≤ 4) && decide (runesN (pieces s) ≤ 25)) by rw [rightB, HI.out.ok]; simp)
    have HR1 := Aside0.mk (show 1 ≤ runesN (pieces s) ∨ runesN (pieces s) = 0 by omega)
    clear hend hrn hpl
    by_cases h4 : (pieces s).length ≤ 4
    · have e1 : decide (((pieces s).length : Int) ≤ 4) = true := decide_eq_true (by omega)
      by_cases h5 : runesN (pieces s) ≤ 25
      · have e2 : decide ((runesN (pieces s) : Int) - 1 ≤ 24) = true := decide_eq_true (by omega)
        have hr : rightB s = true := by rw [HRN.out, decide_eq_true h4, decide_eq_true h5]; rfl
        clear h4 h5
        gi_wp2
        obtain ⟨hK', hc5, hbl⟩ := HEND.out true hr
        refine ⟨by simp, .inl ⟨_, _, rfl, run_takeDeferred hK', ?_⟩⟩
        refine ⟨.bool true, ?_, by rw [hr], hbl⟩
        simp [results, Tryd.f18, go_sem, hc5]
      · have e2 : decide ((runesN (pieces s) : Int) - 1 ≤ 24) = false := decide_eq_false (by omega)
        have hr : rightB s = false := by rw [HRN.out, decide_eq_false h5]; simp
        clear h4 h5
        gi_wp2
        obtain ⟨hK', hc5, hbl⟩ := HEND.out false hr
        refine ⟨by simp, .inl ⟨_, _, rfl, run_takeDeferred hK', ?_⟩⟩
        refine ⟨.bool false, ?_, by rw [hr], hbl⟩
        simp [results, Tryd.f18, go_sem, hc5]
    · have e1 : decide (((pieces s).length : Int) ≤ 4) = false := decide_eq_false (by omega)
      have hr : rightB s = false := by rw [HRN.out, decide_eq_false h4]; rfl
      clear h4
      gi_wp2
      obtain ⟨hK', hc5, hbl⟩ := HEND.out false hr
      refine ⟨by simp, .inl ⟨_, _, rfl, run_takeDeferred hK', ?_⟩⟩
      refine ⟨.bool false, ?_, by rw [hr], hbl⟩
      simp [results, Tryd.f18, go_sem, hc5]
  case stop =>
    rintro D pre W hD hpre hX hK
    have hr : rightB s = false := by
      have hb : (pieces s).all partB = false := by
        obtain ⟨t, ht⟩ := hpre
        rw [← ht, List.all_append, hX.bad]; rfl
      rw [rightB, hb]; rfl
    have g0 : W.cell? ⟨w.heap.size, 0, none⟩ = some (.bool false) := by simp [World.cell?, hX.c0]
    gi_wp2
    refine ⟨by simp, .inl ⟨_, _, rfl, run_takeDeferred hK, ?_⟩⟩
    have hc5 := cell_kept g0 (grownBy_putObj' _ D (.deferred none)) (fun r e => by cases e; exact ⟨_, hK, rfl⟩)
    refine ⟨.bool false, ?_, by rw [hr], put_below hX.bel D _ _ (by have := HSZ.out; omega) hK⟩
    simp [results, Tryd.f18, go_sem, hc5]
def name_Right.f (a0 : ByteArray) : Option (Bool) := if a0.size < 900000 then some (rightB a0) else none
theorem name_Right.calls (a0 : ByteArray) (r : Bool) (w : World) (hlaidS : LaidS w) (h : name_Right.f a0 = some r) :
    Calls Tryd.prog 18 #[.string a0] w fun e w' => e = .returned (.bool r) ∧ Below w.heap.size w w' := by
  unfold name_Right.f at h
  split at h
  case isFalse => cases h
  rename_i hs
  obtain rfl := Option.some.inj h
  exact right_calls a0 w hlaidS hs
end Go.Proofs.YtcaojgdnhmgmlaaDoor.Q
end
section
/- What a row's condition on the listed variables, and its world's shape, give the walks of package name; a row whose claim hands the world's shape too. -/
namespace Go.Proofs.YtcaojgdnhmgmlaaDoor
open Go.RowKit Go.Shelf Q Go.Proofs.YtcaojgdnhmgmlaaDoorW.PrintWords
set_option linter.unusedVariables false
variable {H : Type} {enc : TypeId × Value → H}

theorem returnsInHanded_of_change_andS {a : Assume} {C : Checked} {os : Os} {f : FuncId} {fn : Func} {s : ChangeSpec} {conds : List PathCond} {apart fresh handsOn again : Bool} {X : World → Array Value → Prop}
    (hX : ∀ (w w' : World) (args : Array Value), w.heap = w'.heap → X w args → X w' args)
    (own : ownKnob C.prog.godebug = none) (started : os.Started) (noInit : C.prog.inits.idxOf? f = none) (hfn : C.prog.funcs[f]? = some fn)
    (witness : ∃ (w : World) (tape : Tape) (i : Input), w.os = os ∧ (w.forCall tape i).Shaped C.prog ∧ i.vars = [] ∧ Input.okWide C.prog (w.forCall tape i) .any w.heap.size f i ∧
      ((s.pre enc C.prog fn conds apart (w.forCall tape i).memory i.args ∧ X (w.forCall tape i).memory i.args) ∧ sizedMet enc C.prog fn (OpenSpec.ofChange s) apart (w.forCall tape i).memory i.args) ∧ a.holds C.prog (lone (Frame.enter C.prog f i.args .normal) [] (w.forCall tape i)))
    (contract : ∀ (W : World) (base : Nat) (args : Array Value) (ds gs : List (DataW H)) (before : List MemPlace),
      (∀ (j : Nat) t v, fn.params[j]? = some t → args[j]? = some v → Value.okWide C.prog W .any base t v) →
      DataW.Whole enc C.prog fn.params.toList s.vars apart W args.toList ds gs before →
      conds.all (PathCond.test C.prog ⟨fn.params.toList, ds, s.plain.varTypes C.prog, gs⟩) = true →
      (DataW.weightsEach C.prog (fn.params.toList ++ s.plain.varTypes C.prog) (ds ++ gs)).all (· ≤ reachBytes) = true → X W args → W.ShapedOpen C.prog →
      a.holds C.prog (lone (Frame.enter C.prog f args .normal) [] W) →
      Calls C.prog f args W fun e W' => ∃ v, e = .returned v ∧ s.post enc C.prog fn apart fresh handsOn again W args v W') :
    ReturnsInHanded a C os f .any (fun w args => (s.pre enc C.prog fn conds apart w args ∧ X w args) ∧ sizedMet enc C.prog fn (OpenSpec.ofChange s) apart w args) (s.post enc C.prog fn apart fresh handsOn again) := by
  refine returnsInHanded_of_calls own started noInit witness ?_
  intro w tape i _ hsh _ hok hpre hholds
  obtain ⟨_, _, _, fn', hfn', _, _, _, _, hval⟩ := hok
  have e : fn' = fn := Option.some.inj (hfn'.symm.trans hfn)
  subst e
  obtain ⟨⟨⟨ds, gs, before, hw, hc⟩, hx⟩, hz⟩ := hpre
  have hw' := DataW.Whole.of_heap (w' := w.forCall tape i) (by rfl) hw
  refine (contract (w.forCall tape i) w.heap.size i.args ds gs before hval hw' hc (hz.weights hw) (hX _ _ _ (by rfl) hx) hsh hholds).mono fun e W' ⟨v, he, hp⟩ => ?_
  subst he
  exact ChangeSpec.post_blind hp

theorem maxLen_of {W : World} (h : W.ShapedOpen Tryd.prog) : ∃ m, W.cell? ⟨2, 0, none⟩ = some (.int .i64 m) :=
  cell_of_shapedOpen_int (g := 2) (t := 3) (zero := #[.int .i64 0]) h (of_decide_eq_true (by kernel_rfl)) (by kernel_rfl) rfl (by kernel_rfl) (by kernel_rfl) Tryd.underlying3
theorem laidS_of {W : World} (h : laidMetH Tryd.prog Rows.utfRunesRow.laid W) (hsh : W.ShapedOpen Tryd.prog) : LaidS W := ⟨laidU_of h, maxLen_of hsh⟩
theorem strings_none (W : World) : Kd.C Kd.string W none 0 [] := ⟨rfl, by omega, fun h => absurd h (by omega)⟩
theorem strings_row {W : World} (x : Addr) (n : Nat) (zs : List ByteArray) (hn : n ≤ zs.length) (hm : n ≤ 9223372036854775807) (h : ∀ i, i < zs.length → W.cell? (x.add i) = some (.string (zs.getD i ByteArray.empty))) :
    Kd.C Kd.string W (some x) (zs.take n).length (zs.take n) := by
  have hl : (zs.take n).length = n := by rw [List.length_take]; omega
  refine ⟨rfl, by omega, fun _ => ⟨x, rfl, fun j p hj => ?_⟩⟩
  have hjl := (List.getElem?_eq_some_iff.1 hj).1
  refine ⟨[.string p], rfl, rfl, fun i u hu => ?_⟩
  have h2 := h j (by omega)
  rw [List.getElem?_take_of_lt (by omega)] at hj
  rw [List.getD_eq_getElem?_getD, hj, Option.getD_some] at h2
  rcases i with _ | i
  · cases hu
    rw [show j * Kd.string.sz + 0 = j from by show j * 1 + 0 = j; omega]
    exact h2
  · simp at hu
end Go.Proofs.YtcaojgdnhmgmlaaDoor
end
section
/- name.Split and name.Below, by hand. -/
namespace Go.Proofs.YtcaojgdnhmgmlaaDoor.Q
open Go.RowKit Go.Proofs.YtcaojgdnhmgmlaaDoorW.PrintWords Go.Proofs.YtcaojgdnhmgmlaaDoorW.PrintLast Go.Proofs.YtcaojgdnhmgmlaaDoorW.PrintMore
set_option linter.unusedVariables false

theorem reps_str (l : List ByteArray) (w : World) (base : Nat) (ok : Nat → Prop) : Reps (Kd.string.M w base ok) 1 l (l.map Value.string) :=
  ⟨by simp, fun j p hp => by
    have hj : j < l.length := (List.getElem?_eq_some_iff.1 hp).1
    have e : ((l.map Value.string).drop (j * 1)).take 1 = [Value.string p] := by
      rw [Nat.mul_one, List.drop_eq_getElem_cons (by simpa using hj)]
      simp only [List.take_succ_cons, List.take_zero, List.getElem_map]
      rw [(List.getElem?_eq_some_iff.1 hp).2]
    rw [e]
    rfl⟩
theorem made_R (W : World) (l : List ByteArray) (hm : l.length ≤ 9223372036854775807) : Kd.R Kd.string 9 (W.alloc (.cells (l.map Value.string).toArray 9)) W.heap.size (fun _ => True) (.slice (some ⟨W.heap.size, 0, none⟩) l.length l.length) l :=
  ⟨fun _ _ => trivial, OwnRow.lit W _ (reps_str l _ _ _) (Nat.le_refl _) hm⟩
theorem split_pieces : ∀ (n : Nat) (s : ByteArray), s.size = n → (pieces s).length = Lib.countB s ⟨#[46]⟩ + 1 ∧ Lib.splitB ⟨#[46]⟩ 0 (Lib.countB s ⟨#[46]⟩) s = pieces s := by
  intro n
  induction n using Nat.strongRecOn with
  | ind n ih =>
    intro s hs
    have hge := Lib.indexByte_ge s.data.toList 46
    have hio : Lib.indexB s ⟨#[46]⟩ = Lib.indexByte s.data.toList 46 := Lib.index_one _ _
    by_cases hi : Lib.indexByte s.data.toList 46 = -1
    · rw [Lib.countB_miss _ _ (hio.trans hi), pieces_miss s hi]
      exact ⟨rfl, rfl⟩
    · obtain ⟨i, hi⟩ := Int.eq_ofNat_of_zero_le (show 0 ≤ Lib.indexByte s.data.toList 46 by omega)
      obtain ⟨h1, h2⟩ := pieces_hit s i hi
      have hc := Lib.countB_hit s ⟨#[46]⟩ i (by decide) (hio.trans hi)
      rw [show (⟨#[46]⟩ : ByteArray).size = 1 from rfl] at hc
      obtain ⟨q1, q2⟩ := ih (s.extract (i + 1) s.size).size (by simp; omega) _ rfl
      rw [hc, h2, Nat.add_comm 1, Lib.splitB_hit _ _ _ _ i (hio.trans hi), show (⟨#[46]⟩ : ByteArray).size = 1 from rfl, q2]
      exact ⟨by rw [List.length_cons, q1], rfl⟩
def name_Split.f (a0 : ByteArray) : Option (List ByteArray) := if a0.size < 900000 then some (if rightB a0 = true then pieces a0 else []) else none
set_option maxHeartbeats 1000000 in
theorem split_no (a0 : ByteArray) (w : World) (hlaidS : LaidS w) (hs : a0.size < 900000) (hb : rightB a0 = false) :
    Calls Tryd.prog 15 #[.string a0] w fun e w' => e = .returned (.slice none 0 0) ∧ Below w.heap.size w w' := by
  have HR := Aside0.mk (right_calls a0 w hlaidS hs)
  rw [hb] at HR
  clear hlaidS hs hb
  go_enter Tryd.func15, Tryd.ntmps15
  go_wp2_with fail
  refine HR.out.mono ?_
  rintro e w1 ⟨rfl, hb1⟩
  have HB1 := Aside0.mk hb1
  clear hb1
  go_wp2_with fail
  go_ret
  exact ⟨rfl, HB1.out⟩
set_option maxHeartbeats 1000000 in
theorem split_yes (a0 : ByteArray) (w : World) (hlaidS : LaidS w) (hs : a0.size < 900000) (hb : rightB a0 = true) :
    Calls Tryd.prog 15 #[.string a0] w fun e w' => ∃ ad, e = .returned (.slice (some ad) (pieces a0).length (pieces a0).length) ∧ Kd.R Kd.string 9 w' w.heap.size (fun _ => True) (.slice (some ad) (pieces a0).length (pieces a0).length) (pieces a0) ∧ Below w.heap.size w w' := by
  have HR := Aside0.mk (right_calls a0 w hlaidS hs)
  have HL := Aside0.mk hlaidS
  have HS := Aside0.mk hs
  rw [hb] at HR
  clear hlaidS hs hb
  go_enter Tryd.func15, Tryd.ntmps15
  go_wp2_with fail
  refine HR.out.mono ?_
  rintro e w1 ⟨rfl, hb1⟩
  have HB1 := Aside0.mk hb1
  obtain ⟨m, hm⟩ := (HL.out.below hb1).mx
  have HQ := Aside0.mk (Tryd.strings_Split a0 ⟨#[46]⟩ m w1 (by have := HS.out; omega) hm (by decide))
  have hsp := split_pieces _ a0 rfl
  rw [hsp.2, ← hsp.1] at HQ
  have HP := Aside0.mk (pieces_len _ a0 rfl).2
  clear hb1 hm hsp
  go_wp2_with fail
  refine HQ.out.mono ?_
  rintro e w2 ⟨rfl, rfl⟩
  go_wp2_with fail
  go_ret
  exact ⟨_, rfl, Kd.R_lower (made_R w1 (pieces a0) (by have := HP.out; have := HS.out; omega)) HB1.out.size, below_alloc HB1.out _⟩
theorem name_Split.calls (a0 : ByteArray) (r : List ByteArray) (w : World) (hlaidS : LaidS w) (h : name_Split.f a0 = some r) :
    Calls Tryd.prog 15 #[.string a0] w fun e w' => ∃ v0_ : Value, e = .returned (v0_) ∧ Kd.R Kd.string 9 w' w.heap.size (fun _ => True) v0_ r ∧ Below w.heap.size w w' := by
  unfold name_Split.f at h
  split at h
  case isFalse => cases h
  rename_i hs
  have h := Option.some.inj h
  cases hb : rightB a0
  · rw [hb, if_neg (by decide)] at h
    subst h
    refine (split_no a0 w hlaidS hs hb).mono ?_
    rintro e w' ⟨rfl, h2⟩
    exact ⟨_, rfl, Kd.R_nil _ _ _ _ _, h2⟩
  · rw [hb, if_pos rfl] at h
    subst h
    refine (split_yes a0 w hlaidS hs hb).mono ?_
    rintro e w' ⟨ad, rfl, h1, h2⟩
    exact ⟨_, rfl, h1, h2⟩

/-- Is s below top? -/
def belowB (s top : ByteArray) : Bool := rightB s && (rightB top && Lib.hasPrefix s.data.toList (top.data.toList ++ [46]))
def name_Below.f (a0 : ByteArray) (a1 : ByteArray) : Option (Bool) := if a0.size < 900000 ∧ a1.size < 900000 then some (belowB a0 a1) else none
set_option maxHeartbeats 1000000 in
theorem name_Below.calls (a0 : ByteArray) (a1 : ByteArray) (r : Bool) (w : World) (hlaidS : LaidS w) (h : name_Below.f a0 a1 = some r) :
    Calls Tryd.prog 19 #[.string a0, .string a1] w fun e w' => e = .returned (.bool r) ∧ Below w.heap.size w w' := by
  unfold name_Below.f at h
  split at h
  case isFalse => cases h
  rename_i hs
  have h := Option.some.inj h
  have HR := Aside0.mk (right_calls a0 w hlaidS hs.1)
  have HR2 := Aside0.mk (fun (w1 : World) (hb : Below w.heap.size w w1) => right_calls a1 w1 (hlaidS.below hb) hs.2)
  have HPX := Aside0.mk (fun (w1 : World) => Tryd.strings_HasPrefix a0 (a1 ++ ⟨#[46]⟩) w1)
  have happ : (a1 ++ (⟨#[46]⟩ : ByteArray)).data.toList = a1.data.toList ++ [46] := by simp
  rw [happ] at HPX
  have hadd : ∀ w : World, (Op.stringOp .add a1 (⟨#[46]⟩ : ByteArray)).run Tryd.prog w = .ok (.string (a1 ++ ⟨#[46]⟩)) w := fun w => run_string_add_sum w a1 ⟨#[46]⟩ (by have := hs.2; show a1.size + 1 ≤ 9223372036854775807; omega)
  clear hlaidS hs happ
  cases hb : rightB a0
  · rw [belowB, hb, Bool.false_and] at h
    subst h
    rw [hb] at HR
    go_enter Tryd.func19, Tryd.ntmps19
    go_wp2_with fail
    refine HR.out.mono ?_
    rintro e w1 ⟨rfl, hb1⟩
    have HB1 := Aside0.mk hb1
    clear hb1
    go_wp2_with fail
    go_ret
    exact ⟨rfl, HB1.out⟩
  · cases hb2 : rightB a1
    · rw [belowB, hb2, hb] at h
      subst h
      rw [hb] at HR
      go_enter Tryd.func19, Tryd.ntmps19
      go_wp2_with fail
      refine HR.out.mono ?_
      rintro e w1 ⟨rfl, hb1⟩
      have HB1 := Aside0.mk hb1
      clear hb1
      go_wp2_with fail
      refine (HR2.out w1 HB1.out).mono ?_
      rw [hb2]
      rintro e w2 ⟨rfl, hb2⟩
      have HB2 := Aside0.mk (below_step HB1.out hb2)
      clear hb2
      go_wp2_with fail
      go_ret
      exact ⟨rfl, HB2.out⟩
    · rw [belowB, hb2, hb, Bool.true_and, Bool.true_and] at h
      subst h
      rw [hb] at HR
      generalize Lib.hasPrefix a0.data.toList (a1.data.toList ++ [46]) = hp at HPX
      go_enter Tryd.func19, Tryd.ntmps19
      go_wp2_with fail
      refine HR.out.mono ?_
      rintro e w1 ⟨rfl, hb1⟩
      have HB1 := Aside0.mk hb1
      clear hb1
      go_wp2_with fail
      refine (HR2.out w1 HB1.out).mono ?_
      rw [hb2]
      rintro e w2 ⟨rfl, hb2⟩
      have HB2 := Aside0.mk (below_step HB1.out hb2)
      clear hb2
      go_wp2_with fail
      refine (HPX.out w2).mono ?_
      rintro e w3 ⟨rfl, rfl⟩
      go_wp2_with fail
      go_ret
      exact ⟨rfl, HB2.out⟩
end Go.Proofs.YtcaojgdnhmgmlaaDoor.Q
end

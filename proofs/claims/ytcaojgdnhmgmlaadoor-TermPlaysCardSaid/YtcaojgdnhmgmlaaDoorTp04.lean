/- term: a term that comes to be. · term: an atom that comes to be. · term: the map by which a term is found. -/
import Derived.Test.YtcaojgdnhmgmlaaDoorTp03
import Derived.Deep.AppendLies
import Derived.Test.YtcaojgdnhmgmlaaDoorWEqStruct
import Derived.WideKeyRuns
set_option linter.unusedVariables false
set_option linter.unusedSimpArgs false
section
namespace Go.Proofs.YtcaojgdnhmgmlaaDoor.T
open Go.RowKit Go.Proofs.YtcaojgdnhmgmlaaDoor.Q Go.Proofs.YtcaojgdnhmgmlaaDoor.PTermPlays Go.Proofs.YtcaojgdnhmgmlaaDoorW.PrintWords Go.Proofs.YtcaojgdnhmgmlaaDoorW.PrintLast Go.Proofs.YtcaojgdnhmgmlaaDoorW.PrintMore
attribute [local go_sem] max2_int min2_int max_two min_two
set_option linter.unusedVariables false

structure RowsR (base : Nat) (F : Nat → Prop) (W : World) (tb mp : Nat) (A B : Value) (vs : List S104) (ss : List Int) (at_ : Int) (es : Array MapEntry) (clk : Nat) : Prop where
  cells : W.heap[tb]? = some (.cells #[A, B, .map (some mp), .int .i64 at_] 100 (0, 0))
  ft : F tb
  fm : F mp
  bt : base ≤ tb
  bm : base ≤ mp
  ne : tb ≠ mp
  la : nodeK.R 20 W base (fun k => F k ∧ k ≠ tb ∧ k ≠ mp) A vs
  lb : (Kd.int .i64).R 3 W base (fun k => F k ∧ k ≠ tb ∧ k ≠ mp ∧ some k ≠ A.ownBlock) B ss
  map : W.heap[mp]? = some (.map es clk)
def szP (ss : List Int) (l : List Int) (z : Int) : Int := l.foldl (fun s id => min (s + rdOf 0 ss (id - 1)) great) z
theorem info20 : (Tryd.prog.info? 20).map (fun i => (i.zero, i.size, i.bytes)) = some (some .nilIface, 1, 16) := by kernel_rfl
theorem info_of {t : TypeId} {z : Value} {s b : Nat} (h : (Tryd.prog.info? t).map (fun i => (i.zero, i.size, i.bytes)) = some (some z, s, b)) : ∃ i, Tryd.prog.info? t = some i ∧ i.zero = some z ∧ i.size = s ∧ i.bytes = b := by
  cases hi : Tryd.prog.info? t with
  | none => rw [hi] at h; cases h
  | some i =>
    rw [hi] at h
    simp only [Option.map_some, Option.some.injEq, Prod.mk.injEq] at h
    exact ⟨i, rfl, h.1, h.2.1, h.2.2⟩
/-- Nothing but memory has turned, and that has only grown. -/
structure Quiet (w W : World) : Prop where
  os : W.os = w.os
  tape : W.tape = w.tape
  output : W.output = w.output
  size : w.heap.size ≤ W.heap.size
theorem Quiet.of_below {B : Nat} {w W : World} (h : Below B w W) : Quiet w W := ⟨h.os, h.tape, h.output, h.size⟩
theorem Quiet.trans {w W V : World} (h : Quiet w W) (k : Quiet W V) : Quiet w V := ⟨k.os.trans h.os, k.tape.trans h.tape, k.output.trans h.output, Nat.le_trans h.size k.size⟩
theorem Quiet.setCell (w : World) (p : Addr) (v : Value) : Quiet w (w.setCell p v) := ⟨rfl, rfl, rfl, by rw [World.size_setCell]; exact Nat.le_refl _⟩
/-- What the region has done by some point: A, B the two rows now; A0, B0 at its start. -/
structure Mid (base : Nat) (w W : World) (tb : Nat) (A0 B0 A B : Value) (T : Array Value) (n m : Nat) (xs ys : List Value) : Prop where
  la : W.ownsRow base 20 1 A n xs
  lb : W.ownsRow base 3 1 B m ys
  tab : W.heap[tb]? = some (.cells T 100 (0, 0))
  oa : A.ownBlock = A0.ownBlock ∨ ∃ g, A.ownBlock = some g ∧ w.heap.size ≤ g
  ob : B.ownBlock = B0.ownBlock ∨ ∃ g, B.ownBlock = some g ∧ w.heap.size ≤ g
  ne : ∀ k, A.ownBlock = some k → B.ownBlock ≠ some k
  ta : A.ownBlock ≠ some tb
  tb_ : B.ownBlock ≠ some tb
  sz : w.heap.size ≤ W.heap.size
  kept : ∀ k, k < w.heap.size → A0.ownBlock ≠ some k → B0.ownBlock ≠ some k → W.heap[k]? = w.heap[k]?
  env : W.os = w.os ∧ W.tape = w.tape ∧ W.output = w.output
section
variable {base : Nat} {w W W2 : World} {tb n m : Nat} {A0 B0 A B : Value} {T : Array Value} {xs ys : List Value}
theorem Mid.alloc (h : Mid base w W tb A0 B0 A B T n m xs ys) (o : Obj) : Mid base w (W.alloc o) tb A0 B0 A B T n m xs ys :=
  ⟨h.la.alloc o, h.lb.alloc o, (Below.heap_alloc W o tb (Array.getElem?_eq_some_iff.1 h.tab).1).trans h.tab, h.oa, h.ob, h.ne, h.ta, h.tb_, by rw [World.size_alloc]; have := h.sz; omega, fun k hk h1 h2 => (Below.heap_alloc W o k (Nat.lt_of_lt_of_le hk h.sz)).trans (h.kept k hk h1 h2), h.env⟩
theorem Mid.drew (h : Mid base w W tb A0 B0 A B T n m xs ys) : Mid base w W.drew tb A0 B0 A B T n m xs ys := ⟨h.la, h.lb, h.tab, h.oa, h.ob, h.ne, h.ta, h.tb_, h.sz, h.kept, h.env⟩
theorem Mid.cells (h : Mid base w W tb A0 B0 A B T n m xs ys) (j : Nat) : W.cell? ⟨tb, j, none⟩ = T[j]? := by
  unfold World.cell?; rw [h.tab]; rfl
theorem Mid.appA {g n' cap : Nat} {xs' : List Value} (h : Mid base w W tb A0 B0 A B T n m xs ys) (ho : W2.ownsRow base 20 1 (.slice (some ⟨g, 0, none⟩) n' cap) n' xs') (hg : W.grownBy W2 A.ownBlock) (hat : A.ownBlock = some g ∨ g = W.heap.size) :
    Mid base w W2 tb A0 B0 (.slice (some ⟨g, 0, none⟩) n' cap) B T n' m xs' ys := by
  have htl := (Array.getElem?_eq_some_iff.1 h.tab).1
  have hgs : W.heap.size ≤ W2.heap.size := hg.size
  refine ⟨ho, h.lb.kept hg ?_, (hg.block tb htl (fun e => h.ta e.symm)).trans h.tab, ?_, h.ob, ?_, ?_, h.tb_, Nat.le_trans h.sz hgs, ?_, ⟨hg.os.trans h.env.1, hg.tape.trans h.env.2.1, hg.output.trans h.env.2.2⟩⟩
  · rcases hb : B.ownBlock with _ | k
    · exact .inl rfl
    · exact .inr fun e => h.ne k e.symm hb
  · rcases hat with e | e
    · rcases h.oa with h1 | ⟨g', h1, h2⟩
      · exact .inl (by rw [← h1, e]; rfl)
      · rw [e] at h1; cases h1; exact .inr ⟨_, rfl, h2⟩
    · exact .inr ⟨g, rfl, by have := h.sz; omega⟩
  · intro k hk
    have hk : g = k := by simpa [Value.ownBlock] using hk
    subst hk
    rcases hat with e | e
    · exact h.ne g e
    · intro hb
      have := (h.lb.lt g hb).2
      omega
  · intro hk
    have hk : g = tb := by simpa [Value.ownBlock] using hk
    subst hk
    rcases hat with e | e
    · exact h.ta e
    · omega
  · intro k hk h1 h2
    refine (hg.block k (Nat.lt_of_lt_of_le hk h.sz) (fun e => ?_)).trans (h.kept k hk h1 h2)
    rcases h.oa with h3 | ⟨g', h3, h4⟩
    · exact h1 (by rw [← h3, e])
    · rw [h3] at e; cases e; omega
theorem Mid.appB {g m' cap : Nat} {ys' : List Value} (h : Mid base w W tb A0 B0 A B T n m xs ys) (ho : W2.ownsRow base 3 1 (.slice (some ⟨g, 0, none⟩) m' cap) m' ys') (hg : W.grownBy W2 B.ownBlock) (hat : B.ownBlock = some g ∨ g = W.heap.size) :
    Mid base w W2 tb A0 B0 A (.slice (some ⟨g, 0, none⟩) m' cap) T n m' xs ys' := by
  have htl := (Array.getElem?_eq_some_iff.1 h.tab).1
  have hgs : W.heap.size ≤ W2.heap.size := hg.size
  refine ⟨h.la.kept hg ?_, ho, (hg.block tb htl (fun e => h.tb_ e.symm)).trans h.tab, h.oa, ?_, ?_, h.ta, ?_, Nat.le_trans h.sz hgs, ?_, ⟨hg.os.trans h.env.1, hg.tape.trans h.env.2.1, hg.output.trans h.env.2.2⟩⟩
  · rcases hb : A.ownBlock with _ | k
    · exact .inl rfl
    · exact .inr fun e => h.ne k hb e.symm
  · rcases hat with e | e
    · rcases h.ob with h1 | ⟨g', h1, h2⟩
      · exact .inl (by rw [← h1, e]; rfl)
      · rw [e] at h1; cases h1; exact .inr ⟨_, rfl, h2⟩
    · exact .inr ⟨g, rfl, by have := h.sz; omega⟩
  · intro k hk hb
    have hb : g = k := by simpa [Value.ownBlock] using hb
    subst hb
    rcases hat with e | e
    · exact h.ne g hk e
    · have := (h.la.lt g hk).2
      omega
  · intro hk
    have hk : g = tb := by simpa [Value.ownBlock] using hk
    subst hk
    rcases hat with e | e
    · exact h.tb_ e
    · omega
  · intro k hk h1 h2
    refine (hg.block k (Nat.lt_of_lt_of_le hk h.sz) (fun e => ?_)).trans (h.kept k hk h1 h2)
    rcases h.ob with h3 | ⟨g', h3, h4⟩
    · exact h2 (by rw [← h3, e])
    · rw [h3] at e; cases e; omega
end
theorem tab_cell {W : World} {tb : Nat} {T : Array Value} (h : W.heap[tb]? = some (.cells T 100 (0, 0))) (j : Nat) : W.cell? ⟨tb, j, none⟩ = T[j]? := by
  unfold World.cell?; rw [h]; rfl
theorem tab_frozen {W : World} {tb : Nat} {T : Array Value} (h : W.heap[tb]? = some (.cells T 100 (0, 0))) (j : Nat) : W.frozen? ⟨tb, j, none⟩ = false := by
  unfold World.frozen?; rw [h]; simp
theorem put_end {base : Nat} {F : Nat → Prop} {w W : World} {tb mp : Nat} {A0 B0 : Value} {vs : List S104} {ss : List Int} {at_ : Int} {es : Array MapEntry} {clk : Nat} {g1 n1 cap1 g2 n2 cap2 : Nat} {nd : S104} {z : Int} {xs ys : List Value}
    (hR : RowsR base F w tb mp A0 B0 vs ss at_ es clk) (hM : Mid base w W tb A0 B0 (.slice (some ⟨g1, 0, none⟩) n1 cap1) (.slice (some ⟨g2, 0, none⟩) n2 cap2) #[A0, B0, .map (some mp), .int .i64 at_] n1 n2 xs ys)
    (hx : xs = encs nodeV (vs ++ [nd])) (hy : ys = encs (Value.int .i64) (ss ++ [z])) (hn1 : n1 = (vs ++ [nd]).length) (hn2 : n2 = (ss ++ [z]).length) :
    RowsR base (fun k => F k ∨ w.heap.size ≤ k) ((W.setCell ⟨tb, 0, none⟩ (.slice (some ⟨g1, 0, none⟩) n1 cap1)).setCell ⟨tb, 1, none⟩ (.slice (some ⟨g2, 0, none⟩) n2 cap2)) tb mp (.slice (some ⟨g1, 0, none⟩) n1 cap1) (.slice (some ⟨g2, 0, none⟩) n2 cap2) (vs ++ [nd]) (ss ++ [z]) at_ es clk ∧
    Quiet w ((W.setCell ⟨tb, 0, none⟩ (.slice (some ⟨g1, 0, none⟩) n1 cap1)).setCell ⟨tb, 1, none⟩ (.slice (some ⟨g2, 0, none⟩) n2 cap2)) ∧
    ∀ k, k < w.heap.size → ¬ F k → ((W.setCell ⟨tb, 0, none⟩ (.slice (some ⟨g1, 0, none⟩) n1 cap1)).setCell ⟨tb, 1, none⟩ (.slice (some ⟨g2, 0, none⟩) n2 cap2)).heap[k]? = w.heap[k]? := by
  subst hx hy hn1 hn2
  have hA0 : ∀ k, A0.ownBlock = some k → F k ∧ k ≠ tb ∧ k ≠ mp := fun k h => hR.la.1 k h
  have hB0 : ∀ k, B0.ownBlock = some k → F k ∧ k ≠ tb ∧ k ≠ mp := fun k h => ⟨(hR.lb.1 k h).1, (hR.lb.1 k h).2.1, (hR.lb.1 k h).2.2.1⟩
  have hmp := (Array.getElem?_eq_some_iff.1 hR.map).1
  have hset : ∀ k, k ≠ tb → ((W.setCell ⟨tb, 0, none⟩ (.slice (some ⟨g1, 0, none⟩) (vs ++ [nd]).length cap1)).setCell ⟨tb, 1, none⟩ (.slice (some ⟨g2, 0, none⟩) (ss ++ [z]).length cap2)).heap[k]? = W.heap[k]? := fun k hk =>
    (heap_setCell_other _ ⟨tb, 1, none⟩ k _ hk).trans (heap_setCell_other _ ⟨tb, 0, none⟩ k _ hk)
  refine ⟨⟨?_, .inl hR.ft, .inl hR.fm, hR.bt, hR.bm, hR.ne, ?_, ?_, ?_⟩, ?_, ?_⟩
  · exact heap_setCell_same _ tb 1 _ 100 _ (heap_setCell_same W tb 0 _ 100 _ hM.tab)
  · refine Kd.R_of_own (own_move hM.la fun k hk => hset k fun e => hM.ta (by rw [hk, e])) fun k hk => ?_
    have h3 : k ≠ tb := fun e => hM.ta (by rw [hk, e])
    rcases hM.oa with h1 | ⟨g, h1, h2⟩
    · obtain ⟨q1, q2, q3⟩ := hA0 k (by rw [← h1, hk])
      exact ⟨.inl q1, q2, q3⟩
    · rw [hk] at h1; cases h1; exact ⟨.inr h2, h3, by omega⟩
  · refine Kd.R_of_own (own_move hM.lb fun k hk => hset k fun e => hM.tb_ (by rw [hk, e])) fun k hk => ?_
    have h3 : k ≠ tb := fun e => hM.tb_ (by rw [hk, e])
    have h4 : some k ≠ (Value.slice (some ⟨g1, 0, none⟩) (vs ++ [nd]).length cap1).ownBlock := fun e => hM.ne k e.symm hk
    rcases hM.ob with h1 | ⟨g, h1, h2⟩
    · obtain ⟨q1, q2, q3⟩ := hB0 k (by rw [← h1, hk])
      exact ⟨.inl q1, q2, q3, h4⟩
    · rw [hk] at h1; cases h1; exact ⟨.inr h2, h3, by omega, h4⟩
  · exact (hset mp hR.ne.symm).trans ((hM.kept mp hmp (fun e => (hA0 mp e).2.2 rfl) (fun e => (hB0 mp e).2.2 rfl)).trans hR.map)
  · exact ⟨hM.env.1, hM.env.2.1, hM.env.2.2, by rw [World.size_setCell, World.size_setCell]; exact hM.sz⟩
  · intro k hk hf
    refine (hset k fun e => hf (by rw [e]; exact hR.ft)).trans (hM.kept k hk (fun e => hf (hA0 k e).1) (fun e => hf (hB0 k e).1))
set_option maxRecDepth 100000 in
set_option maxHeartbeats 2000000 in
theorem put_calls (base : Nat) (F : Nat → Prop) (w : World) (tb mp : Nat) (A B : Value) (vs : List S104) (ss : List Int) (at_ : Int) (es : Array MapEntry) (clk : Nat) (hR : RowsR base F w tb mp A B vs ss at_ es clk) (hlen : ss.length = vs.length) (hn : vs.length < 100000)
    (hss : ∀ s ∈ ss, 0 ≤ s ∧ s ≤ great) (nd : S104) (P : Option Addr) (cP : Nat) (l : List Int) (hl : l.length < 100000) (hP : Kd.C (Kd.int .i64) w P l.length l) (hth : l.all (thereB vs.length) = true) :
    Calls Tryd.prog 108 #[.pointer (some ⟨tb, 0, none⟩), nodeV nd, .slice P l.length cP] w fun e w' => ∃ A' B', e = .returned (.int .i64 (vs.length + 1)) ∧ RowsR base (fun k => F k ∨ w.heap.size ≤ k) w' tb mp A' B' (vs ++ [nd]) (ss ++ [szP ss l 1]) at_ es clk ∧ Quiet w w' ∧ ∀ k, k < w.heap.size → ¬ F k → w'.heap[k]? = w.heap[k]? := by
  obtain ⟨At, ca, rfl, hac, hA⟩ := Kd.R_reads hR.la
  obtain ⟨Bt, cb, rfl, hbc, hB⟩ := Kd.R_reads hR.lb
  have hc0 : w.cell? ⟨tb, 0, none⟩ = some (.slice At vs.length ca) := by unfold World.cell?; rw [hR.cells]; rfl
  have hc1 : w.cell? ⟨tb, 1, none⟩ = some (.slice Bt ss.length cb) := by unfold World.cell?; rw [hR.cells]; rfl
  obtain ⟨nt, nv, hnd⟩ : ∃ t v, nodeV nd = .iface t v := by
    unfold nodeV
    split; exact ⟨_, _, rfl⟩; split; exact ⟨_, _, rfl⟩; split; exact ⟨_, _, rfl⟩; split <;> exact ⟨_, _, rfl⟩
  rw [hnd]
  obtain ⟨Z, hZ⟩ : ∃ Z, szP ss l 1 = Z := ⟨_, rfl⟩
  rw [hZ]
  have HP := Aside0.mk hP
  have HBr := Aside0.mk hB
  have HTH := Aside0.mk hth
  have HSS := Aside0.mk hss
  have HRR := Aside0.mk hR
  have HZ := Aside0.mk hZ
  have HN := Aside0.mk hn
  have HL := Aside0.mk hl
  have HLEN := Aside0.mk hlen
  have HND := Aside0.mk hnd
  have HA := Aside0.mk hA
  have HAC := Aside0.mk (And.intro hac hbc)
  have HM := Aside0.mk (show Mid base w w tb (.slice At vs.length ca) (.slice Bt ss.length cb) (.slice At vs.length ca) (.slice Bt ss.length cb) #[.slice At vs.length ca, .slice Bt ss.length cb, .map (some mp), .int .i64 at_] vs.length ss.length (encs nodeV vs) (encs (Value.int .i64) ss) from ⟨Kd.own_of_R hR.la, Kd.own_of_R hR.lb, hR.cells, .inl rfl, .inl rfl, fun k h1 h2 => (hR.lb.1 k h2).2.2.2 h1.symm, fun e => (hR.la.1 _ e).2.1 rfl, fun e => (hR.lb.1 _ e).2.1 rfl, Nat.le_refl _, fun _ _ _ _ => rfl, rfl, rfl, rfl⟩)
  have HBT := Aside0.mk (show base ≤ w.heap.size from by have := hR.bt; have := (Array.getElem?_eq_some_iff.1 hR.cells).1; omega)
  clear hP hB hth hss hR hZ hn hl hlen hnd hA hac hbc
  go_enter Tryd.func108, Tryd.ntmps108
  go_wp2_with fail
  go_loopg [7, 12] l.length (fun kq v7 v12 wr => ∃ (k : Nat) (z : Int), v7 = .int .i64 z ∧ v12 = .int .i64 (k : Int) ∧ Aside0 (k + kq = l.length) ∧ Aside0 (szP ss (l.drop k) z = Z) ∧ Aside0 (0 ≤ z ∧ z ≤ great) ∧ Aside0 (w = wr))
  case atStart => exact ⟨0, 1, rfl, rfl, ⟨by omega⟩, ⟨by simpa using HZ.out⟩, ⟨by decide⟩, ⟨rfl⟩⟩
  case round =>
    clear HZ
    obtain ⟨k, z, rfl, rfl, HK, HC, HG, HW⟩ := hrel
    obtain rfl := HW.out
    clear HW
    have hwk : wrap64 ((k : Int) + 1) = ((k + 1 : Nat) : Int) := by have := HL.out; have := HK.out; unfold wrap64; omega
    by_cases hlt : k < l.length
    · have e1 : decide ((k : Int) < l.length) = true := decide_eq_true (by omega)
      have p0 : (0 : Int) ≤ k := by omega
      have p1 : (k : Int) < l.length := by omega
      obtain ⟨ad, ea, hx⟩ := Kd.at_int HP.out (k : Int) p0 p1
      cases ea
      rw [Int.toNat_natCast] at hx
      have hmem : rd l (k : Int) ∈ l := by
        unfold rd
        rw [Int.toNat_natCast, List.getD_eq_getElem?_getD, List.getElem?_eq_getElem hlt]
        exact List.getElem_mem _
      obtain ⟨h1, h2⟩ := thereB_no (List.all_eq_true.1 HTH.out _ hmem)
      have hst : szP ss (l.drop k) z = szP ss (l.drop (k + 1)) (min (z + rdOf 0 ss (rd l (k : Int) - 1)) great) := by
        rw [List.drop_eq_getElem_cons hlt, szP, List.foldl_cons]
        have : rd l (k : Int) = l[k] := by simp [rd, rdOf, List.getD, hlt]
        rw [this]; rfl
      rw [HC.out] at hst
      generalize rd l (k : Int) = id at hx h1 h2 hst
      obtain ⟨ji, hji⟩ : ∃ ji, id - 1 = ji := ⟨_, rfl⟩
      have hlen := HLEN.out
      have hn := HN.out
      have hw : IntKind.i64.wrap (id - 1) = ji := by rw [← hji]; exact wr64' _ (by omega) (by omega)
      have hw2 : wrap64 (id - 1) = ji := by unfold wrap64; omega
      have q0 : (0 : Int) ≤ ji := by omega
      have q1 : ji < (ss.length : Int) := by omega
      have r0 : decide (0 ≤ ji) = true := decide_eq_true q0
      have r1 : decide (ji < (ss.length : Int)) = true := decide_eq_true q1
      obtain ⟨ad2, ea2, hx2⟩ := Kd.at_int HBr.out ji q0 q1
      cases ea2
      rw [hji] at hst
      have hsm : rd ss ji ∈ ss := by
        unfold rd
        rw [List.getD_eq_getElem?_getD, List.getElem?_eq_getElem (show ji.toNat < ss.length by omega)]
        exact List.getElem_mem _
      have hsb := HSS.out _ hsm
      rw [show rdOf 0 ss ji = rd ss ji from rfl] at hst
      generalize rd ss ji = sj at hx2 hst hsb
      have hg := HG.out
      have hgr : great = 1073741824 := rfl
      have hws : IntKind.i64.wrap (z + sj) = z + sj := wr64' _ (by omega) (by omega)
      have hws2 : wrap64 (z + sj) = z + sj := by unfold wrap64; omega
      have HB2 := Aside0.mk (show 0 ≤ min (z + sj) great ∧ min (z + sj) great ≤ great from ⟨by omega, by omega⟩)
      have HST := Aside0.mk hst
      obtain ⟨kq', rfl⟩ : ∃ m, gk = m + 1 := ⟨gk - 1, by have := HK.out; omega⟩
      clear hmem hsm hsb hst h1 h2 hji hlen hn hg hgr
      go_wp2_with fail
      all_goals
        go_roundg kq'
        case measure => omega
        case rel => exact ⟨k + 1, min (z + sj) great, congrArg (Value.int .i64) (by unfold great; omega), by first | rfl | rw [hwk], ⟨by have := HK.out; omega⟩, ⟨HST.out.symm⟩, HB2, ⟨rfl⟩⟩
    · have e1 : decide ((k : Int) < l.length) = false := decide_eq_false (by omega)
      have hd : z = Z := by
        have := HC.out
        rw [List.drop_of_length_le (by omega)] at this
        exact this
      subst hd
      go_wp2_with fail
      refine wp_region_L (S := fun w' => w'.cell? ⟨tb, 0, none⟩ = some (.slice At vs.length ca) ∧ w'.cell? ⟨tb, 1, none⟩ = some (.slice Bt ss.length cb)) (st := 18) (by kernel_rfl) ?_
      refine wpAnyL_pure (i := 0) (v := ?_) rfl (by kernel_rfl) (by kernel_rfl) (by kernel_rfl) rfl (fun _ _ _ h => h) (Or.inl ⟨by rfl, ?_⟩) (fun _ => ⟨hc0, hc1⟩) ?_
      rotate_left
      · intro w _
        first | (go_simp; done) | (go_simp; with_reducible rfl)
      simp only [List.getElem_toArray, List.getElem_cons_zero, List.getElem_cons_succ, Act.put, List.setIfInBounds_toArray, List.set_cons_zero, List.set_cons_succ]
      refine wpAnyL_pure (i := 1) (v := ?_) rfl (by kernel_rfl) (by kernel_rfl) (by kernel_rfl) rfl (fun _ _ _ h => h) (Or.inl ⟨by rfl, ?_⟩) (fun _ => ⟨hc0, hc1⟩) ?_
      rotate_left
      · intro w _
        first | (go_simp; done) | (go_simp; with_reducible rfl)
      simp only [List.getElem_toArray, List.getElem_cons_zero, List.getElem_cons_succ, Act.put, List.setIfInBounds_toArray, List.set_cons_zero, List.set_cons_succ]
      refine wpAnyL_pure (i := 2) (v := ?_) rfl (by kernel_rfl) (by kernel_rfl) (by kernel_rfl) rfl (fun _ _ _ h => h) (Or.inl ⟨by rfl, ?_⟩) (fun _ => ⟨hc0, hc1⟩) ?_
      rotate_left
      · intro w _
        first | (go_simp; done) | (go_simp; with_reducible rfl)
      simp only [List.getElem_toArray, List.getElem_cons_zero, List.getElem_cons_succ, Act.put, List.setIfInBounds_toArray, List.set_cons_zero, List.set_cons_succ]
      refine wpAnyL_pure (i := 3) (v := ?_) rfl (by kernel_rfl) (by kernel_rfl) (by kernel_rfl) rfl (fun _ _ _ h => h) (Or.inl ⟨by rfl, ?_⟩) (fun _ => ⟨hc0, hc1⟩) ?_
      rotate_left
      · intro w _
        first | (go_simp; done) | (go_simp; with_reducible rfl)
      simp only [List.getElem_toArray, List.getElem_cons_zero, List.getElem_cons_succ, Act.put, List.setIfInBounds_toArray, List.set_cons_zero, List.set_cons_succ]
      refine wpAnyL_pure (i := 4) (v := ?_) rfl (by kernel_rfl) (by kernel_rfl) (by kernel_rfl) rfl (fun _ _ _ h => h) (Or.inl ⟨by rfl, ?_⟩) (fun _ => ⟨hc0, hc1⟩) ?_
      rotate_left
      · intro w _
        first | (go_simp; done) | (go_simp; with_reducible rfl)
      simp only [List.getElem_toArray, List.getElem_cons_zero, List.getElem_cons_succ, Act.put, List.setIfInBounds_toArray, List.set_cons_zero, List.set_cons_succ]
      refine wpAnyL_take (i := 5) (v := ?_) rfl (by kernel_rfl) (by kernel_rfl) (by kernel_rfl) (by kernel_rfl) rfl (by rfl) (fun _ _ _ h => h) (Or.inl ⟨by rfl, ?_⟩) ⟨hc0, hc1⟩ ?_
      rotate_left
      · intro w hSw
        obtain ⟨hs0, hs1⟩ := hSw
        first | (go_simp; done) | (go_simp; with_reducible rfl)
      simp only [List.getElem_toArray, List.getElem_cons_zero, List.getElem_cons_succ, Act.put, List.setIfInBounds_toArray, List.set_cons_zero, List.set_cons_succ]
      refine wpAnyL_pure (i := 6) (v := ?_) rfl (by kernel_rfl) (by kernel_rfl) (by kernel_rfl) rfl (fun _ _ _ h => h) (Or.inl ⟨by rfl, ?_⟩) (fun _ => ⟨hc0, hc1⟩) ?_
      rotate_left
      · intro w _
        first | (go_simp; done) | (go_simp; with_reducible rfl)
      simp only [List.getElem_toArray, List.getElem_cons_zero, List.getElem_cons_succ, Act.put, List.setIfInBounds_toArray, List.set_cons_zero, List.set_cons_succ]
      refine wpAnyL_pure (i := 9) (v := ?_) rfl (by kernel_rfl) (by kernel_rfl) (by kernel_rfl) rfl (fun _ _ _ h => h) (Or.inl ⟨by rfl, ?_⟩) (fun _ => ⟨hc0, hc1⟩) ?_
      rotate_left
      · intro w _
        first | (go_simp; done) | (go_simp; with_reducible rfl)
      simp only [List.getElem_toArray, List.getElem_cons_zero, List.getElem_cons_succ, Act.put, List.setIfInBounds_toArray, List.set_cons_zero, List.set_cons_succ]
      refine wpAnyL_pure (i := 10) (v := ?_) rfl (by kernel_rfl) (by kernel_rfl) (by kernel_rfl) rfl (fun _ _ _ h => h) (Or.inl ⟨by rfl, ?_⟩) (fun _ => ⟨hc0, hc1⟩) ?_
      rotate_left
      · intro w _
        first | (go_simp; done) | (go_simp; with_reducible rfl)
      simp only [List.getElem_toArray, List.getElem_cons_zero, List.getElem_cons_succ, Act.put, List.setIfInBounds_toArray, List.set_cons_zero, List.set_cons_succ]
      refine wpAnyL_pure (i := 11) (v := ?_) rfl (by kernel_rfl) (by kernel_rfl) (by kernel_rfl) rfl (fun _ _ _ h => h) (Or.inl ⟨by rfl, ?_⟩) (fun _ => ⟨hc0, hc1⟩) ?_
      rotate_left
      · intro w _
        first | (go_simp; done) | (go_simp; with_reducible rfl)
      simp only [List.getElem_toArray, List.getElem_cons_zero, List.getElem_cons_succ, Act.put, List.setIfInBounds_toArray, List.set_cons_zero, List.set_cons_succ]
      refine wpAnyL_take (i := 12) (v := ?_) rfl (by kernel_rfl) (by kernel_rfl) (by kernel_rfl) (by kernel_rfl) rfl (by rfl) (fun _ _ _ h => h) (Or.inl ⟨by rfl, ?_⟩) ⟨hc0, hc1⟩ ?_
      rotate_left
      · intro w hSw
        obtain ⟨hs0, hs1⟩ := hSw
        first | (go_simp; done) | (go_simp; with_reducible rfl)
      simp only [List.getElem_toArray, List.getElem_cons_zero, List.getElem_cons_succ, Act.put, List.setIfInBounds_toArray, List.set_cons_zero, List.set_cons_succ]
      refine wpAnyL_pure (i := 13) (v := ?_) rfl (by kernel_rfl) (by kernel_rfl) (by kernel_rfl) rfl (fun _ _ _ h => h) (Or.inl ⟨by rfl, ?_⟩) (fun _ => ⟨hc0, hc1⟩) ?_
      rotate_left
      · intro w _
        first | (go_simp; done) | (go_simp; with_reducible rfl)
      simp only [List.getElem_toArray, List.getElem_cons_zero, List.getElem_cons_succ, Act.put, List.setIfInBounds_toArray, List.set_cons_zero, List.set_cons_succ]
      have hu97 := Tryd.underlying97
      have hu98 := Tryd.underlying98
      obtain ⟨i0, hi0, hz0, hz1, hz2⟩ := info_of info20
      obtain ⟨i3, hi3, hy0, hy1, hy2⟩ := info_of info3
      have hbig : vs.length + 1 ≤ maxLen := Nat.le_trans (show vs.length + 1 ≤ 100001 by have := HN.out; omega) (by decide)
      have hbig2 : ss.length + 1 ≤ maxLen := by rw [HLEN.out]; exact hbig
      refine wpAnyL_ready (rs := [7, 14]) (by kernel_rfl) (by simp) ?_
      refine AllReadyL.cons (o := ({ dst := some 35, op := .buildSlice 97 1 #[(0, .tmp 34)], type := 97, pos := "term.go:64", after := #[{ on := 6, ground := .data }], guard := none } : Oper)) rfl (fun K hK => ?_) (AllReadyL.cons (o := ({ dst := some 42, op := .buildSlice 98 1 #[(0, .tmp 41)], type := 98, pos := "term.go:64", after := #[{ on := 13, ground := .data }], guard := none } : Oper)) rfl (fun K hK => ?_) (AllReadyL.nil))
      · go_simp
        have HM1 := (HM.out.alloc (Obj.cells #[Value.iface nt nv] 20)).drew
        refine hK.out _ _ (fun _ _ => ⟨HM1.cells 0, HM1.cells 1⟩) ?_
        clear hK K
        try simp only [Act.put, List.setIfInBounds_toArray, List.set_cons_zero, List.set_cons_succ]
        refine wpAnyL_ready (rs := [8, 14]) (by kernel_rfl) (by simp) ?_
        refine AllReadyL.cons (o := ({ dst := some 36, op := .call { callee := .builtin .append, args := #[.tmp 33, .tmp 35], argTypes := #[97, 97] }, type := 97, pos := "term.go:64", after := #[{ on := 5, ground := .data }, { on := 7, ground := .data }], guard := none } : Oper)) rfl (fun K hK => ?_) (AllReadyL.cons (o := ({ dst := some 42, op := .buildSlice 98 1 #[(0, .tmp 41)], type := 98, pos := "term.go:64", after := #[{ on := 13, ground := .data }], guard := none } : Oper)) rfl (fun K hK => ?_) (AllReadyL.nil))
        · have hX : (w.alloc (Obj.cells #[Value.iface nt nv] 20)).drew.heap[w.heap.size]? = some (Obj.cells #[Value.iface nt nv] 20) := heap_alloc_new w _
          refine step_append_lies (o := ({ dst := some 36, op := .call { callee := .builtin .append, args := #[.tmp 33, .tmp 35], argTypes := #[97, 97] }, type := 97, pos := "term.go:64", after := #[{ on := 5, ground := .data }, { on := 7, ground := .data }], guard := none } : Oper)) _ (by rfl) (.tmp 33) (.tmp 35) 97 (by rfl) base 20 i0 .nilIface 1 16 hu97 hi0 hz0 hz1 hz2 rfl (by omega) _ vs.length _ (by rfl) HM1.la ⟨w.heap.size, 0, none⟩ 1 1 [Value.iface nt nv] (by rfl) rfl (World.news_of_block (cs := #[Value.iface nt nv]) hX) (by simp [Value.oneCell']) (by omega) hbig (by have := HN.out; omega) (by have := HBT.out; simp; omega) _ rfl ?_
          intro g1 cap1 W2 hown1 hg1 hat1 hlt1
          have HMa := HM1.appA hown1 hg1 hat1
          refine hK.out _ _ (fun _ _ => ⟨HMa.cells 0, HMa.cells 1⟩) ?_
          clear hK K
          try simp only [Act.put, List.setIfInBounds_toArray, List.set_cons_zero, List.set_cons_succ]
          refine wpAnyL_ready (rs := [14]) (by kernel_rfl) (by simp) ?_
          refine AllReadyL.cons (o := ({ dst := some 42, op := .buildSlice 98 1 #[(0, .tmp 41)], type := 98, pos := "term.go:64", after := #[{ on := 13, ground := .data }], guard := none } : Oper)) rfl (fun K hK => ?_) (AllReadyL.nil)
          go_simp
          have HMb := HMa.alloc (Obj.cells #[Value.int .i64 z] 3)
          refine hK.out _ _ (fun _ _ => ⟨HMb.cells 0, HMb.cells 1⟩) ?_
          clear hK K
          try simp only [Act.put, List.setIfInBounds_toArray, List.set_cons_zero, List.set_cons_succ]
          refine wpAnyL_ready (rs := [15]) (by kernel_rfl) (by simp) ?_
          refine AllReadyL.cons (o := ({ dst := some 43, op := .call { callee := .builtin .append, args := #[.tmp 40, .tmp 42], argTypes := #[98, 98] }, type := 98, pos := "term.go:64", after := #[{ on := 12, ground := .data }, { on := 14, ground := .data }, { on := 8, ground := .chain }], guard := none } : Oper)) rfl (fun K hK => ?_) (AllReadyL.nil)
          have hY : (W2.alloc (Obj.cells #[Value.int .i64 z] 3)).heap[W2.heap.size]? = some (Obj.cells #[Value.int .i64 z] 3) := heap_alloc_new W2 _
          refine step_append_lies (o := ({ dst := some 43, op := .call { callee := .builtin .append, args := #[.tmp 40, .tmp 42], argTypes := #[98, 98] }, type := 98, pos := "term.go:64", after := #[{ on := 12, ground := .data }, { on := 14, ground := .data }, { on := 8, ground := .chain }], guard := none } : Oper)) _ (by rfl) (.tmp 40) (.tmp 42) 98 (by rfl) base 3 i3 (.int .i64 0) 1 8 hu98 hi3 hy0 hy1 hy2 rfl (by omega) _ ss.length _ (by rfl) HMb.lb ⟨W2.heap.size, 0, none⟩ 1 1 [Value.int .i64 z] (by rfl) rfl (World.news_of_block (cs := #[Value.int .i64 z]) hY) (by simp [Value.oneCell']) (by omega) hbig2 (by have := HN.out; have := HLEN.out; omega) (by have := HBT.out; have := HMb.sz; omega) _ rfl ?_
          intro g2 cap2 W4 hown2 hg2 hat2 hlt2
          have HMf := HMb.appB hown2 hg2 hat2
          refine hK.out _ _ (fun _ _ => ⟨HMf.cells 0, HMf.cells 1⟩) ?_
          clear hK K
          try simp only [Act.put, List.setIfInBounds_toArray, List.set_cons_zero, List.set_cons_succ]
          have hT := HMf.tab
          refine wpAnyL_ready (rs := [16]) (by kernel_rfl) (by simp) ?_
          refine AllReadyL.cons rfl (fun K hK => ?_) AllReadyL.nil
          try simp only [List.getElem_toArray, List.getElem_cons_zero, List.getElem_cons_succ]
          go_simp
          refine hK.out _ _ (fun _ _ => ⟨HMf.cells 0, HMf.cells 1⟩) ?_
          clear hK K
          try simp only [Act.put, List.setIfInBounds_toArray, List.set_cons_zero, List.set_cons_succ]
          refine wpAnyL_ready (rs := [17]) (by kernel_rfl) (by simp) ?_
          refine AllReadyL.cons rfl (fun K hK => ?_) AllReadyL.nil
          try simp only [List.getElem_toArray, List.getElem_cons_zero, List.getElem_cons_succ]
          go_simp
          refine hK.out _ _ (fun _ _ => ⟨HMf.cells 0, HMf.cells 1⟩) ?_
          clear hK K
          try simp only [Act.put, List.setIfInBounds_toArray, List.set_cons_zero, List.set_cons_succ]
          have hc18 := tab_cell hT 0
          have hf18 := tab_frozen hT 0
          have hT5 := heap_setCell_same W4 tb 0 _ 100 (.slice (some ⟨g1, 0, none⟩) (vs.length + 1) cap1) hT
          have hc21 := tab_cell hT5 1
          have hf21 := tab_frozen hT5 1
          clear hT5
          refine wpAnyL_ready (rs := [18]) (by kernel_rfl) (by simp) ?_
          refine AllReadyL.cons rfl (fun K hK => ?_) AllReadyL.nil
          try simp only [List.getElem_toArray, List.getElem_cons_zero, List.getElem_cons_succ]
          go_simp
          refine hK.out _ _ (fun h => absurd rfl h) ?_
          clear hK K
          try simp only [Act.put, List.setIfInBounds_toArray, List.set_cons_zero, List.set_cons_succ]
          refine wpAnyL_ready (rs := [19]) (by kernel_rfl) (by simp) ?_
          refine AllReadyL.cons rfl (fun K hK => ?_) AllReadyL.nil
          try simp only [List.getElem_toArray, List.getElem_cons_zero, List.getElem_cons_succ]
          go_simp
          refine hK.out _ _ (fun _ h => by cases h) ?_
          clear hK K
          try simp only [Act.put, List.setIfInBounds_toArray, List.set_cons_zero, List.set_cons_succ]
          refine wpAnyL_ready (rs := [20]) (by kernel_rfl) (by simp) ?_
          refine AllReadyL.cons rfl (fun K hK => ?_) AllReadyL.nil
          try simp only [List.getElem_toArray, List.getElem_cons_zero, List.getElem_cons_succ]
          go_simp
          refine hK.out _ _ (fun _ h => by cases h) ?_
          clear hK K
          try simp only [Act.put, List.setIfInBounds_toArray, List.set_cons_zero, List.set_cons_succ]
          refine wpAnyL_ready (rs := [21]) (by kernel_rfl) (by simp) ?_
          refine AllReadyL.cons rfl (fun K hK => ?_) AllReadyL.nil
          try simp only [List.getElem_toArray, List.getElem_cons_zero, List.getElem_cons_succ]
          go_simp
          refine hK.out _ _ (fun _ h => by cases h) ?_
          clear hK K
          try simp only [Act.put, List.setIfInBounds_toArray, List.set_cons_zero, List.set_cons_succ]
          refine wpAnyL_done (by kernel_rfl) ?_ _
          have HPE := Aside0.mk (put_end (nd := nd) (z := z) HRR.out HMf (by simp [encs, HND.out]) (by simp [encs]) (by simp) (by simp))
          have hc0 := tab_cell HPE.out.1.cells 0
          go_wp2_with fail
          go_ret
          exact ⟨_, _, rfl, HPE.out⟩
        · go_simp
          have HM2 := ((HM.out.alloc (Obj.cells #[Value.iface nt nv] 20)).alloc (Obj.cells #[Value.int .i64 z] 3)).drew
          refine hK.out _ _ (fun _ _ => ⟨HM2.cells 0, HM2.cells 1⟩) ?_
          clear hK K
          try simp only [Act.put, List.setIfInBounds_toArray, List.set_cons_zero, List.set_cons_succ]
          refine wpAnyL_ready (rs := [8]) (by kernel_rfl) (by simp) ?_
          refine AllReadyL.cons (o := ({ dst := some 36, op := .call { callee := .builtin .append, args := #[.tmp 33, .tmp 35], argTypes := #[97, 97] }, type := 97, pos := "term.go:64", after := #[{ on := 5, ground := .data }, { on := 7, ground := .data }], guard := none } : Oper)) rfl (fun K hK => ?_) (AllReadyL.nil)
          have hX : ((w.alloc (Obj.cells #[Value.iface nt nv] 20)).alloc (Obj.cells #[Value.int .i64 z] 3)).drew.heap[w.heap.size]? = some (Obj.cells #[Value.iface nt nv] 20) := (Below.heap_alloc _ _ _ (by rw [World.size_alloc]; omega)).trans (heap_alloc_new w _)
          have hY : ((w.alloc (Obj.cells #[Value.iface nt nv] 20)).alloc (Obj.cells #[Value.int .i64 z] 3)).drew.heap[w.heap.size + 1]? = some (Obj.cells #[Value.int .i64 z] 3) := by
            have h := heap_alloc_new (w.alloc (Obj.cells #[Value.iface nt nv] 20)) (Obj.cells #[Value.int .i64 z] 3)
            rw [World.size_alloc] at h
            exact h
          refine step_append_lies (o := ({ dst := some 36, op := .call { callee := .builtin .append, args := #[.tmp 33, .tmp 35], argTypes := #[97, 97] }, type := 97, pos := "term.go:64", after := #[{ on := 5, ground := .data }, { on := 7, ground := .data }], guard := none } : Oper)) _ (by rfl) (.tmp 33) (.tmp 35) 97 (by rfl) base 20 i0 .nilIface 1 16 hu97 hi0 hz0 hz1 hz2 rfl (by omega) _ vs.length _ (by rfl) HM2.la ⟨w.heap.size, 0, none⟩ 1 1 [Value.iface nt nv] (by rfl) rfl (World.news_of_block (cs := #[Value.iface nt nv]) hX) (by simp [Value.oneCell']) (by omega) hbig (by have := HN.out; omega) (by have := HBT.out; simp; omega) _ rfl ?_
          intro g1 cap1 W2 hown1 hg1 hat1 hlt1
          have HMa := HM2.appA hown1 hg1 hat1
          replace hY := (hg1.block _ (Array.getElem?_eq_some_iff.1 hY).1 (fun e => by have := (HM.out.la.lt _ e.symm).2; omega)).trans hY
          refine hK.out _ _ (fun _ _ => ⟨HMa.cells 0, HMa.cells 1⟩) ?_
          clear hK K
          try simp only [Act.put, List.setIfInBounds_toArray, List.set_cons_zero, List.set_cons_succ]
          refine wpAnyL_ready (rs := [15]) (by kernel_rfl) (by simp) ?_
          refine AllReadyL.cons (o := ({ dst := some 43, op := .call { callee := .builtin .append, args := #[.tmp 40, .tmp 42], argTypes := #[98, 98] }, type := 98, pos := "term.go:64", after := #[{ on := 12, ground := .data }, { on := 14, ground := .data }, { on := 8, ground := .chain }], guard := none } : Oper)) rfl (fun K hK => ?_) (AllReadyL.nil)
          refine step_append_lies (o := ({ dst := some 43, op := .call { callee := .builtin .append, args := #[.tmp 40, .tmp 42], argTypes := #[98, 98] }, type := 98, pos := "term.go:64", after := #[{ on := 12, ground := .data }, { on := 14, ground := .data }, { on := 8, ground := .chain }], guard := none } : Oper)) _ (by rfl) (.tmp 40) (.tmp 42) 98 (by rfl) base 3 i3 (.int .i64 0) 1 8 hu98 hi3 hy0 hy1 hy2 rfl (by omega) _ ss.length _ (by rfl) HMa.lb ⟨w.heap.size + 1, 0, none⟩ 1 1 [Value.int .i64 z] (by rfl) rfl (World.news_of_block (cs := #[Value.int .i64 z]) hY) (by simp [Value.oneCell']) (by omega) hbig2 (by have := HN.out; have := HLEN.out; omega) (by have := HBT.out; have := HMa.sz; omega) _ rfl ?_
          intro g2 cap2 W4 hown2 hg2 hat2 hlt2
          have HMf := HMa.appB hown2 hg2 hat2
          refine hK.out _ _ (fun _ _ => ⟨HMf.cells 0, HMf.cells 1⟩) ?_
          clear hK K
          try simp only [Act.put, List.setIfInBounds_toArray, List.set_cons_zero, List.set_cons_succ]
          have hT := HMf.tab
          refine wpAnyL_ready (rs := [16]) (by kernel_rfl) (by simp) ?_
          refine AllReadyL.cons rfl (fun K hK => ?_) AllReadyL.nil
          try simp only [List.getElem_toArray, List.getElem_cons_zero, List.getElem_cons_succ]
          go_simp
          refine hK.out _ _ (fun _ _ => ⟨HMf.cells 0, HMf.cells 1⟩) ?_
          clear hK K
          try simp only [Act.put, List.setIfInBounds_toArray, List.set_cons_zero, List.set_cons_succ]
          refine wpAnyL_ready (rs := [17]) (by kernel_rfl) (by simp) ?_
          refine AllReadyL.cons rfl (fun K hK => ?_) AllReadyL.nil
          try simp only [List.getElem_toArray, List.getElem_cons_zero, List.getElem_cons_succ]
          go_simp
          refine hK.out _ _ (fun _ _ => ⟨HMf.cells 0, HMf.cells 1⟩) ?_
          clear hK K
          try simp only [Act.put, List.setIfInBounds_toArray, List.set_cons_zero, List.set_cons_succ]
          have hc18 := tab_cell hT 0
          have hf18 := tab_frozen hT 0
          have hT5 := heap_setCell_same W4 tb 0 _ 100 (.slice (some ⟨g1, 0, none⟩) (vs.length + 1) cap1) hT
          have hc21 := tab_cell hT5 1
          have hf21 := tab_frozen hT5 1
          clear hT5
          refine wpAnyL_ready (rs := [18]) (by kernel_rfl) (by simp) ?_
          refine AllReadyL.cons rfl (fun K hK => ?_) AllReadyL.nil
          try simp only [List.getElem_toArray, List.getElem_cons_zero, List.getElem_cons_succ]
          go_simp
          refine hK.out _ _ (fun h => absurd rfl h) ?_
          clear hK K
          try simp only [Act.put, List.setIfInBounds_toArray, List.set_cons_zero, List.set_cons_succ]
          refine wpAnyL_ready (rs := [19]) (by kernel_rfl) (by simp) ?_
          refine AllReadyL.cons rfl (fun K hK => ?_) AllReadyL.nil
          try simp only [List.getElem_toArray, List.getElem_cons_zero, List.getElem_cons_succ]
          go_simp
          refine hK.out _ _ (fun _ h => by cases h) ?_
          clear hK K
          try simp only [Act.put, List.setIfInBounds_toArray, List.set_cons_zero, List.set_cons_succ]
          refine wpAnyL_ready (rs := [20]) (by kernel_rfl) (by simp) ?_
          refine AllReadyL.cons rfl (fun K hK => ?_) AllReadyL.nil
          try simp only [List.getElem_toArray, List.getElem_cons_zero, List.getElem_cons_succ]
          go_simp
          refine hK.out _ _ (fun _ h => by cases h) ?_
          clear hK K
          try simp only [Act.put, List.setIfInBounds_toArray, List.set_cons_zero, List.set_cons_succ]
          refine wpAnyL_ready (rs := [21]) (by kernel_rfl) (by simp) ?_
          refine AllReadyL.cons rfl (fun K hK => ?_) AllReadyL.nil
          try simp only [List.getElem_toArray, List.getElem_cons_zero, List.getElem_cons_succ]
          go_simp
          refine hK.out _ _ (fun _ h => by cases h) ?_
          clear hK K
          try simp only [Act.put, List.setIfInBounds_toArray, List.set_cons_zero, List.set_cons_succ]
          refine wpAnyL_done (by kernel_rfl) ?_ _
          have HPE := Aside0.mk (put_end (nd := nd) (z := z) HRR.out HMf (by simp [encs, HND.out]) (by simp [encs]) (by simp) (by simp))
          have hc0 := tab_cell HPE.out.1.cells 0
          go_wp2_with fail
          go_ret
          exact ⟨_, _, rfl, HPE.out⟩
      · go_simp
        have HM1 := (HM.out.alloc (Obj.cells #[Value.int .i64 z] 3)).drew
        refine hK.out _ _ (fun _ _ => ⟨HM1.cells 0, HM1.cells 1⟩) ?_
        clear hK K
        try simp only [Act.put, List.setIfInBounds_toArray, List.set_cons_zero, List.set_cons_succ]
        refine wpAnyL_ready (rs := [7]) (by kernel_rfl) (by simp) ?_
        refine AllReadyL.cons (o := ({ dst := some 35, op := .buildSlice 97 1 #[(0, .tmp 34)], type := 97, pos := "term.go:64", after := #[{ on := 6, ground := .data }], guard := none } : Oper)) rfl (fun K hK => ?_) (AllReadyL.nil)
        go_simp
        have HM2 := ((HM.out.alloc (Obj.cells #[Value.int .i64 z] 3)).alloc (Obj.cells #[Value.iface nt nv] 20)).drew
        refine hK.out _ _ (fun _ _ => ⟨HM2.cells 0, HM2.cells 1⟩) ?_
        clear hK K
        try simp only [Act.put, List.setIfInBounds_toArray, List.set_cons_zero, List.set_cons_succ]
        refine wpAnyL_ready (rs := [8]) (by kernel_rfl) (by simp) ?_
        refine AllReadyL.cons (o := ({ dst := some 36, op := .call { callee := .builtin .append, args := #[.tmp 33, .tmp 35], argTypes := #[97, 97] }, type := 97, pos := "term.go:64", after := #[{ on := 5, ground := .data }, { on := 7, ground := .data }], guard := none } : Oper)) rfl (fun K hK => ?_) (AllReadyL.nil)
        have hY : ((w.alloc (Obj.cells #[Value.int .i64 z] 3)).alloc (Obj.cells #[Value.iface nt nv] 20)).drew.heap[w.heap.size]? = some (Obj.cells #[Value.int .i64 z] 3) := (Below.heap_alloc _ _ _ (by rw [World.size_alloc]; omega)).trans (heap_alloc_new w _)
        have hX : ((w.alloc (Obj.cells #[Value.int .i64 z] 3)).alloc (Obj.cells #[Value.iface nt nv] 20)).drew.heap[w.heap.size + 1]? = some (Obj.cells #[Value.iface nt nv] 20) := by
          have h := heap_alloc_new (w.alloc (Obj.cells #[Value.int .i64 z] 3)) (Obj.cells #[Value.iface nt nv] 20)
          rw [World.size_alloc] at h
          exact h
        refine step_append_lies (o := ({ dst := some 36, op := .call { callee := .builtin .append, args := #[.tmp 33, .tmp 35], argTypes := #[97, 97] }, type := 97, pos := "term.go:64", after := #[{ on := 5, ground := .data }, { on := 7, ground := .data }], guard := none } : Oper)) _ (by rfl) (.tmp 33) (.tmp 35) 97 (by rfl) base 20 i0 .nilIface 1 16 hu97 hi0 hz0 hz1 hz2 rfl (by omega) _ vs.length _ (by rfl) HM2.la ⟨w.heap.size + 1, 0, none⟩ 1 1 [Value.iface nt nv] (by rfl) rfl (World.news_of_block (cs := #[Value.iface nt nv]) hX) (by simp [Value.oneCell']) (by omega) hbig (by have := HN.out; omega) (by have := HBT.out; simp; omega) _ rfl ?_
        intro g1 cap1 W2 hown1 hg1 hat1 hlt1
        have HMa := HM2.appA hown1 hg1 hat1
        replace hY := (hg1.block _ (Array.getElem?_eq_some_iff.1 hY).1 (fun e => by have := (HM.out.la.lt _ e.symm).2; omega)).trans hY
        refine hK.out _ _ (fun _ _ => ⟨HMa.cells 0, HMa.cells 1⟩) ?_
        clear hK K
        try simp only [Act.put, List.setIfInBounds_toArray, List.set_cons_zero, List.set_cons_succ]
        refine wpAnyL_ready (rs := [15]) (by kernel_rfl) (by simp) ?_
        refine AllReadyL.cons (o := ({ dst := some 43, op := .call { callee := .builtin .append, args := #[.tmp 40, .tmp 42], argTypes := #[98, 98] }, type := 98, pos := "term.go:64", after := #[{ on := 12, ground := .data }, { on := 14, ground := .data }, { on := 8, ground := .chain }], guard := none } : Oper)) rfl (fun K hK => ?_) (AllReadyL.nil)
        refine step_append_lies (o := ({ dst := some 43, op := .call { callee := .builtin .append, args := #[.tmp 40, .tmp 42], argTypes := #[98, 98] }, type := 98, pos := "term.go:64", after := #[{ on := 12, ground := .data }, { on := 14, ground := .data }, { on := 8, ground := .chain }], guard := none } : Oper)) _ (by rfl) (.tmp 40) (.tmp 42) 98 (by rfl) base 3 i3 (.int .i64 0) 1 8 hu98 hi3 hy0 hy1 hy2 rfl (by omega) _ ss.length _ (by rfl) HMa.lb ⟨w.heap.size, 0, none⟩ 1 1 [Value.int .i64 z] (by rfl) rfl (World.news_of_block (cs := #[Value.int .i64 z]) hY) (by simp [Value.oneCell']) (by omega) hbig2 (by have := HN.out; have := HLEN.out; omega) (by have := HBT.out; have := HMa.sz; omega) _ rfl ?_
        intro g2 cap2 W4 hown2 hg2 hat2 hlt2
        have HMf := HMa.appB hown2 hg2 hat2
        refine hK.out _ _ (fun _ _ => ⟨HMf.cells 0, HMf.cells 1⟩) ?_
        clear hK K
        try simp only [Act.put, List.setIfInBounds_toArray, List.set_cons_zero, List.set_cons_succ]
        have hT := HMf.tab
        refine wpAnyL_ready (rs := [16]) (by kernel_rfl) (by simp) ?_
        refine AllReadyL.cons rfl (fun K hK => ?_) AllReadyL.nil
        try simp only [List.getElem_toArray, List.getElem_cons_zero, List.getElem_cons_succ]
        go_simp
        refine hK.out _ _ (fun _ _ => ⟨HMf.cells 0, HMf.cells 1⟩) ?_
        clear hK K
        try simp only [Act.put, List.setIfInBounds_toArray, List.set_cons_zero, List.set_cons_succ]
        refine wpAnyL_ready (rs := [17]) (by kernel_rfl) (by simp) ?_
        refine AllReadyL.cons rfl (fun K hK => ?_) AllReadyL.nil
        try simp only [List.getElem_toArray, List.getElem_cons_zero, List.getElem_cons_succ]
        go_simp
        refine hK.out _ _ (fun _ _ => ⟨HMf.cells 0, HMf.cells 1⟩) ?_
        clear hK K
        try simp only [Act.put, List.setIfInBounds_toArray, List.set_cons_zero, List.set_cons_succ]
        have hc18 := tab_cell hT 0
        have hf18 := tab_frozen hT 0
        have hT5 := heap_setCell_same W4 tb 0 _ 100 (.slice (some ⟨g1, 0, none⟩) (vs.length + 1) cap1) hT
        have hc21 := tab_cell hT5 1
        have hf21 := tab_frozen hT5 1
        clear hT5
        refine wpAnyL_ready (rs := [18]) (by kernel_rfl) (by simp) ?_
        refine AllReadyL.cons rfl (fun K hK => ?_) AllReadyL.nil
        try simp only [List.getElem_toArray, List.getElem_cons_zero, List.getElem_cons_succ]
        go_simp
        refine hK.out _ _ (fun h => absurd rfl h) ?_
        clear hK K
        try simp only [Act.put, List.setIfInBounds_toArray, List.set_cons_zero, List.set_cons_succ]
        refine wpAnyL_ready (rs := [19]) (by kernel_rfl) (by simp) ?_
        refine AllReadyL.cons rfl (fun K hK => ?_) AllReadyL.nil
        try simp only [List.getElem_toArray, List.getElem_cons_zero, List.getElem_cons_succ]
        go_simp
        refine hK.out _ _ (fun _ h => by cases h) ?_
        clear hK K
        try simp only [Act.put, List.setIfInBounds_toArray, List.set_cons_zero, List.set_cons_succ]
        refine wpAnyL_ready (rs := [20]) (by kernel_rfl) (by simp) ?_
        refine AllReadyL.cons rfl (fun K hK => ?_) AllReadyL.nil
        try simp only [List.getElem_toArray, List.getElem_cons_zero, List.getElem_cons_succ]
        go_simp
        refine hK.out _ _ (fun _ h => by cases h) ?_
        clear hK K
        try simp only [Act.put, List.setIfInBounds_toArray, List.set_cons_zero, List.set_cons_succ]
        refine wpAnyL_ready (rs := [21]) (by kernel_rfl) (by simp) ?_
        refine AllReadyL.cons rfl (fun K hK => ?_) AllReadyL.nil
        try simp only [List.getElem_toArray, List.getElem_cons_zero, List.getElem_cons_succ]
        go_simp
        refine hK.out _ _ (fun _ h => by cases h) ?_
        clear hK K
        try simp only [Act.put, List.setIfInBounds_toArray, List.set_cons_zero, List.set_cons_succ]
        refine wpAnyL_done (by kernel_rfl) ?_ _
        have HPE := Aside0.mk (put_end (nd := nd) (z := z) HRR.out HMf (by simp [encs, HND.out]) (by simp [encs]) (by simp) (by simp))
        have hc0 := tab_cell HPE.out.1.cells 0
        go_wp2_with fail
        go_ret
        exact ⟨_, _, rfl, HPE.out⟩
end Go.Proofs.YtcaojgdnhmgmlaaDoor.T
end
section
namespace Go.Proofs.YtcaojgdnhmgmlaaDoor.T
open Go.RowKit Go.Proofs.YtcaojgdnhmgmlaaDoor.Q Go.Proofs.YtcaojgdnhmgmlaaDoor.PTermPlays Go.Proofs.YtcaojgdnhmgmlaaDoorW.PrintWords Go.Proofs.YtcaojgdnhmgmlaaDoorW.PrintLast Go.Proofs.YtcaojgdnhmgmlaaDoorW.PrintMore
set_option linter.unusedVariables false

theorem szs_snoc (xs : List S104) (x : S104) : szs (xs ++ [x]) = szs xs ++ [szNode (szs xs) x] := by
  unfold szs; rw [List.foldl_append]; rfl
theorem szs_len : ∀ (n : Nat) (xs : List S104), xs.length = n → (szs xs).length = n := by
  intro n
  induction n with
  | zero => intro xs h; rw [List.eq_nil_of_length_eq_zero h]; rfl
  | succ n ih =>
    intro xs h
    obtain ⟨q, c, rfl⟩ : ∃ q c, xs = q ++ [c] := ⟨xs.dropLast, xs.getLast (by intro e; subst e; simp at h), (List.dropLast_concat_getLast _).symm⟩
    rw [szs_snoc, List.length_append, ih q (by simpa using h)]; rfl
theorem szs_length (xs : List S104) : (szs xs).length = xs.length := szs_len _ xs rfl
theorem rd_bounds {ss : List Int} (h : ∀ s ∈ ss, 0 ≤ s ∧ s ≤ great) (i : Int) : 0 ≤ rdOf 0 ss i ∧ rdOf 0 ss i ≤ great := by
  unfold rdOf
  rw [List.getD_eq_getElem?_getD]
  cases hi : ss[i.toNat]? with
  | none => simp [great]
  | some v => exact h v (List.mem_of_getElem? hi)
theorem szNode_bounds {ss : List Int} (h : ∀ s ∈ ss, 0 ≤ s ∧ s ≤ great) (x : S104) : 0 ≤ szNode ss x ∧ szNode ss x ≤ great := by
  have h1 := rd_bounds h (x.f1 - 1)
  have h2 := rd_bounds h (x.f2 - 1)
  unfold szNode
  unfold great at *
  split
  · omega
  · split <;> omega
theorem szs_bounds : ∀ (n : Nat) (xs : List S104), xs.length = n → ∀ s ∈ szs xs, 0 ≤ s ∧ s ≤ great := by
  intro n
  induction n with
  | zero => intro xs h; rw [List.eq_nil_of_length_eq_zero h]; intro s hs; simp [szs] at hs
  | succ n ih =>
    intro xs h
    obtain ⟨q, c, rfl⟩ : ∃ q c, xs = q ++ [c] := ⟨xs.dropLast, xs.getLast (by intro e; subst e; simp at h), (List.dropLast_concat_getLast _).symm⟩
    have hq := ih q (by simpa using h)
    rw [szs_snoc]
    intro s hs
    rcases List.mem_append.1 hs with hs | hs
    · exact hq s hs
    · rw [List.mem_singleton.1 hs]; exact szNode_bounds hq c
theorem atomsN_snoc (xs : List S104) (x : S104) : atomsN (xs ++ [x]) = atomsN xs + (if x.f0 = 1 then 1 else 0) := by
  unfold atomsN
  rw [List.filter_append, List.length_append]
  by_cases h : x.f0 = 1 <;> simp [h]
theorem atomsN_le (xs : List S104) : 0 ≤ atomsN xs ∧ atomsN xs ≤ xs.length := by
  unfold atomsN
  have := List.length_filter_le (fun x : S104 => x.f0 == 1) xs
  omega
theorem pairs_snoc : ∀ (xs : List S104) (i : Nat) (x : S104), pairs (xs ++ [x]) i = pairs xs i ++ (if x.f0 = 1 then [] else [(keyV x, .int .i64 ((xs.length : Int) + i + 1))])
  | [], i, x => by
    show pairs [x] i = _
    unfold pairs
    by_cases h : x.f0 = 1
    · rw [if_pos h, if_pos h]; simp [pairs]
    · rw [if_neg h, if_neg h]; simp [pairs]
  | y :: t, i, x => by
    have ih := pairs_snoc t (i + 1) x
    rw [List.cons_append, pairs, pairs, ih]
    have e : ((t.length : Int) + ((i + 1 : Nat) : Int) + 1) = (((y :: t).length : Int) + (i : Int) + 1) := by simp; omega
    rw [e]
    by_cases h : y.f0 = 1
    · rw [if_pos h, if_pos h]
    · rw [if_neg h, if_neg h, List.cons_append]
/-- The table at tb, its map at mp: the terms xs. -/
def TabS (base : Nat) (F : Nat → Prop) (W : World) (tb mp : Nat) (xs : List S104) : Prop :=
  ∃ A B es clk, RowsR base F W tb mp A B xs (szs xs) (atomsN xs) es clk ∧ es.toList.map (fun e => (e.key, e.val)) = pairs xs 0
theorem RowsR.atoms {base : Nat} {F : Nat → Prop} {W : World} {tb mp : Nat} {A B : Value} {vs : List S104} {ss : List Int} {at_ : Int} {es : Array MapEntry} {clk : Nat} (h : RowsR base F W tb mp A B vs ss at_ es clk) (n : Int) :
    RowsR base F (W.setCell ⟨tb, 3, none⟩ (.int .i64 n)) tb mp A B vs ss n es clk :=
  ⟨heap_setCell_same W tb 3 _ 100 _ h.cells, h.ft, h.fm, h.bt, h.bm, h.ne, Kd.R_step h.la (fun k hk _ => heap_setCell_other _ ⟨tb, 3, none⟩ k _ hk.2.1), Kd.R_step h.lb (fun k hk _ => heap_setCell_other _ ⟨tb, 3, none⟩ k _ hk.2.1),
    (heap_setCell_other _ ⟨tb, 3, none⟩ mp _ h.ne.symm).trans h.map⟩
set_option maxRecDepth 100000 in
set_option maxHeartbeats 2000000 in
theorem atom_calls (base : Nat) (F : Nat → Prop) (w : World) (tb mp : Nat) (xs : List S104) (hT : TabS base F w tb mp xs) (hn : xs.length < 100000) :
    Calls Tryd.prog 76 #[.pointer (some ⟨tb, 0, none⟩)] w fun e w' => e = .returned (.int .i64 (xs.length + 1)) ∧ TabS base (fun k => F k ∨ w.heap.size ≤ k) w' tb mp (xs ++ [⟨1, 0, 0, ⟨#[]⟩, atomsN xs⟩]) ∧ Quiet w w' ∧ ∀ k, k < w.heap.size → ¬ F k → w'.heap[k]? = w.heap[k]? := by
  obtain ⟨A, B, es, clk, hR, hE⟩ := hT
  have hb := atomsN_le xs
  have hP := put_calls base F (w.setCell ⟨tb, 3, none⟩ (.int .i64 (atomsN xs + 1))) tb mp A B xs (szs xs) (atomsN xs + 1) es clk (hR.atoms _) (szs_length xs) hn (szs_bounds _ xs rfl) ⟨1, 0, 0, ⟨#[]⟩, atomsN xs⟩ none 0 [] (by simp) (row0 _) rfl
  rw [node1 rfl] at hP
  have hsz := szs_snoc xs ⟨1, 0, 0, ⟨#[]⟩, atomsN xs⟩
  rw [show szNode (szs xs) ⟨1, 0, 0, ⟨#[]⟩, atomsN xs⟩ = szP (szs xs) [] 1 from by simp [szNode, szP]] at hsz
  rw [← hsz] at hP
  have hat := atomsN_snoc xs ⟨1, 0, 0, ⟨#[]⟩, atomsN xs⟩
  rw [if_pos rfl] at hat
  rw [← hat] at hP
  have hpr := pairs_snoc xs 0 ⟨1, 0, 0, ⟨#[]⟩, atomsN xs⟩
  rw [if_pos rfl, List.append_nil] at hpr
  have HP := Aside0.mk hP
  have HE := Aside0.mk (hE.trans hpr.symm)
  have HF := Aside0.mk hR.ft
  have HK := Aside0.mk (fun k (hk : k ≠ tb) => heap_setCell_other w ⟨tb, 3, none⟩ k (.int .i64 (atomsN xs + 1)) hk)
  have hc := tab_cell hR.cells 3
  have hf := tab_frozen hR.cells 3
  have hc2 := tab_cell (hR.atoms (atomsN xs + 1)).cells 3
  rw [hat] at HP
  generalize atomsN xs = n at HP HE HK hc hc2 hb hat ⊢
  have w1 : IntKind.i64.wrap (n + 1) = n + 1 := wr64' _ (by omega) (by omega)
  have w2 : IntKind.i64.wrap n = n := wr64' _ (by omega) (by omega)
  have w3 : IntKind.i64.wrap (n + 1 - 1) = n := by rw [Int.add_sub_cancel]; exact w2
  clear hP hE hR hsz hpr hb hn
  go_enter Tryd.func76, Tryd.ntmps76
  go_wp2_with fail
  refine HP.out.mono ?_
  rintro e w1 ⟨A', B', rfl, hR', hs', hk'⟩
  simp only [World.size_setCell] at hR' hk'
  have HQ := Aside0.mk (And.intro hR' (And.intro hs' hk'))
  clear hR' hs' hk'
  go_wp2_with fail
  go_ret
  exact ⟨rfl, ⟨A', B', es, clk, by rw [hat]; exact HQ.out.1, HE.out⟩, (Quiet.setCell _ _ _).trans HQ.out.2.1, fun k hk hf => (HQ.out.2.2 k hk hf).trans (HK.out k (fun e => hf (e ▸ HF.out)))⟩
end Go.Proofs.YtcaojgdnhmgmlaaDoor.T
end
section
namespace Go.Proofs.YtcaojgdnhmgmlaaDoor.T
open Go.RowKit Go.Proofs.YtcaojgdnhmgmlaaDoor.Q Go.Proofs.YtcaojgdnhmgmlaaDoor.PTermPlays Go.Proofs.YtcaojgdnhmgmlaaDoorW.PrintWords Go.Proofs.YtcaojgdnhmgmlaaDoorW.PrintLast Go.Proofs.YtcaojgdnhmgmlaaDoorW.PrintMore
set_option linter.unusedVariables false

theorem eqA129 (d : Nat) (w : World) (x0 y0 : Int) (x1 y1 : Int) (x2 y2 : Int) (x3 y3 : ByteArray) :
    (Op.equalIn (d + 2) 129 (.agg #[.int .i64 x0, .int .i64 x1, .int .i64 x2, .string x3]) (.agg #[.int .i64 y0, .int .i64 y1, .int .i64 y2, .string y3])).run Tryd.prog w = .ok (x0 == y0 && (x1 == y1 && (x2 == y2 && (x3.toList == y3.toList)))) w := by
  refine eqA_of Tryd.underlying129 (by kernel_rfl) ?_
  refine eqf_cons (by rfl) (by go_simp; rfl) (by go_simp; rfl) (by go_simp) ?_
  refine eqf_cons (by rfl) (by go_simp; rfl) (by go_simp; rfl) (by go_simp) ?_
  refine eqf_cons (by rfl) (by go_simp; rfl) (by go_simp; rfl) (by go_simp) ?_
  exact eqf_last (by rfl) (by go_simp; rfl) (by go_simp; rfl) (by go_simp)
theorem check129 (em : Bool) (x0 x1 x2 : Int) (x3 : ByteArray) (w : World) : (Instr.checkKey em 10000 129 (.agg #[.int .i64 x0, .int .i64 x1, .int .i64 x2, .string x3])).run Tryd.prog w = .ok () w := by kernel_rfl
def sameK (x y : S104) : Bool := x.f0 == y.f0 && (x.f1 == y.f1 && (x.f2 == y.f2 && (x.f3.toList == y.f3.toList)))
/-- The id under which a key is found (0: under none), the first term of the list having the id i + 1. -/
def idOf (k : S104) : List S104 → Nat → Int
  | [], _ => 0
  | x :: t, i => if x.f0 = 1 then idOf k t (i + 1) else if sameK k x = true then (i : Int) + 1 else idOf k t (i + 1)
theorem equal129 (x y : S104) (w : World) : (Op.equal 129 (keyV x) (keyV y)).run Tryd.prog w = .ok (sameK x y) w := eqA129 _ w _ _ _ _ _ _ _ _
theorem asking (k : S104) (w : World) : ∀ (xs : List S104) (i : Nat) (es : List MapEntry) (j : Nat), es.map (fun e => (e.key, e.val)) = pairs xs i →
    ∃ r, (Instr.findAsking 129 (keyV k) es j).run Tryd.prog w = .ok r w ∧ ((idOf k xs i = 0 ∧ r = none) ∨ (0 < idOf k xs i ∧ ∃ n, r = some (n, .int .i64 (idOf k xs i))))
  | [], i, es, j, h => by
    obtain rfl : es = [] := by simpa [pairs] using h
    exact ⟨none, by simp [Instr.findAsking], .inl ⟨rfl, rfl⟩⟩
  | x :: t, i, es, j, h => by
    unfold pairs at h
    unfold idOf
    by_cases h1 : x.f0 = 1
    · rw [if_pos h1] at h ⊢
      exact asking k w t (i + 1) es j h
    · rw [if_neg h1] at h ⊢
      rcases es with _ | ⟨e, es⟩
      · simp at h
      · rw [List.map_cons] at h
        obtain ⟨h2, h3⟩ := List.cons.inj h
        obtain ⟨hk, hv⟩ := Prod.mk.inj h2
        by_cases hs : sameK k x = true
        · rw [if_pos hs]
          refine ⟨some (j, e.val), ?_, .inr ⟨by omega, j, by rw [show e.val = .int .i64 ((i : Int) + 1) from hv]⟩⟩
          have hq := equal129 k x w
          rw [hs] at hq
          simp [Instr.findAsking, show e.key = keyV x from hk, hq]
        · rw [if_neg hs]
          obtain ⟨r, hr, hor⟩ := asking k w t (i + 1) es (j + 1) h3
          refine ⟨r, ?_, hor⟩
          have hq := equal129 k x w
          rw [show sameK k x = false by simpa using hs] at hq
          simp [Instr.findAsking, show e.key = keyV x from hk, hq, hr]
theorem find129 (k : S104) (w : World) (xs : List S104) (es : List MapEntry) (h : es.map (fun e => (e.key, e.val)) = pairs xs 0) :
    ∃ r, (Instr.findKey 129 (keyV k) es).run Tryd.prog w = .ok r w ∧ ((idOf k xs 0 = 0 ∧ r = none) ∨ (0 < idOf k xs 0 ∧ ∃ n, r = some (n, .int .i64 (idOf k xs 0)))) := by
  obtain ⟨r, hr, hor⟩ := asking k w xs 0 es 0 h
  exact ⟨r, (run_findKey_eq w (by rw [Tryd.underlying129]) _ _).trans hr, hor⟩
theorem lookup_run (k : S104) (w : World) (mp : Nat) (xs : List S104) (es : Array MapEntry) (clk : Nat) (hm : w.heap[mp]? = some (.map es clk)) (h : es.toList.map (fun e => (e.key, e.val)) = pairs xs 0) :
    (Instr.lookup 96 (.map (some mp)) (keyV k) true).run Tryd.prog w = .ok (.tuple #[.int .i64 (idOf k xs 0), .bool (decide (0 < idOf k xs 0))]) w := by
  obtain ⟨r, hr, hor⟩ := find129 k w xs es.toList h
  have hz : (zeroValue 3).run Tryd.prog w = .ok (.int .i64 0) w := by kernel_rfl
  have hu : ∀ W : World, (underlying 96).run Tryd.prog W = .ok (.map 129 3) W := run_underlying Tryd.underlying96
  have hc := check129 es.isEmpty k.f0 k.f1 k.f2 k.f3 w
  have hkv : keyV k = .agg #[.int .i64 k.f0, .int .i64 k.f1, .int .i64 k.f2, .string k.f3] := rfl
  rw [← hkv] at hc
  generalize keyV k = kv at hr hc
  rcases hor with ⟨h1, rfl⟩ | ⟨h1, n, rfl⟩
  · rw [h1]
    simp [Instr.lookup, MapKept.run_getObj_map hm, hc, hu, hr, hz, Result.andThen]
  · rw [decide_eq_true h1]
    simp [Instr.lookup, MapKept.run_getObj_map hm, hc, hu, hr, hz, Result.andThen]
/-- The block mp now a map of these entries. -/
def putM (w : World) (mp : Nat) (es : Array MapEntry) (clk : Nat) : World := { w with heap := w.heap.setIfInBounds mp (.map es clk) }
theorem putM_same (w : World) (mp : Nat) (es : Array MapEntry) (clk : Nat) (h : mp < w.heap.size) : (putM w mp es clk).heap[mp]? = some (.map es clk) := by
  unfold putM; simp [h]
theorem putM_other (w : World) (mp : Nat) (es : Array MapEntry) (clk : Nat) (k : Nat) (h : k ≠ mp) : (putM w mp es clk).heap[k]? = w.heap[k]? := by
  unfold putM
  show (w.heap.setIfInBounds mp _)[k]? = _
  rw [Array.getElem?_setIfInBounds, if_neg (Ne.symm h)]
theorem putM_size (w : World) (mp : Nat) (es : Array MapEntry) (clk : Nat) : (putM w mp es clk).heap.size = w.heap.size := by
  unfold putM; simp
theorem update_run (k : S104) (v : Value) (w : World) (mp : Nat) (xs : List S104) (es : Array MapEntry) (clk : Nat) (hm : w.heap[mp]? = some (.map es clk)) (h : es.toList.map (fun e => (e.key, e.val)) = pairs xs 0) (h0 : idOf k xs 0 = 0) :
    (Instr.mapUpdate 96 (.map (some mp)) (keyV k) v).run Tryd.prog w = .ok () (putM w mp (es.push ⟨keyV k, v, clk⟩) (clk + 1)) := by
  obtain ⟨r, hr, hor⟩ := find129 k w xs es.toList h
  have hu : ∀ W : World, (underlying 96).run Tryd.prog W = .ok (.map 129 3) W := run_underlying Tryd.underlying96
  have hc := check129 false k.f0 k.f1 k.f2 k.f3 w
  have hkv : keyV k = .agg #[.int .i64 k.f0, .int .i64 k.f1, .int .i64 k.f2, .string k.f3] := rfl
  rw [← hkv] at hc
  generalize keyV k = kv at hr hc ⊢
  rcases hor with ⟨h1, rfl⟩ | ⟨h1, n, rfl⟩
  · simp [Instr.mapUpdate, MapKept.run_getObj_map hm, MapKept.run_setObj_map _ hm, hc, hu, hr, Result.andThen, putM]
  · omega
end Go.Proofs.YtcaojgdnhmgmlaaDoor.T
end

/- term: what Print's closure leans on and leaves: the builder, the box that holds the closure, and all older memory as it was. · term: Print's closure at an atom and at a text. · term: Parts of a term that has some: where they lie; the words' array. · term: Print's closure at a term of parts. -/
import Derived.Test.YtcaojgdnhmgmlaaDoorTp07
import Derived.Lib.OthersKept
set_option linter.unusedVariables false
set_option linter.unusedSimpArgs false
section
namespace Go.Proofs.YtcaojgdnhmgmlaaDoor.T
open Go.RowKit Go.Proofs.YtcaojgdnhmgmlaaDoor.Q Go.Proofs.YtcaojgdnhmgmlaaDoor.PTermPlays Go.Proofs.YtcaojgdnhmgmlaaDoorW.PrintWords Go.Proofs.YtcaojgdnhmgmlaaDoorW.PrintLast Go.Proofs.YtcaojgdnhmgmlaaDoorW.PrintMore
set_option linter.unusedVariables false

/-- The closure as it lies in its box. -/
def writeV (bt b : Nat) : Value := .func (.func 109) #[] #[.pointer (some ⟨bt, 0, none⟩), .pointer (some ⟨b, 0, none⟩), .pointer (some ⟨b + 1, 0, none⟩)]
structure PInv (w0 w : World) (bt : Nat) (bs : List UInt8) : Prop where
  bel : Below w0.heap.size w0 w
  box : w.heap[w0.heap.size + 1]? = some (.cells #[writeV bt w0.heap.size] 110 (0, 0))
  bu : Lib.IsBuilderF 85 5 w0.heap.size w0.heap.size (Lib.byteCells bs) w
theorem builderAt_below {T e : TypeId} {B b : Nat} {p : Value} {bs : List Value} {w w' : World} (h : Lib.BuilderAtF T e B b p bs w) (hb : Below w.heap.size w w') : Lib.BuilderAtF T e B b p bs w' := by
  obtain ⟨hB, v, hc, ho, hne⟩ := h
  exact ⟨hB, v, (hb.block b (Array.getElem?_eq_some_iff.1 hc).1).trans hc, ho.kept (row := none) ⟨hb.os, hb.tape, hb.output, hb.size, fun k hk _ => hb.block k hk⟩ (by cases v.ownBlock <;> simp), hne⟩
theorem builder_below {T e : TypeId} {B b : Nat} {bs : List Value} {w w' : World} (h : Lib.IsBuilderF T e B b bs w) (hb : Below w.heap.size w w') : Lib.IsBuilderF T e B b bs w' :=
  h.elim (fun x => .inl (builderAt_below x hb)) (fun x => .inr (builderAt_below x hb))
theorem others_below {e : TypeId} {b : Option Nat} {w w' : World} (h : Below w.heap.size w w') : Lib.OthersKept e b w w' := fun k o hk _ _ => (h.block k (Array.getElem?_eq_some_iff.1 hk).1).trans hk
theorem PInv.below {w0 w w' : World} {bt : Nat} {bs : List UInt8} (h : PInv w0 w bt bs) (hb : Below w.heap.size w w') : PInv w0 w' bt bs :=
  ⟨h.bel.trans (hb.mono h.bel.size), (hb.block _ (Array.getElem?_eq_some_iff.1 h.box).1).trans h.box, builder_below h.bu hb⟩
theorem PInv.wrote {w0 w w' : World} {bt : Nat} {bs : List UInt8} {s : ByteArray} (h : PInv w0 w bt bs) (hb : Lib.BuilderAtF 85 5 w0.heap.size w0.heap.size (.pointer (some ⟨w0.heap.size, 0, none⟩)) (Lib.byteCells bs ++ Lib.strCells s) w')
    (hl : Below w0.heap.size w w') (ho : Lib.OthersKept 5 (some w0.heap.size) w w') : PInv w0 w' bt (bs ++ s.data.toList) :=
  ⟨h.bel.trans hl, ho _ _ h.box (by simp) (fun c fz e => by cases e), .inr (by rw [Lib.byteCells_append]; exact hb)⟩
/-- What a call of Builder.WriteString does there. -/
theorem write_string {w0 w : World} {bt : Nat} {bs : List UInt8} (h : PInv w0 w bt bs) (s : ByteArray) (hl : bs.length + s.size ≤ 1000000) :
    Calls Tryd.prog 97 #[.pointer (some ⟨w0.heap.size, 0, none⟩), .string s] w fun e w' => e = .returned (.tuple #[.int .i64 s.size, .nilIface]) ∧ PInv w0 w' bt (bs ++ s.data.toList) ∧ Lib.OthersKept 5 (some w0.heap.size) w w' :=
  (Tryd.Builder_WriteString_k w0.heap.size w0.heap.size (Lib.byteCells bs) s w h.bu (by rw [Lib.byteCells_length]; omega) h.bel.size).mono fun e w' ⟨h1, h2, h3, h4⟩ => ⟨h1, h.wrote h2 h3 h4, h4⟩
/-- Where the table lies, at Print's start. -/
structure PTab (w0 : World) (bt tb : Nat) (At : Option Addr) (ct : Nat) (xs : List S104) : Prop where
  bt : w0.cell? ⟨bt, 0, none⟩ = some (.pointer (some ⟨tb, 0, none⟩))
  tab : w0.cell? ⟨tb, 0, none⟩ = some (.slice At xs.length ct)
  rows : nodeK.C w0 At xs.length xs
  laid : LaidN w0
  len : xs.length < 100000
  fine : Fine xs
theorem PTab.below {w0 w : World} {bt tb : Nat} {At : Option Addr} {ct : Nat} {xs : List S104} (h : PTab w0 bt tb At ct xs) (hb : Below w0.heap.size w0 w) : PTab w bt tb At ct xs :=
  ⟨below_cell hb h.bt, below_cell hb h.tab, Kd.C_below h.rows hb, h.laid.below hb, h.len, h.fine⟩
end Go.Proofs.YtcaojgdnhmgmlaaDoor.T
end
section
namespace Go.Proofs.YtcaojgdnhmgmlaaDoor.T
open Go.RowKit Go.Proofs.YtcaojgdnhmgmlaaDoor.Q Go.Proofs.YtcaojgdnhmgmlaaDoor.PTermPlays Go.Proofs.YtcaojgdnhmgmlaaDoorW.PrintWords Go.Proofs.YtcaojgdnhmgmlaaDoorW.PrintLast Go.Proofs.YtcaojgdnhmgmlaaDoorW.PrintMore
set_option linter.unusedVariables false
attribute [local go_sem] as123_123 as123_125 as123_134 as123_136 as123_131 as125_123 as125_125 as125_134 as125_136 as125_131 as134_123 as134_125 as134_134 as134_136 as134_131 as136_123 as136_125 as136_134 as136_136 as136_131 as131_123 as131_125 as131_134 as131_136 as131_131 at125 at134

theorem alloc_below (w : World) (o : Obj) : Below w.heap.size w (w.alloc o) := (Below.refl w.heap.size w).alloc (Nat.le_refl _) o
set_option maxRecDepth 100000 in
set_option maxHeartbeats 2000000 in
theorem write1_calls (w0 w : World) (bt tb : Nat) (At : Option Addr) (ct : Nat) (xs : List S104) (hT : PTab w0 bt tb At ct xs) (bs : List UInt8) (hP : PInv w0 w bt bs) (id : Int) (h1 : 1 ≤ id) (h2 : id ≤ xs.length)
    (hk : (rdOf z104 xs (id - 1)).f0 = 1) (hl : bs.length + (97 :: Lib.itoa (rdOf z104 xs (id - 1)).f4).length ≤ 1000000) :
    Calls Tryd.prog 109 #[.int .i64 id, .pointer (some ⟨bt, 0, none⟩), .pointer (some ⟨w0.heap.size, 0, none⟩), .pointer (some ⟨w0.heap.size + 1, 0, none⟩)] w fun e w' => e = .returned (.tuple #[]) ∧ PInv w0 w' bt (bs ++ (97 :: Lib.itoa (rdOf z104 xs (id - 1)).f4)) ∧ Lib.OthersKept 5 (some w0.heap.size) w w' := by
  have hTw := hT.below hP.bel
  obtain ⟨ji, hji⟩ : ∃ ji, id - 1 = ji := ⟨_, rfl⟩
  have hn := hT.len
  have hw : IntKind.i64.wrap (id - 1) = ji := by rw [← hji]; exact wr64' _ (by omega) (by omega)
  have hw2 : wrap64 (id - 1) = ji := by unfold wrap64; omega
  have p0 : (0 : Int) ≤ ji := by omega
  have p1 : ji < (xs.length : Int) := by omega
  have q0 : decide (0 ≤ ji) = true := decide_eq_true p0
  have q1 : decide (ji < (xs.length : Int)) = true := decide_eq_true p1
  obtain ⟨ad, ea, hx⟩ := at_node hTw.rows ji p0 p1
  cases ea
  obtain ⟨hfi, hid⟩ := rd_fine hT.fine h1 h2
  rw [hji] at hk hl hfi ⊢
  have hat := hfi.atom hk
  rw [node1 hk] at hx
  generalize rdOf z104 xs ji = x at hk hl hat hx ⊢
  generalize x.f4 = n at hl hat hx ⊢
  have hbt := hTw.bt
  have htb := hTw.tab
  have hbox := alloc_below w (.cells #[.int .i64 n] 123)
  have HN : Aside0 (Calls Tryd.prog 39 #[.int .i64 n] (w.alloc (.cells #[.int .i64 n] 123)) fun e w' => e = .returned (.string ⟨(Lib.itoa n).toArray⟩) ∧ Below w.heap.size w w') :=
    ⟨(num_Print.calls n ⟨(Lib.itoa n).toArray⟩ _ (hTw.laid.below hbox) (by unfold num_Print.f; rw [if_pos (by omega), if_neg (by omega)])).mono fun e w' ⟨h1, h2⟩ => ⟨h1, below_step hbox h2⟩⟩
  have hil : (Lib.itoa n).length ≤ 21 := Lib.itoa_length_le n (by omega) (by omega)
  have hadd : ∀ W, (Op.stringOp .add ⟨#[97]⟩ ⟨(Lib.itoa n).toArray⟩).run Tryd.prog W = .ok (.string ⟨(97 :: Lib.itoa n).toArray⟩) W := fun W => run_string_add_lists W [97] (Lib.itoa n) (by simp) (by omega)
  have HW : Aside0 (∀ w1, Below w.heap.size w w1 → Calls Tryd.prog 97 #[.pointer (some ⟨w0.heap.size, 0, none⟩), .string ⟨(97 :: Lib.itoa n).toArray⟩] w1 fun e w' => e = .returned (.tuple #[.int .i64 (⟨(97 :: Lib.itoa n).toArray⟩ : ByteArray).size, .nilIface]) ∧ PInv w0 w' bt (bs ++ (97 :: Lib.itoa n)) ∧ Lib.OthersKept 5 (some w0.heap.size) w w') :=
    ⟨fun w1 hb => (write_string (hP.below hb) ⟨(97 :: Lib.itoa n).toArray⟩ (by rw [ByteArray.size, List.size_toArray]; exact hl)).mono fun e w' ⟨h1, h2, h3⟩ => ⟨h1, by simpa using h2, (others_below hb).trans h3⟩⟩
  have HB := Aside0.mk hbt
  have HT := Aside0.mk htb
  have HX := Aside0.mk hx
  clear hT hTw hP hl hk hat hfi hid hn h1 h2 hji hbox hil hbt htb hx
  have hbt := HB.out
  have htb := HT.out
  have hx := HX.out
  go_enter Tryd.func109, Tryd.ntmps109
  go_wp2_with fail
  refine HN.out.mono ?_
  rintro e w1 ⟨rfl, hb⟩
  have HB1 := Aside0.mk hb
  clear hb
  go_wp2_with fail
  refine (HW.out _ HB1.out).mono ?_
  rintro e w2 ⟨rfl, h⟩
  have HH := Aside0.mk h
  clear h
  go_wp2_with fail
  refine bodyPost_ret (results_none rfl _ _ _) rfl ?_
  exact ⟨rfl, HH.out⟩
theorem mk_list (s : ByteArray) : (⟨s.data.toList.toArray⟩ : ByteArray) = s := rfl
set_option maxRecDepth 100000 in
set_option maxHeartbeats 2000000 in
theorem write2_calls (w0 w : World) (bt tb : Nat) (At : Option Addr) (ct : Nat) (xs : List S104) (hT : PTab w0 bt tb At ct xs) (bs : List UInt8) (hP : PInv w0 w bt bs) (id : Int) (h1 : 1 ≤ id) (h2 : id ≤ xs.length)
    (hk : (rdOf z104 xs (id - 1)).f0 = 2) (hl : bs.length + (39 :: ((rdOf z104 xs (id - 1)).f3.data.toList ++ [39])).length ≤ 1000000) :
    Calls Tryd.prog 109 #[.int .i64 id, .pointer (some ⟨bt, 0, none⟩), .pointer (some ⟨w0.heap.size, 0, none⟩), .pointer (some ⟨w0.heap.size + 1, 0, none⟩)] w fun e w' => e = .returned (.tuple #[]) ∧ PInv w0 w' bt (bs ++ (39 :: ((rdOf z104 xs (id - 1)).f3.data.toList ++ [39]))) ∧ Lib.OthersKept 5 (some w0.heap.size) w w' := by
  have hTw := hT.below hP.bel
  obtain ⟨ji, hji⟩ : ∃ ji, id - 1 = ji := ⟨_, rfl⟩
  have hn := hT.len
  have hw : IntKind.i64.wrap (id - 1) = ji := by rw [← hji]; exact wr64' _ (by omega) (by omega)
  have hw2 : wrap64 (id - 1) = ji := by unfold wrap64; omega
  have p0 : (0 : Int) ≤ ji := by omega
  have p1 : ji < (xs.length : Int) := by omega
  have q0 : decide (0 ≤ ji) = true := decide_eq_true p0
  have q1 : decide (ji < (xs.length : Int)) = true := decide_eq_true p1
  obtain ⟨ad, ea, hx⟩ := at_node hTw.rows ji p0 p1
  cases ea
  obtain ⟨hfi, hid⟩ := rd_fine hT.fine h1 h2
  rw [hji] at hk hl hfi ⊢
  have hsh := hfi.short
  rw [node2 hk] at hx
  generalize rdOf z104 xs ji = x at hk hl hsh hx ⊢
  generalize x.f3 = s at hl hsh hx ⊢
  have hbt := hTw.bt
  have htb := hTw.tab
  have hbox := alloc_below w (.cells #[.string s] 125)
  have hsz : s.data.toList.length ≤ 40 := by rw [Array.length_toList]; exact hsh
  have hadd1 : ∀ W, (Op.stringOp .add ⟨#[39]⟩ s).run Tryd.prog W = .ok (.string ⟨(39 :: s.data.toList).toArray⟩) W := fun W => run_string_add_lists W [39] s.data.toList (by simp) (by omega)
  have hadd2 : ∀ W, (Op.stringOp .add ⟨(39 :: s.data.toList).toArray⟩ ⟨#[39]⟩).run Tryd.prog W = .ok (.string ⟨(39 :: (s.data.toList ++ [39])).toArray⟩) W := fun W => run_string_add_lists W (39 :: s.data.toList) [39] (by rw [List.length_cons]; omega) (by simp)
  obtain ⟨l, hl1⟩ : ∃ l, 39 :: s.data.toList = l := ⟨_, rfl⟩
  obtain ⟨m, hm1⟩ : ∃ m, 39 :: (s.data.toList ++ [39]) = m := ⟨_, rfl⟩
  rw [hl1] at hadd1 hadd2
  rw [hm1] at hadd2 hl ⊢
  have HW : Aside0 (∀ w1, Below w.heap.size w w1 → Calls Tryd.prog 97 #[.pointer (some ⟨w0.heap.size, 0, none⟩), .string ⟨m.toArray⟩] w1 fun e w' => e = .returned (.tuple #[.int .i64 (⟨m.toArray⟩ : ByteArray).size, .nilIface]) ∧ PInv w0 w' bt (bs ++ m) ∧ Lib.OthersKept 5 (some w0.heap.size) w w') :=
    ⟨fun w1 hb => (write_string (hP.below hb) ⟨m.toArray⟩ (by rw [ByteArray.size, List.size_toArray]; exact hl)).mono fun e w' ⟨h1, h2, h3⟩ => ⟨h1, by simpa using h2, (others_below hb).trans h3⟩⟩
  have HB := Aside0.mk hbt
  have HT := Aside0.mk htb
  have HX := Aside0.mk hx
  have HO := Aside0.mk hbox
  clear hT hTw hP hl hk hsh hfi hid hn h1 h2 hji hbox hbt htb hx hl1 hm1 hsz
  have hbt := HB.out
  have htb := HT.out
  have hx := HX.out
  go_enter Tryd.func109, Tryd.ntmps109
  go_wp2_with fail
  refine (HW.out _ HO.out).mono ?_
  rintro e w2 ⟨rfl, h⟩
  have HH := Aside0.mk h
  clear h
  go_wp2_with fail
  refine bodyPost_ret (results_none rfl _ _ _) rfl ?_
  exact ⟨rfl, HH.out⟩
end Go.Proofs.YtcaojgdnhmgmlaaDoor.T
end
section
namespace Go.Proofs.YtcaojgdnhmgmlaaDoor.T
open Go.RowKit Go.Proofs.YtcaojgdnhmgmlaaDoor.Q Go.Proofs.YtcaojgdnhmgmlaaDoor.PTermPlays Go.Proofs.YtcaojgdnhmgmlaaDoorW.PrintWords Go.Proofs.YtcaojgdnhmgmlaaDoorW.PrintLast Go.Proofs.YtcaojgdnhmgmlaaDoorW.PrintMore
set_option linter.unusedVariables false
attribute [local go_sem] as123_123 as123_125 as123_134 as123_136 as123_131 as125_123 as125_125 as125_134 as125_136 as125_131 as134_123 as134_125 as134_134 as134_136 as134_131 as136_123 as136_125 as136_134 as136_136 as136_131 as131_123 as131_125 as131_134 as131_136 as131_131 at125 at134

theorem alloc2 (w : World) (o p : Obj) : ((w.alloc o).alloc p).heap[w.heap.size + 1]? = some p := by
  have h := heap_alloc_new (w.alloc o) p
  rw [World.size_alloc] at h
  exact h
set_option maxRecDepth 100000 in
set_option maxHeartbeats 2000000 in
theorem parts3_calls (w : World) (id : Int) (tb : Nat) (At : Option Addr) (n ct : Nat) (xs : List S104) (hn : n < 1000000) (hxs : xs.length = n) (hk : ∀ x ∈ xs, 1 ≤ x.f0 ∧ x.f0 ≤ 5) (ht : w.cell? ⟨tb, 0, none⟩ = some (.slice At n ct)) (hr : nodeK.C w At xs.length xs)
    (hq : thereB n id = true) (h3 : 3 ≤ (rdOf z104 xs (id - 1)).f0) :
    Calls Tryd.prog 87 #[.pointer (some ⟨tb, 0, none⟩), .int .i64 id] w fun e w' => ∃ g, e = .returned (.slice (some ⟨g, 0, none⟩) (partsOf (rdOf z104 xs (id - 1))).length (partsOf (rdOf z104 xs (id - 1))).length) ∧
      w'.heap[g]? = some (.cells ((partsOf (rdOf z104 xs (id - 1))).map (Value.int .i64)).toArray 3 (0, 0)) ∧ w.heap.size ≤ g ∧ Below w.heap.size w w' := by
  have HT := Aside0.mk (there_one w id tb At n ct ht)
  rw [hq] at HT
  obtain ⟨h1, h2⟩ := thereB_no hq
  obtain ⟨ji, hji⟩ : ∃ ji, id - 1 = ji := ⟨_, rfl⟩
  have hw : IntKind.i64.wrap (id - 1) = ji := by rw [← hji]; exact wr64' _ (by omega) (by omega)
  have hw2 : wrap64 (id - 1) = ji := by unfold wrap64; omega
  have p0 : (0 : Int) ≤ ji := by omega
  have p1 : ji < (n : Int) := by omega
  have q0 : decide (0 ≤ ji) = true := decide_eq_true p0
  have q1 : decide (ji < (n : Int)) = true := decide_eq_true p1
  obtain ⟨ad, ea, hx⟩ := at_node hr ji p0 (by omega)
  cases ea
  rw [hji] at h3 ⊢
  have hmem : rdOf z104 xs ji ∈ xs := by
    unfold rdOf
    rw [List.getD_eq_getElem?_getD, List.getElem?_eq_getElem (show ji.toNat < xs.length by omega)]
    exact List.getElem_mem _
  have hkk := kinds (hk _ hmem)
  generalize rdOf z104 xs ji = x at hx hkk h3 ⊢
  have HS := Aside0.mk ht
  replace hkk : x.f0 = 3 ∨ x.f0 = 4 ∨ x.f0 = 5 := by omega
  clear ht hr hq hji h1 h2 hxs hn hk hmem h3
  rcases hkk with h | h | h
  all_goals
    have hp : partsOf x = if x.f0 < 3 then [] else if x.f0 = 3 then [x.f1] else [x.f1, x.f2] := rfl
    rw [h] at hp
    simp at hp
    rw [hp]
    first | rw [node3 h] at hx | rw [node4 h] at hx | rw [node5 h] at hx
    have HX := Aside0.mk hx
    clear hx h hp
    go_enter Tryd.func87, Tryd.ntmps87
    go_wp2_with fail
    refine HT.out.mono ?_
    rintro e w1 ⟨rfl, hb⟩
    have hs := below_cell hb HS.out
    have hx := below_cell hb HX.out
    have HB := Aside0.mk hb
    clear hb
    go_wp2_with fail
    go_ret
    exact ⟨_, rfl, alloc2 _ _ _, by have := HB.out.size; omega, ba (ba HB.out _) _⟩
/-- The words of the kinds, as the closure's array has them. -/
def wordsV : Value := .agg #[.string ⟨#[]⟩, .string ⟨#[]⟩, .string ⟨#[]⟩, .string ⟨#[107, 100, 102]⟩, .string ⟨#[109, 105, 120]⟩, .string ⟨#[101, 110, 99]⟩]
theorem words_at (q : Int) (h : q = 3 ∨ q = 4 ∨ q = 5) (w : World) : (Instr.index 126 wordsV (.int .i64 q)).run Tryd.prog w = .ok (.string ⟨(wordOf q).toArray⟩) w := by
  rcases h with rfl | rfl | rfl <;> kernel_rfl
end Go.Proofs.YtcaojgdnhmgmlaaDoor.T
end
section
namespace Go.Proofs.YtcaojgdnhmgmlaaDoor.T
open Go.RowKit Go.Proofs.YtcaojgdnhmgmlaaDoor.Q Go.Proofs.YtcaojgdnhmgmlaaDoor.PTermPlays Go.Proofs.YtcaojgdnhmgmlaaDoorW.PrintWords Go.Proofs.YtcaojgdnhmgmlaaDoorW.PrintLast Go.Proofs.YtcaojgdnhmgmlaaDoorW.PrintMore
set_option linter.unusedVariables false

/-- What has been written of the parts, the first j of them done. -/
def accT (xs : List S104) (k : Nat) (l : List Int) : Nat → List UInt8
  | 0 => []
  | j + 1 => accT xs k l j ++ ((if j = 0 then [] else [44]) ++ textF xs k (rdOf 0 l (j : Int)))
theorem accT_le (xs : List S104) (k : Nat) (l : List Int) (j : Nat) : ∀ d, (accT xs k l j).length ≤ (accT xs k l (j + d)).length
  | 0 => Nat.le_refl _
  | d + 1 => by
    have := accT_le xs k l j d
    rw [← Nat.add_assoc, accT, List.length_append]
    omega
def tailT (x : S104) : List UInt8 := if x.f0 = 3 then 44 :: x.f3.data.toList else []
theorem textF_parts (xs : List S104) (k : Nat) (id : Int) (h : 3 ≤ (rdOf z104 xs (id - 1)).f0) :
    textF xs (k + 1) id = (wordOf (rdOf z104 xs (id - 1)).f0 ++ [40]) ++ accT xs k (partsOf (rdOf z104 xs (id - 1))) (partsOf (rdOf z104 xs (id - 1))).length ++ tailT (rdOf z104 xs (id - 1)) ++ [41] := by
  unfold textF tailT partsOf
  generalize rdOf z104 xs (id - 1) = x at h ⊢
  rw [if_neg (by omega), if_neg (by omega), if_neg (show ¬ x.f0 < 3 by omega)]
  by_cases h3 : x.f0 = 3
  · rw [if_pos h3, if_pos h3, if_pos h3, h3]
    simp [accT, rdOf]
  · rw [if_neg h3, if_neg h3, if_neg h3]
    simp [accT, rdOf]
theorem PInv.cellBox {w0 w : World} {bt : Nat} {bs : List UInt8} (h : PInv w0 w bt bs) : w.cell? ⟨w0.heap.size + 1, 0, none⟩ = some (.func (.func 109) #[] #[.pointer (some ⟨bt, 0, none⟩), .pointer (some ⟨w0.heap.size, 0, none⟩), .pointer (some ⟨w0.heap.size + 1, 0, none⟩)]) := by
  unfold World.cell?; rw [h.box]; rfl
/-- Where the parts lie. -/
def PartsAt (w : World) (ad : Addr) (l : List Int) : Prop := ad.off = 0 ∧ ad.spot = none ∧ w.heap[ad.block]? = some (.cells (l.map (Value.int .i64)).toArray 3 (0, 0))
theorem PartsAt.cell {w : World} {ad : Addr} {l : List Int} (h : PartsAt w ad l) (j : Nat) (hj : j < l.length) : w.cell? (ad.add j) = some (.int .i64 (rdOf 0 l (j : Int))) := by
  obtain ⟨h1, h2, h3⟩ := h
  obtain ⟨g, o, b⟩ := ad
  cases h1; cases h2
  replace h3 : w.heap[g]? = some (.cells (l.map (Value.int .i64)).toArray 3 (0, 0)) := h3
  by_cases h0 : j = 0
  · subst h0
    simp [World.cell?, Addr.add, h3, rdOf, hj]
  · simp [World.cell?, Addr.add, h3, h0, rdOf, hj]
theorem PartsAt.kept {w w' : World} {ad : Addr} {l : List Int} {b : Nat} (h : PartsAt w ad l) (ho : Lib.OthersKept 5 (some b) w w') (hb : ad.block ≠ b) : PartsAt w' ad l :=
  ⟨h.1, h.2.1, ho _ _ h.2.2 (by simpa using hb) (fun c fz e => by cases e)⟩
/-- What the closure does at ids up to k. -/
def WriteC (w0 : World) (bt : Nat) (xs : List S104) (k : Nat) : Prop :=
  ∀ (id : Int) (w : World) (bs : List UInt8), 1 ≤ id → id ≤ xs.length → id ≤ k → rdOf 0 (szs xs) (id - 1) ≤ 1000 → bs.length + (textF xs k id).length ≤ 1000000 → PInv w0 w bt bs →
    Calls Tryd.prog 109 #[.int .i64 id, .pointer (some ⟨bt, 0, none⟩), .pointer (some ⟨w0.heap.size, 0, none⟩), .pointer (some ⟨w0.heap.size + 1, 0, none⟩)] w fun e w' => e = .returned (.tuple #[]) ∧ PInv w0 w' bt (bs ++ textF xs k id) ∧ Lib.OthersKept 5 (some w0.heap.size) w w'
theorem parts_ok {xs : List S104} (hf : Fine xs) {id : Int} (h1 : 1 ≤ id) (h2 : id ≤ xs.length) (hs : rdOf 0 (szs xs) (id - 1) ≤ 1000) (h3 : 3 ≤ (rdOf z104 xs (id - 1)).f0) :
    ∀ j : Nat, j < (partsOf (rdOf z104 xs (id - 1))).length → 1 ≤ rdOf 0 (partsOf (rdOf z104 xs (id - 1))) j ∧ rdOf 0 (partsOf (rdOf z104 xs (id - 1))) j < id ∧ rdOf 0 (szs xs) (rdOf 0 (partsOf (rdOf z104 xs (id - 1))) j - 1) ≤ 1000 := by
  obtain ⟨hx, hid⟩ := rd_fine hf h1 h2
  have hp := size_parts hf h1 h2 hs
  generalize rdOf z104 xs (id - 1) = x at hx hp h3 ⊢
  have ho := hx.one h3
  intro j hj
  unfold partsOf at hj ⊢
  rw [if_neg (show ¬ x.f0 < 3 by omega)] at hj ⊢
  by_cases c3 : x.f0 = 3
  · rw [if_pos c3] at hj ⊢
    obtain rfl : j = 0 := by simp at hj; omega
    exact ⟨ho.1, show x.f1 < id by omega, hp.1 h3⟩
  · rw [if_neg c3] at hj ⊢
    have ht := hx.two (by omega)
    rcases j with _ | _ | j
    · exact ⟨ho.1, show x.f1 < id by omega, hp.1 h3⟩
    · exact ⟨ht.1, show x.f2 < id by omega, hp.2 (by omega)⟩
    · simp at hj; omega
theorem node_far {x : S104} (h : 3 ≤ x.f0) (hk : x.f0 ≤ 5) : (∀ w, (Instr.typeAssert (nodeV x) 20 123 true).run Tryd.prog w = .ok (.tuple #[.agg #[.int .i64 0], .bool false]) w) ∧ (∀ w, (Instr.typeAssert (nodeV x) 20 125 true).run Tryd.prog w = .ok (.tuple #[.agg #[.string ⟨#[]⟩], .bool false]) w) := by
  rcases (show x.f0 = 3 ∨ x.f0 = 4 ∨ x.f0 = 5 by omega) with c | c | c
  · rw [node3 c]; exact ⟨fun w => as134_123 _ _ w, fun w => as134_125 _ _ w⟩
  · rw [node4 c]; exact ⟨fun w => as136_123 _ _ w, fun w => as136_125 _ _ w⟩
  · rw [node5 c]; exact ⟨fun w => as131_123 _ _ w, fun w => as131_125 _ _ w⟩
set_option maxRecDepth 100000 in
set_option maxHeartbeats 4000000 in
theorem write3_calls (w0 w : World) (bt tb : Nat) (At : Option Addr) (ct : Nat) (xs : List S104) (hT : PTab w0 bt tb At ct xs) (bs : List UInt8) (hP : PInv w0 w bt bs) (k : Nat) (hC : WriteC w0 bt xs k) (id : Int) (h1 : 1 ≤ id) (h2 : id ≤ xs.length) (hik : id ≤ k + 1)
    (hs : rdOf 0 (szs xs) (id - 1) ≤ 1000) (h3 : 3 ≤ (rdOf z104 xs (id - 1)).f0) (hl : bs.length + (textF xs (k + 1) id).length ≤ 1000000) :
    Calls Tryd.prog 109 #[.int .i64 id, .pointer (some ⟨bt, 0, none⟩), .pointer (some ⟨w0.heap.size, 0, none⟩), .pointer (some ⟨w0.heap.size + 1, 0, none⟩)] w fun e w' => e = .returned (.tuple #[]) ∧ PInv w0 w' bt (bs ++ textF xs (k + 1) id) ∧ Lib.OthersKept 5 (some w0.heap.size) w w' := by
  have hTw := hT.below hP.bel
  have hn := hT.len
  have hth : thereB xs.length id = true := by unfold thereB; simp; omega
  have hkinds : ∀ x ∈ xs, 1 ≤ x.f0 ∧ x.f0 ≤ 5 := hT.fine.good.kind
  have HKind : Aside0 (∀ w1, Below w0.heap.size w0 w1 → Calls Tryd.prog 84 #[.pointer (some ⟨tb, 0, none⟩), .int .i64 id] w1 fun e w' => e = .returned (.int .i64 (rdOf z104 xs (id - 1)).f0) ∧ Below w1.heap.size w1 w') :=
    ⟨fun w1 hb => by
      have h := kind_calls w1 id tb At xs.length ct xs (by omega) rfl hkinds (hT.below hb).tab (hT.below hb).rows
      rw [hth, if_pos rfl] at h
      exact h⟩
  have HParts : Aside0 (∀ w1, Below w0.heap.size w0 w1 → Calls Tryd.prog 87 #[.pointer (some ⟨tb, 0, none⟩), .int .i64 id] w1 fun e w' => ∃ ad : Addr, e = .returned (.slice (some ad) (partsOf (rdOf z104 xs (id - 1))).length (partsOf (rdOf z104 xs (id - 1))).length) ∧ PartsAt w' ad (partsOf (rdOf z104 xs (id - 1))) ∧ w1.heap.size ≤ ad.block ∧ Below w1.heap.size w1 w') :=
    ⟨fun w1 hb => (parts3_calls w1 id tb At xs.length ct xs (by omega) rfl hkinds (hT.below hb).tab (hT.below hb).rows hth h3).mono fun e w' ⟨g, h1, h2, h3, h4⟩ => ⟨⟨g, 0, none⟩, h1, ⟨rfl, rfl, h2⟩, h3, h4⟩⟩
  have HLabel : Aside0 (∀ w1, Below w0.heap.size w0 w1 → (rdOf z104 xs (id - 1)).f0 = 3 → Calls Tryd.prog 89 #[.pointer (some ⟨tb, 0, none⟩), .int .i64 id] w1 fun e w' => e = .returned (.string (rdOf z104 xs (id - 1)).f3) ∧ Below w1.heap.size w1 w') :=
    ⟨fun w1 hb hq => by
      have h := label_calls w1 id tb At xs.length ct xs (by omega) rfl hkinds (hT.below hb).tab (hT.below hb).rows
      rw [hth, if_pos rfl, labelOf, if_pos (.inr hq)] at h
      exact h⟩
  have HOk := Aside0.mk (parts_ok hT.fine h1 h2 hs h3)
  obtain ⟨ji, hji⟩ : ∃ ji, id - 1 = ji := ⟨_, rfl⟩
  have hw : IntKind.i64.wrap (id - 1) = ji := by rw [← hji]; exact wr64' _ (by omega) (by omega)
  have hw2 : wrap64 (id - 1) = ji := by unfold wrap64; omega
  have p0 : (0 : Int) ≤ ji := by omega
  have p1 : ji < (xs.length : Int) := by omega
  have q0 : decide (0 ≤ ji) = true := decide_eq_true p0
  have q1 : decide (ji < (xs.length : Int)) = true := decide_eq_true p1
  obtain ⟨ad, ea, hnx⟩ := at_node hTw.rows ji p0 p1
  cases ea
  have htb := hTw.tab
  rw [← hji] at hnx
  have hx := (rd_fine hT.fine h1 h2).1
  have hsh := hx.short
  have hkk := hx.kind
  have hpl : (partsOf (rdOf z104 xs (id - 1))).length ≤ 2 := by unfold partsOf; split; simp; split <;> simp
  have htx := textF_parts xs k id h3
  rw [htx] at hl ⊢
  generalize rdOf z104 xs (id - 1) = x at HKind HParts HLabel HOk hsh hkk h3 hl hpl hnx ⊢
  obtain ⟨has1, has2⟩ := node_far h3 hkk.2
  generalize nodeV x = nv at hnx has1 has2
  rw [hji] at hnx
  generalize hpp : partsOf x = l at HParts HOk hl hpl ⊢
  have HCal : Aside0 (∀ (j : Nat) (w1 : World) (bs1 : List UInt8), j < l.length → bs1.length + (textF xs k (rdOf 0 l (j : Int))).length ≤ 1000000 → PInv w0 w1 bt bs1 →
      Calls Tryd.prog 109 #[.int .i64 (rdOf 0 l (j : Int)), .pointer (some ⟨bt, 0, none⟩), .pointer (some ⟨w0.heap.size, 0, none⟩), .pointer (some ⟨w0.heap.size + 1, 0, none⟩)] w1 fun e w' => e = .returned (.tuple #[]) ∧ PInv w0 w' bt (bs1 ++ textF xs k (rdOf 0 l (j : Int))) ∧ Lib.OthersKept 5 (some w0.heap.size) w1 w') :=
    ⟨fun j w1 bs1 hj hlen hp => hC (rdOf 0 l (j : Int)) w1 bs1 (HOk.out j hj).1 (by have := (HOk.out j hj).2.1; omega) (by have := (HOk.out j hj).2.1; omega) (HOk.out j hj).2.2 hlen hp⟩
  have HTab := Aside0.mk hT
  have HLen := Aside0.mk hl
  have HPI := Aside0.mk hP
  have HSh := Aside0.mk hsh
  have hwl : (wordOf x.f0).length = 3 := wordOf_len _
  have hidx : ∀ w, (Instr.index 126 (.agg #[.string ⟨#[]⟩, .string ⟨#[]⟩, .string ⟨#[]⟩, .string ⟨#[107, 100, 102]⟩, .string ⟨#[109, 105, 120]⟩, .string ⟨#[101, 110, 99]⟩]) (.int .i64 x.f0)).run Tryd.prog w = .ok (.string ⟨(wordOf x.f0).toArray⟩) w := fun w => words_at x.f0 (by omega) w
  have hadd1 : ∀ W, (Op.stringOp .add ⟨(wordOf x.f0).toArray⟩ ⟨#[40]⟩).run Tryd.prog W = .ok (.string ⟨(wordOf x.f0 ++ [40]).toArray⟩) W := fun W => run_string_add_lists W (wordOf x.f0) [40] (by omega) (by simp)
  have hadd2 : ∀ W, (Op.stringOp .add ⟨#[44]⟩ x.f3).run Tryd.prog W = .ok (.string ⟨(44 :: x.f3.data.toList).toArray⟩) W := fun W => run_string_add_lists W [44] x.f3.data.toList (by simp) (by rw [Array.length_toList]; exact Int.le_trans (Int.ofNat_le.2 (show x.f3.data.size ≤ 40 from hsh)) (by decide))
  generalize hwd : wordOf x.f0 ++ [40] = wd at hadd1 hl HLen ⊢
  have HW : Aside0 (∀ (w1 : World) (bs1 s : List UInt8), PInv w0 w1 bt bs1 → bs1.length + s.length ≤ 1000000 → Calls Tryd.prog 97 #[.pointer (some ⟨w0.heap.size, 0, none⟩), .string ⟨s.toArray⟩] w1 fun e w' => (∃ z, e = .returned (.tuple #[z, .nilIface])) ∧ PInv w0 w' bt (bs1 ++ s) ∧ Lib.OthersKept 5 (some w0.heap.size) w1 w') :=
    ⟨fun w1 bs1 s hp hlen => (write_string hp ⟨s.toArray⟩ (by rw [ByteArray.size, List.size_toArray]; exact hlen)).mono fun e w' ⟨h1, h2, h3⟩ => ⟨⟨_, h1⟩, by simpa using h2, h3⟩⟩
  have hbt := hTw.bt
  clear hT hTw hP hl hn hth hkinds hs hik h1 h2 hx hsh htx hC hwl hji hwd hkk h3 hpp
  go_enter Tryd.func109, Tryd.ntmps109
  go_wp2_with fail
  refine (HKind.out _ HPI.out.bel).mono ?_
  rintro e w1 ⟨rfl, hb1⟩
  have HP1 := Aside0.mk (HPI.out.below hb1)
  have HO1 := Aside0.mk (others_below (e := 5) (b := some w0.heap.size) hb1)
  clear hb1
  go_wp2_with fail
  refine (HW.out w1 bs wd HP1.out (by have := HLen.out; simp only [List.length_append] at this; omega)).mono ?_
  rintro e w2 ⟨⟨z, rfl⟩, hp2, ho2⟩
  have HP2 := Aside0.mk hp2
  have HO2 := Aside0.mk (HO1.out.trans ho2)
  clear hp2 ho2 HP1 HO1
  have hbt2 := (HTab.out.below HP2.out.bel).bt
  go_wp2_with fail
  refine (HParts.out w2 HP2.out.bel).mono ?_
  rintro e w3 ⟨ad3, rfl, hpa, hge, hb3⟩
  have HA := Aside0.mk hpa
  have HG := Aside0.mk (show ad3.block ≠ w0.heap.size by have := (Array.getElem?_eq_some_iff.1 HP2.out.box).1; omega)
  have HP3 := Aside0.mk (HP2.out.below hb3)
  have HO3 := Aside0.mk (HO2.out.trans (others_below hb3))
  clear hpa hge hb3 HP2 HO2 hbt2
  have HL2 := Aside0.mk hpl
  have HAC := Aside0.mk (fun (j : Nat) (hj : j ≤ l.length) => (show (accT xs k l j).length ≤ (accT xs k l l.length).length by have := accT_le xs k l j (l.length - j); rwa [Nat.add_sub_cancel' hj] at this))
  clear hpl
  go_wp2_with fail
  go_loopw [44] (fun v wr => ∃ j : Nat, v = .int .i64 (j : Int) ∧ Aside0 (j ≤ l.length) ∧ Aside0 (PInv w0 wr bt (bs ++ wd ++ accT xs k l j)) ∧ Aside0 (PartsAt wr ad3 l) ∧ Aside0 (Lib.OthersKept 5 (some w0.heap.size) w wr)) (fun v _ => ((l.length : Int) - intOf v).toNat)
  case atStart => exact ⟨0, rfl, ⟨Nat.zero_le _⟩, ⟨by simpa [accT] using HP3.out⟩, HA, HO3⟩
  case round =>
    clear HA HP3 HO3
    obtain ⟨j, rfl, HJ, HP, HA, HO⟩ := hrel
    have hbx := HP.out.cellBox
    by_cases hlt : j < l.length
    · have e1 : decide ((j : Int) < l.length) = true := decide_eq_true (by omega)
      have p0 : (0 : Int) ≤ j := by omega
      have p1 : (j : Int) < l.length := by omega
      have hxj := HA.out.cell j hlt
      have hwj : wrap64 ((j : Int) + 1) = ((j + 1 : Nat) : Int) := by have := HL2.out; unfold wrap64; omega
      have HLT := Aside0.mk hlt
      have hac := HAC.out (j + 1) (by omega)
      rw [accT, List.length_append, List.length_append] at hac
      have hln := HLen.out
      simp only [List.length_append] at hln
      by_cases hz : j = 0
      · have e2 : decide ((j : Int) > 0) = false := decide_eq_false (by omega)
        have e3 : decide (0 < j) = false := decide_eq_false (by omega)
        have HAcc := Aside0.mk (show accT xs k l (j + 1) = accT xs k l j ++ textF xs k (rdOf 0 l (j : Int)) by rw [accT, if_pos hz, List.nil_append])
        rw [if_pos hz] at hac
        have HN := Aside0.mk (show (bs ++ wd ++ accT xs k l j).length + (textF xs k (rdOf 0 l (j : Int))).length ≤ 1000000 by simp only [List.length_append]; omega)
        clear hac hln hz hlt
        go_wp2_with fail
        refine (HCal.out j wr _ HLT.out HN.out HP.out).mono ?_
        rintro e w4 ⟨rfl, hp4, ho4⟩
        have HP4 := Aside0.mk hp4
        have HO4 := Aside0.mk (HO.out.trans ho4)
        have HA4 := Aside0.mk (HA.out.kept ho4 HG.out)
        clear hp4 ho4 hbx hxj
        go_wp2_with fail
        go_roundw
        case rel => exact ⟨j + 1, by rw [hwj], ⟨by have := HLT.out; omega⟩, ⟨by rw [HAcc.out, ← List.append_assoc]; exact HP4.out⟩, HA4, HO4⟩
        case measure => rw [hwj]; simp [intOf]; have := HLT.out; omega
      · have e2 : decide ((j : Int) > 0) = true := decide_eq_true (by omega)
        have e3 : decide (0 < j) = true := decide_eq_true (by omega)
        have HAcc := Aside0.mk (show accT xs k l (j + 1) = accT xs k l j ++ ([44] ++ textF xs k (rdOf 0 l (j : Int))) by rw [accT, if_neg hz])
        rw [if_neg hz] at hac
        have HN1 := Aside0.mk (show (bs ++ wd ++ accT xs k l j).length + ([44] : List UInt8).length ≤ 1000000 by simp only [List.length_append]; omega)
        have HN := Aside0.mk (show (bs ++ wd ++ accT xs k l j ++ [44]).length + (textF xs k (rdOf 0 l (j : Int))).length ≤ 1000000 by simp only [List.length_append]; omega)
        clear hac hln hz hlt
        go_wp2_with fail
        refine (HW.out wr _ [44] HP.out HN1.out).mono ?_
        rintro e w5 ⟨⟨z5, rfl⟩, hp5, ho5⟩
        have HP5 := Aside0.mk hp5
        have HO5 := Aside0.mk (HO.out.trans ho5)
        have HA5 := Aside0.mk (HA.out.kept ho5 HG.out)
        clear hp5 ho5 hbx hxj
        have hbx := HP5.out.cellBox
        go_wp2_with fail
        refine (HCal.out j w5 _ HLT.out HN.out HP5.out).mono ?_
        rintro e w4 ⟨rfl, hp4, ho4⟩
        have HP4 := Aside0.mk hp4
        have HO4 := Aside0.mk (HO5.out.trans ho4)
        have HA4 := Aside0.mk (HA5.out.kept ho4 HG.out)
        clear hp4 ho4 hbx
        go_wp2_with fail
        go_roundw
        case rel => exact ⟨j + 1, by rw [hwj], ⟨by have := HLT.out; omega⟩, ⟨by rw [HAcc.out]; simpa only [List.append_assoc] using HP4.out⟩, HA4, HO4⟩
        case measure => rw [hwj]; simp [intOf]; have := HLT.out; omega
    · obtain rfl : j = l.length := by have := HJ.out; omega
      have e1 : decide ((l.length : Int) < l.length) = false := decide_eq_false (by omega)
      have hbt3 := (HTab.out.below HP.out.bel).bt
      have hln := HLen.out
      simp only [List.length_append] at hln
      have HN2 := Aside0.mk (show (bs ++ wd ++ accT xs k l l.length ++ tailT x).length + ([41] : List UInt8).length ≤ 1000000 by simp only [List.length_append]; omega)
      clear hlt hbx
      by_cases c3 : x.f0 = 3
      · have e3 : (x.f0 == 3) = true := by simpa using c3
        have HTl := Aside0.mk (show 44 :: x.f3.data.toList = tailT x by rw [tailT, if_pos c3])
        rw [HTl.out] at hadd2
        have HN1 := Aside0.mk (show (bs ++ wd ++ accT xs k l l.length).length + (tailT x).length ≤ 1000000 by simp only [List.length_append]; omega)
        have HC3 := Aside0.mk c3
        clear c3 hln
        go_wp2_with fail
        refine (HKind.out wr HP.out.bel).mono ?_
        rintro e w4 ⟨rfl, hb4⟩
        have HP4 := Aside0.mk (HP.out.below hb4)
        have HO4 := Aside0.mk (HO.out.trans (others_below hb4))
        clear hb4 hbt3
        have hbt4 := (HTab.out.below HP4.out.bel).bt
        go_wp2_with fail
        refine (HLabel.out w4 HP4.out.bel HC3.out).mono ?_
        rintro e w5 ⟨rfl, hb5⟩
        have HP5 := Aside0.mk (HP4.out.below hb5)
        have HO5 := Aside0.mk (HO4.out.trans (others_below hb5))
        clear hb5 hbt4
        go_wp2_with fail
        refine (HW.out w5 _ (tailT x) HP5.out HN1.out).mono ?_
        rintro e w6 ⟨⟨z6, rfl⟩, hp6, ho6⟩
        have HP6 := Aside0.mk hp6
        have HO6 := Aside0.mk (HO5.out.trans ho6)
        clear hp6 ho6
        go_wp2_with fail
        refine (HW.out w6 _ [41] HP6.out HN2.out).mono ?_
        rintro e w7 ⟨⟨z7, rfl⟩, hp7, ho7⟩
        have HP7 := Aside0.mk hp7
        have HO7 := Aside0.mk (HO6.out.trans ho7)
        clear hp7 ho7
        go_wp2_with fail
        go_end0
        exact ⟨rfl, by simpa only [List.append_assoc] using HP7.out, HO7.out⟩
      · have e3 : (x.f0 == 3) = false := by simpa using c3
        have HTl := Aside0.mk (show tailT x = [] by rw [tailT, if_neg c3])
        rw [HTl.out, List.append_nil] at HN2
        clear c3 hln hadd2
        go_wp2_with fail
        refine (HKind.out wr HP.out.bel).mono ?_
        rintro e w4 ⟨rfl, hb4⟩
        have HP4 := Aside0.mk (HP.out.below hb4)
        have HO4 := Aside0.mk (HO.out.trans (others_below hb4))
        clear hb4 hbt3
        go_wp2_with fail
        refine (HW.out w4 _ [41] HP4.out HN2.out).mono ?_
        rintro e w7 ⟨⟨z7, rfl⟩, hp7, ho7⟩
        have HP7 := Aside0.mk hp7
        have HO7 := Aside0.mk (HO4.out.trans ho7)
        clear hp7 ho7
        go_wp2_with fail
        go_end0
        exact ⟨rfl, by rw [HTl.out, List.append_nil]; simpa only [List.append_assoc] using HP7.out, HO7.out⟩
/-- The closure, at whatever id. -/
theorem write_all (w0 : World) (bt tb : Nat) (At : Option Addr) (ct : Nat) (xs : List S104) (hT : PTab w0 bt tb At ct xs) : ∀ k, WriteC w0 bt xs k
  | 0 => fun id w bs h1 h2 hk => by omega
  | k + 1 => fun id w bs h1 h2 hk hs hl hP => by
    have ih := write_all w0 bt tb At ct xs hT k
    by_cases c3 : 3 ≤ (rdOf z104 xs (id - 1)).f0
    · exact write3_calls w0 w bt tb At ct xs hT bs hP k ih id h1 h2 (by omega) hs c3 hl
    · have hx := (rd_fine hT.fine h1 h2).1.kind
      by_cases c1 : (rdOf z104 xs (id - 1)).f0 = 1
      · have ht : textF xs (k + 1) id = 97 :: Lib.itoa (rdOf z104 xs (id - 1)).f4 := by rw [textF, if_pos c1]
        rw [ht] at hl ⊢
        exact write1_calls w0 w bt tb At ct xs hT bs hP id h1 h2 c1 hl
      · have ht : textF xs (k + 1) id = 39 :: ((rdOf z104 xs (id - 1)).f3.data.toList ++ [39]) := by rw [textF, if_neg c1, if_pos (show (rdOf z104 xs (id - 1)).f0 = 2 by omega)]
        rw [ht] at hl ⊢
        exact write2_calls w0 w bt tb At ct xs hT bs hP id h1 h2 (by omega) hl
end Go.Proofs.YtcaojgdnhmgmlaaDoor.T
end

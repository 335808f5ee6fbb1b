import Derived.Shelf.Strings.Builder1
import Derived.Shelf.Strings.Builder2
import Derived.Shelf.Strings.OnBuilder
import Derived.Shelf.Strings.Search1
import Derived.Shelf.Strings.Search2
import Derived.Shelf.Strings.Search3
import Derived.Shelf.Strings.Count
import Derived.Shelf.Strings.Prefix
import Derived.Shelf.Strings.Split
import Derived.Test.YtcaojgdnhmgmlaaDoorProg
import Derived.Test.YtcaojgdnhmgmlaaDoorNb03
import Derived.Test.YtcaojgdnhmgmlaaDoorNb02
import Derived.Lib.ValidU
import Derived.Lib.TrimUEq
import Derived.Test.YtcaojgdnhmgmlaaDoorNb01
import Derived.Lib.OthersKept
section
/-
  DERIVED: THE SHELF's CONTRACTS AT THIS DUMP, IN PLAIN WORDS (tools/lay-plain.mjs out of 'YtcaojgdnhmgmlaaDoorShName.lean', which tools/lay-shelf.mjs wrote): THE SAME DECLARATIONS UNDER THE SAME NAMES: 'import', 'namespace', 'open', 'def', 'theorem' AND NOTHING ELSE: no command of the shelf's: FOR A HAND-IN. Each laying: the table of numbers ('.._ren') and one theorem, a field a fact of the dump's own or the kernel's comparison; each contract: ONE APPLICATION.
-/
namespace Go.Proofs
open Go.Shelf
def Tryd.lays156_ren : Go.Shelf.Ren := ⟨fun | 156 => 55 | 165 => 96 | 166 => 97 | 169 => 68 | 240 => 104 | 241 => 115 | 276 => 121 | 277 => 126 | n => n, fun | 31 => 22 | 9 => 9 | 3 => 3 | 4 => 4 | 0 => 0 | 20 => 20 | 72 => 85 | 76 => 88 | 70 => 83 | 37 => 52 | 75 => 87 | 127 => 115 | 164 => 144 | 5 => 5 | 80 => 90 | n => n, fun | n => n⟩
theorem Tryd.lays156 : Go.Proofs.Lays.n156 Tryd.prog Tryd.lays156_ren := {
  mixed := by kernel_rfl
  f156 := Tryd.func55.trans (congrArg some (by kernel_rfl))
  f165 := Tryd.func96.trans (congrArg some (by kernel_rfl))
  f166 := Tryd.func97.trans (congrArg some (by kernel_rfl))
  f169 := Tryd.func68.trans (congrArg some (by kernel_rfl))
  f240 := Tryd.func104.trans (congrArg some (by kernel_rfl))
  f241 := Tryd.func115.trans (congrArg some (by kernel_rfl))
  f276 := Tryd.func121.trans (congrArg some (by kernel_rfl))
  f277 := Tryd.func126.trans (congrArg some (by kernel_rfl))
  t0 := Tryd.underlying0
  a0 := Tryd.isAgg0
  z0 := Tryd.sizeOf0
  v0 := Tryd.zeroValue0
  t3 := Tryd.underlying3
  a3 := Tryd.isAgg3
  z3 := Tryd.sizeOf3
  v3 := Tryd.zeroValue3
  t4 := Tryd.underlying4
  a4 := Tryd.isAgg4
  z4 := Tryd.sizeOf4
  v4 := Tryd.zeroValue4
  t9 := Tryd.underlying9
  a9 := Tryd.isAgg9
  z9 := Tryd.sizeOf9
  v9 := Tryd.zeroValue9
  t20 := Tryd.underlying20
  a20 := Tryd.isAgg20
  z20 := Tryd.sizeOf20
  v20 := Tryd.zeroValue20
  t31 := Tryd.underlying22
  a31 := Tryd.isAgg22
  z31 := Tryd.sizeOf22
  v31 := Tryd.zeroValue22
  t37 := Tryd.underlying52
  a37 := Tryd.isAgg52
  z37 := Tryd.sizeOf52
  v37 := Tryd.zeroValue52
  t70 := Tryd.underlying83
  a70 := Tryd.isAgg83
  z70 := Tryd.sizeOf83
  v70 := Tryd.zeroValue83
  t72 := Tryd.underlying85
  a72 := Tryd.isAgg85
  z72 := Tryd.sizeOf85
  v72 := Tryd.zeroValue85
  t75 := Tryd.underlying87
  a75 := Tryd.isAgg87
  z75 := Tryd.sizeOf87
  v75 := Tryd.zeroValue87
  t76 := Tryd.underlying88
  a76 := Tryd.isAgg88
  z76 := Tryd.sizeOf88
  v76 := Tryd.zeroValue88
  t127 := Tryd.underlying115
  a127 := Tryd.isAgg115
  z127 := Tryd.sizeOf115
  v127 := Tryd.zeroValue115
  t164 := Tryd.underlying144
  a164 := Tryd.isAgg144
  z164 := Tryd.sizeOf144
  v164 := Tryd.zeroValue144 }
theorem Tryd.Builder_Extra_156 : Builder.Extra Tryd.prog Tryd.lays156_ren := {
  sizeBuilder := by kernel_rfl
  liesBuilder := by kernel_rfl
  t5 := Tryd.underlying5
  a5 := Tryd.isAgg5
  z5 := Tryd.sizeOf5
  v5 := Tryd.zeroValue5
  infoByte := by kernel_rfl
  cellsByte := by kernel_rfl
  sizeByte := by kernel_rfl
  neB5 := by decide }
open Go.RowKit in
/-- No element: the empty string; the world is as it was. (Whatever the slice's address and capacity: a nil slice too.) (LAID: no walk: one application.) -/
theorem Tryd.strings_Join_none (a : Option Addr) (c : Nat) (sep : ByteArray) (w : World) :
    Calls Tryd.prog 55 #[.slice a 0 c, .string sep] w fun e w' => e = .returned (.string ⟨#[]⟩) ∧ w' = w := Any.strings_Join_none Tryd.lays156 Tryd.Builder_Extra_156 a c sep w
open Go.RowKit in
/-- strings.Join: "Join concatenates the elements of its first argument to create a single string. The separator string sep is placed between elements in the resulting string.": HOWEVER MANY ELEMENTS. Below the heap's end the world is as it was. (LAID: no walk: one application.) -/
theorem Tryd.strings_Join (bk o c : Nat) (xs : List ByteArray) (sep : ByteArray) (w : World) (hcells : ∀ (j : Nat) x, xs[j]? = some x → w.cell? ⟨bk, o + j, none⟩ = some (.string x)) (hbk : bk < w.heap.size) (hN : xs.length ≤ 140737488355328) (hcap : xs.length ≤ c) (hlen : (Lib.join (xs.map (·.data.toList)) sep.data.toList).length ≤ 140737488355328) :
    Calls Tryd.prog 55 #[.slice (some ⟨bk, o, none⟩) xs.length c, .string sep] w fun e w' => e = .returned (.string ⟨(Lib.join (xs.map (·.data.toList)) sep.data.toList).toArray⟩) ∧ Below w.heap.size w w' := Any.strings_Join Tryd.lays156 Tryd.Builder_Extra_156 bk o c xs sep w hcells hbk hN hcap hlen
def Tryd.lays143_ren : Go.Shelf.Ren := ⟨fun | 143 => 118 | 219 => 129 | 217 => 135 | 225 => 136 | 224 => 137 | 267 => 138 | 266 => 144 | 314 => 145 | n => n, fun | 9 => 9 | 3 => 3 | 4 => 4 | 5 => 5 | 46 => 94 | 146 => 162 | 51 => 146 | n => n, fun | 1 => 2 | n => n⟩
theorem Tryd.lays143 : Go.Proofs.Lays.n143 Tryd.prog Tryd.lays143_ren := {
  mixed := by kernel_rfl
  f143 := Tryd.func118.trans (congrArg some (by kernel_rfl))
  f217 := Tryd.func135.trans (congrArg some (by kernel_rfl))
  f219 := Tryd.func129.trans (congrArg some (by kernel_rfl))
  f224 := Tryd.func137.trans (congrArg some (by kernel_rfl))
  f225 := Tryd.func136.trans (congrArg some (by kernel_rfl))
  f266 := Tryd.func144.trans (congrArg some (by kernel_rfl))
  f267 := Tryd.func138.trans (congrArg some (by kernel_rfl))
  f314 := Tryd.func145.trans (congrArg some (by kernel_rfl))
  t3 := Tryd.underlying3
  a3 := Tryd.isAgg3
  z3 := Tryd.sizeOf3
  v3 := Tryd.zeroValue3
  t4 := Tryd.underlying4
  a4 := Tryd.isAgg4
  z4 := Tryd.sizeOf4
  v4 := Tryd.zeroValue4
  t5 := Tryd.underlying5
  a5 := Tryd.isAgg5
  z5 := Tryd.sizeOf5
  v5 := Tryd.zeroValue5
  t9 := Tryd.underlying9
  a9 := Tryd.isAgg9
  z9 := Tryd.sizeOf9
  v9 := Tryd.zeroValue9
  t46 := Tryd.underlying94
  a46 := Tryd.isAgg94
  z46 := Tryd.sizeOf94
  v46 := Tryd.zeroValue94
  t51 := Tryd.underlying146
  a51 := Tryd.isAgg146
  z51 := Tryd.sizeOf146
  v51 := Tryd.zeroValue146
  t146 := Tryd.underlying162
  a146 := Tryd.isAgg162
  z146 := Tryd.sizeOf162
  v146 := Tryd.zeroValue162
  g1 := by kernel_rfl }
open Go.RowKit Go.Lib in
/-- strings.Index: "Index returns the index of the first instance of substr in s, or -1 if substr is not present in s.": AT A substr OF ONE BYTE c: IT RETURNS 'Lib.indexByte s c'; the world is as it was. (LAID: no walk: one application.) -/
theorem Tryd.strings_Index_one (s : ByteArray) (c : UInt8) (w : World) :
    Calls Tryd.prog 118 #[.string s, .string ⟨#[c]⟩] w fun e w' => e = .returned (.int .i64 (Lib.indexByte s.data.toList c)) ∧ w' = w := Any.strings_Index_one Tryd.lays143 s c w
def Tryd.lays99_ren : Go.Shelf.Ren := ⟨fun | 99 => 63 | 206 => 102 | n => n, fun | 9 => 9 | 4 => 4 | 3 => 3 | n => n, fun | n => n⟩
theorem Tryd.lays99 : Go.Proofs.Lays.n99 Tryd.prog Tryd.lays99_ren := {
  mixed := by kernel_rfl
  f99 := Tryd.func63.trans (congrArg some (by kernel_rfl))
  f206 := Tryd.func102.trans (congrArg some (by kernel_rfl))
  t3 := Tryd.underlying3
  a3 := Tryd.isAgg3
  z3 := Tryd.sizeOf3
  v3 := Tryd.zeroValue3
  t4 := Tryd.underlying4
  a4 := Tryd.isAgg4
  z4 := Tryd.sizeOf4
  v4 := Tryd.zeroValue4
  t9 := Tryd.underlying9
  a9 := Tryd.isAgg9
  z9 := Tryd.sizeOf9
  v9 := Tryd.zeroValue9 }
open Go.RowKit Go.Lib in
/-- strings.HasPrefix: "HasPrefix reports whether the string s begins with prefix.": IT RETURNS 'Lib.hasPrefix s prefix'; the world is as it was. (LAID: no walk: one application.) -/
theorem Tryd.strings_HasPrefix (s p : ByteArray) (w : World) :
    Calls Tryd.prog 63 #[.string s, .string p] w fun e w' => e = .returned (.bool (Lib.hasPrefix s.data.toList p.data.toList)) ∧ w' = w := Any.strings_HasPrefix Tryd.lays99 s p w
def Tryd.lays146_ren : Go.Shelf.Ren := ⟨fun | 146 => 58 | 221 => 99 | 268 => 116 | 138 => 117 | 143 => 118 | 195 => 127 | 197 => 64 | 218 => 128 | 219 => 129 | 260 => 103 | 217 => 135 | 225 => 136 | 224 => 137 | 267 => 138 | 266 => 144 | 314 => 145 | n => n, fun | 9 => 9 | 31 => 22 | 3 => 3 | 4 => 4 | 0 => 0 | 105 => 81 | 21 => 21 | 5 => 5 | 46 => 94 | 119 => 117 | 139 => 120 | 138 => 119 | 146 => 162 | 51 => 146 | n => n, fun | 1 => 2 | 3 => 0 | 4 => 1 | n => n⟩
theorem Tryd.lays146 : Go.Proofs.Lays.n146 Tryd.prog Tryd.lays146_ren := {
  mixed := by kernel_rfl
  f138 := Tryd.func117.trans (congrArg some (by kernel_rfl))
  f143 := Tryd.func118.trans (congrArg some (by kernel_rfl))
  f146 := Tryd.func58.trans (congrArg some (by kernel_rfl))
  f195 := Tryd.func127.trans (congrArg some (by kernel_rfl))
  f197 := Tryd.func64.trans (congrArg some (by kernel_rfl))
  f217 := Tryd.func135.trans (congrArg some (by kernel_rfl))
  f218 := Tryd.func128.trans (congrArg some (by kernel_rfl))
  f219 := Tryd.func129.trans (congrArg some (by kernel_rfl))
  f221 := Tryd.func99.trans (congrArg some (by kernel_rfl))
  f224 := Tryd.func137.trans (congrArg some (by kernel_rfl))
  f225 := Tryd.func136.trans (congrArg some (by kernel_rfl))
  f260 := Tryd.func103.trans (congrArg some (by kernel_rfl))
  f266 := Tryd.func144.trans (congrArg some (by kernel_rfl))
  f267 := Tryd.func138.trans (congrArg some (by kernel_rfl))
  f268 := Tryd.func116.trans (congrArg some (by kernel_rfl))
  f314 := Tryd.func145.trans (congrArg some (by kernel_rfl))
  t0 := Tryd.underlying0
  a0 := Tryd.isAgg0
  z0 := Tryd.sizeOf0
  v0 := Tryd.zeroValue0
  t3 := Tryd.underlying3
  a3 := Tryd.isAgg3
  z3 := Tryd.sizeOf3
  v3 := Tryd.zeroValue3
  t4 := Tryd.underlying4
  a4 := Tryd.isAgg4
  z4 := Tryd.sizeOf4
  v4 := Tryd.zeroValue4
  t5 := Tryd.underlying5
  a5 := Tryd.isAgg5
  z5 := Tryd.sizeOf5
  v5 := Tryd.zeroValue5
  t9 := Tryd.underlying9
  a9 := Tryd.isAgg9
  z9 := Tryd.sizeOf9
  v9 := Tryd.zeroValue9
  t21 := Tryd.underlying21
  a21 := Tryd.isAgg21
  z21 := Tryd.sizeOf21
  v21 := Tryd.zeroValue21
  t31 := Tryd.underlying22
  a31 := Tryd.isAgg22
  z31 := Tryd.sizeOf22
  v31 := Tryd.zeroValue22
  t46 := Tryd.underlying94
  a46 := Tryd.isAgg94
  z46 := Tryd.sizeOf94
  v46 := Tryd.zeroValue94
  t51 := Tryd.underlying146
  a51 := Tryd.isAgg146
  z51 := Tryd.sizeOf146
  v51 := Tryd.zeroValue146
  t105 := Tryd.underlying81
  a105 := Tryd.isAgg81
  z105 := Tryd.sizeOf81
  v105 := Tryd.zeroValue81
  t119 := Tryd.underlying117
  a119 := Tryd.isAgg117
  z119 := Tryd.sizeOf117
  t138 := Tryd.underlying119
  a138 := Tryd.isAgg119
  z138 := Tryd.sizeOf119
  v138 := Tryd.zeroValue119
  t139 := Tryd.underlying120
  a139 := Tryd.isAgg120
  z139 := Tryd.sizeOf120
  v139 := Tryd.zeroValue120
  t146 := Tryd.underlying162
  a146 := Tryd.isAgg162
  z146 := Tryd.sizeOf162
  v146 := Tryd.zeroValue162
  g1 := by kernel_rfl
  g3 := by kernel_rfl
  g4 := by kernel_rfl }
open Go.RowKit Go.Lib in
/-- strings.Split. (LAID: no walk: one application.) -/
theorem Tryd.strings_Split (s sep : ByteArray) (m : Int) (w : World) (hs : s.size < 4294967281) (hm : w.cell? ⟨2, 0, none⟩ = some (.int .i64 m)) (h1 : 1 ≤ sep.size) :
    Calls Tryd.prog 58 #[.string s, .string sep] w fun e w' =>
      e = .returned (.slice (some ⟨w.heap.size, 0, none⟩) (Lib.countB s sep + 1) (Lib.countB s sep + 1)) ∧ w' = w.alloc (.cells ((Lib.splitB sep 0 (Lib.countB s sep) s).map Value.string).toArray 9) := Any.strings_Split Tryd.lays146 (by kernel_rfl) s sep m w hs hm h1
end Go.Proofs
end
section
/- strings.SplitSeq at a point: its iterator hands over a text's pieces, one by one; by hand. -/
namespace Go.Proofs.YtcaojgdnhmgmlaaDoor.Q
open Go.RowKit Go.Shelf Go.Proofs.YtcaojgdnhmgmlaaDoorW.PrintWords Go.Proofs.YtcaojgdnhmgmlaaDoorW.PrintLast Go.Proofs.YtcaojgdnhmgmlaaDoorW.PrintMore
set_option linter.unusedVariables false
attribute [local go_sem] Oper.semAt_some

/-- The iterator's boxes: its text, the separator, what is saved of it. -/
structure BoxS (k0 : Nat) (s : ByteArray) (w : World) : Prop where
  b0 : w.heap[k0]? = some (.cells #[.string s] 9 (0, 0))
  b1 : w.heap[k0 + 1]? = some (.cells #[.string ⟨#[46]⟩] 9 (0, 0))
  b2 : w.heap[k0 + 2]? = some (.cells #[.int .i64 0] 3 (0, 0))
theorem BoxS.keep {k0 : Nat} {s : ByteArray} {w w' : World} (h : BoxS k0 s w) (k : KeepB k0 w w') : BoxS k0 s w' :=
  ⟨(k _ (by omega) (by omega)).trans h.b0, (k _ (by omega) (by omega)).trans h.b1, (k _ (by omega) (by omega)).trans h.b2⟩
theorem box_set {w : World} {b : Nat} {v : Value} {t : TypeId} (h : w.heap[b]? = some (.cells #[v] t (0, 0))) (y : Value) : (w.setCell ⟨b, 0, none⟩ y).heap[b]? = some (.cells #[y] t (0, 0)) := by
  have hlt : b < w.heap.size := (Array.getElem?_eq_some_iff.1 h).1
  have h' : w.heap[b] = .cells #[v] t (0, 0) := by simpa [Array.getElem?_eq_getElem hlt] using h
  show (w.heap.modify b _)[b]? = _
  rw [Array.getElem?_eq_getElem (by simpa using hlt), Array.getElem_modify_self, h']
  rfl
theorem BoxS.set {k0 : Nat} {s : ByteArray} {w : World} (h : BoxS k0 s w) (t : ByteArray) : BoxS k0 t (w.setCell ⟨k0, 0, none⟩ (.string t)) :=
  ⟨box_set h.b0 _, (Below.heap_setCell w ⟨k0, 0, none⟩ _ (k0 + 1) (by show k0 + 1 ≠ k0; omega)).trans h.b1, (Below.heap_setCell w ⟨k0, 0, none⟩ _ (k0 + 2) (by show k0 + 2 ≠ k0; omega)).trans h.b2⟩
/-- How much text the box holds. -/
def boxLen (k0 : Nat) (w : World) : Nat := match w.heap[k0]? with
  | some (Obj.cells cs _ _) => match cs[0]? with
    | some (Value.string s) => s.size
    | _ => 0
  | _ => 0
theorem BoxS.len {k0 : Nat} {s : ByteArray} {w : World} (h : BoxS k0 s w) : boxLen k0 w = s.size := by simp [boxLen, h.b0]

set_option maxRecDepth 100000 in
set_option maxHeartbeats 2000000 in
theorem seq_splits (n k0 : Nat) (s : ByteArray) (w : World) (hs : s.size < 1000000) (hb : BoxS k0 s w) :
    SeqB Fence.wide n Tryd.prog 120 #[.pointer (some ⟨k0 + 1, 0, none⟩), .pointer (some ⟨k0, 0, none⟩), .pointer (some ⟨k0 + 2, 0, none⟩)] k0 (pieces s) w := by
  intro r J Jx W hk hst hY h0
  have HB := Aside0.mk (hb.keep hk)
  refine callsIn_of_wp Tryd.func120 rfl trivial ?_ rfl
  simp only [Tryd.ntmps120, List.size_toArray, List.length_cons, List.length_nil, Nat.reduceAdd, Nat.reduceSub, Array.replicate_succ, Array.replicate_zero, List.push_toArray, List.append_toArray, List.nil_append, List.cons_append]
  have hc1 : W.cell? ⟨k0 + 1, 0, none⟩ = some (.string ⟨#[46]⟩) := by simp [World.cell?, HB.out.b1]
  gi_wp2
  clear hc1
  gi_loopw [7] (fun v7 wr => ∃ (pre : List ByteArray) (cur : ByteArray), Aside0 (pieces s = pre ++ pieces cur) ∧ Aside0 (cur.size < 1000000) ∧ Aside0 (BoxS k0 cur wr) ∧ Aside0 (J pre wr)) (fun _ wr => boxLen k0 wr)
  case atStart => exact ⟨[], s, ⟨rfl⟩, ⟨hs⟩, HB, ⟨h0⟩⟩
  case round =>
    obtain ⟨pre, cur, HP, HS, HX, HJ⟩ := hrel
    have hc0 : wr.cell? ⟨k0, 0, none⟩ = some (.string cur) := by simp [World.cell?, HX.out.b0]
    have hc1 : wr.cell? ⟨k0 + 1, 0, none⟩ = some (.string ⟨#[46]⟩) := by simp [World.cell?, HX.out.b1]
    have hc2 : wr.cell? ⟨k0 + 2, 0, none⟩ = some (.int .i64 0) := by simp [World.cell?, HX.out.b2]
    have hf0 : wr.frozen? ⟨k0, 0, none⟩ = false := by simp [World.frozen?, HX.out.b0]
    have HI := Aside0.mk (Tryd.strings_Index_one cur 46 wr)
    have hge := Lib.indexByte_ge cur.data.toList 46
    by_cases hi : Lib.indexByte cur.data.toList 46 = -1
    · have hpm := pieces_miss cur hi
      rw [hi] at HI
      obtain ⟨fn, tmps, assign, body, hy, hR⟩ := hY pre cur wr (by rw [HP.out, hpm]; exact List.prefix_rfl) HJ.out
      have HPP := Aside0.mk (show pieces s = pre ++ [cur] by rw [HP.out, hpm])
      clear hi hpm hge
      gi_wp2
      refine ⟨trivial, (fun h => by cases h), (callsIn_wide.2 HI.out).mono ?_⟩
      rintro e w' ⟨rfl, rfl⟩
      gi_wp2
      first | refine hR.mono ?_ | refine ⟨(fun h => by cases h), hR.mono ?_⟩
      rintro e W3 (⟨rfl, hJ3, hk3⟩ | ⟨rfl, hJx3⟩)
      · gi_wp2
        go_end0
        exact ⟨⟨_, rfl⟩, .inl (by rw [HPP.out]; exact hJ3)⟩
      · gi_wp2
        go_end0
        exact ⟨⟨_, rfl⟩, .inr ⟨_, by rw [HPP.out]; exact List.prefix_rfl, hJx3⟩⟩
    · obtain ⟨i, hi⟩ := Int.eq_ofNat_of_zero_le (show 0 ≤ Lib.indexByte cur.data.toList 46 by omega)
      obtain ⟨hil, hph⟩ := pieces_hit cur i hi
      rw [hi] at HI
      obtain ⟨fn, tmps, assign, body, hy, hR⟩ := hY pre (cur.extract 0 i) wr (by rw [HP.out, hph]; exact ⟨pieces (cur.extract (i + 1) cur.size), by simp⟩) HJ.out
      have HPP := Aside0.mk (show pieces s = (pre ++ [cur.extract 0 i]) ++ pieces (cur.extract (i + 1) cur.size) by rw [HP.out, hph]; simp)
      have HIL := Aside0.mk hil
      have e0 : decide ((i : Int) < 0) = false := decide_eq_false (by omega)
      have w0 : wrap64 (i : Int) = i := by have := HS.out; unfold wrap64; omega
      have w1 : wrap64 ((i : Int) + 1) = (i : Int) + 1 := by have := HS.out; unfold wrap64; omega
      have q0 : (0 : Int) ≤ i := by omega
      have q1 : (i : Int) ≤ cur.size := by omega
      have q2 : (i : Int) + 1 ≤ cur.size := by omega
      have q3 : (0 : Int) ≤ i + 1 := by omega
      have q4 : ((i : Int) + 1).toNat = i + 1 := by omega
      clear hi hph hge hil
      gi_wp2
      refine ⟨trivial, (fun h => by cases h), (callsIn_wide.2 HI.out).mono ?_⟩
      rintro e w' ⟨rfl, rfl⟩
      gi_wp2
      refine ⟨(fun h => by cases h), hR.mono ?_⟩
      rintro e W3 (⟨rfl, hJ3, hk3⟩ | ⟨rfl, hJx3⟩)
      · have HX3 := Aside0.mk (HX.out.keep hk3)
        have hd0 : W3.cell? ⟨k0, 0, none⟩ = some (.string cur) := by simp [World.cell?, HX3.out.b0]
        have hd1 : W3.cell? ⟨k0 + 1, 0, none⟩ = some (.string ⟨#[46]⟩) := by simp [World.cell?, HX3.out.b1]
        have hdf : W3.frozen? ⟨k0, 0, none⟩ = false := by simp [World.frozen?, HX3.out.b0]
        have HJ3 := Aside0.mk (hst _ W3 (.string (cur.extract (i + 1) cur.size)) hJ3)
        have HX4 := Aside0.mk (HX3.out.set (cur.extract (i + 1) cur.size))
        clear hJ3 hk3 hR hy
        gi_wp2
        go_roundw
        case rel => exact ⟨pre ++ [cur.extract 0 i], cur.extract (i + 1) cur.size, HPP, ⟨by have := HS.out; simp; omega⟩, HX4, HJ3⟩
        case measure =>
          have h1 := HX4.out.len
          have h2 := HX.out.len
          rw [h1, h2]
          have := HIL.out
          simp; omega
      · gi_wp2
        refine bodyPost_ret (results_none rfl _ _ _) rfl ?_
        exact ⟨⟨_, rfl⟩, .inr ⟨_, ⟨pieces (cur.extract (i + 1) cur.size), HPP.out.symm⟩, hJx3⟩⟩
end Go.Proofs.YtcaojgdnhmgmlaaDoor.Q
end
section
/- A text is valid where its runes stop nowhere. -/
namespace Go.Proofs.YtcaojgdnhmgmlaaDoor.Q
open Go.RowKit Go.Lib
set_option linter.unusedVariables false

theorem validGo_scan (s : ByteArray) : ∀ k p, validGoD k (s.data.toList.drop p) = (scan s k p).2.isNone
  | 0, p => rfl
  | k + 1, p => by
    have hsz : s.data.toList.length = s.size := by cases s; simp [ByteArray.size]
    unfold validGoD
    by_cases hp : p < s.size
    · rw [if_neg (by intro h; have := congrArg List.length h; rw [List.length_drop, hsz] at this; simp at this; omega), decodeL_drop]
      have hw := wid_pos s p
      cases hb : brk s p
      · rw [scan_next s k p hp hb, if_neg (by intro h; simp [brk, h.1, h.2] at hb), List.drop_drop, validGo_scan s k _]
      · rw [scan_brk s k p hp hb, if_pos (by simp [brk] at hb; omega)]; rfl
    · rw [if_pos (List.drop_of_length_le (by omega)), scan_end s _ p hp]; rfl
theorem valid_runes (s : ByteArray) : validD s.data.toList = (runesOf s).2.isNone := by
  have hsz : s.data.toList.length = s.size := by cases s; simp [ByteArray.size]
  unfold validD runesOf
  rw [hsz]
  have := validGo_scan s s.size 0
  rwa [List.drop_zero] at this
end Go.Proofs.YtcaojgdnhmgmlaaDoor.Q
end
section
/- utf.Count, by hand: how many runes a text has; -1 where it is none. -/
namespace Go.Proofs.YtcaojgdnhmgmlaaDoor.Q
open Go.RowKit Go.Sort Go.Proofs.YtcaojgdnhmgmlaaDoorW.PrintWords Go.Proofs.YtcaojgdnhmgmlaaDoorW.PrintLast Go.Proofs.YtcaojgdnhmgmlaaDoorW.PrintMore
set_option linter.unusedVariables false

def utf_Count.f (a0 : ByteArray) : Option (Int) := if a0.size < 1000000 then some (if (runesOf a0).2.isNone = true then ((runesOf a0).1.length : Int) else -1) else none

set_option maxHeartbeats 4000000 in
set_option maxRecDepth 100000 in
theorem utf_Count.calls (a0 : ByteArray) (r : Int) (w : World) (hlaidU : LaidU w) (h : utf_Count.f a0 = some r) :
    Calls Tryd.prog 26 #[.string a0] w fun e w' => e = .returned (.int .i64 r) ∧ Below w.heap.size w w' := by
  unfold utf_Count.f at h
  split at h
  case isFalse => cases h
  rename_i hs
  have h := Option.some.inj h
  have HH := Aside0.mk h
  have HS := Aside0.mk hs
  have HV := Aside0.mk (Tryd.utf8_ValidString a0 w (by omega) hlaidU.tabs)
  have HN := Aside0.mk (valid_runes a0)
  clear h hs hlaidU
  go_enter Tryd.func26, Tryd.ntmps26
  go_wp2_with fail
  refine HV.out.mono ?_
  rw [HN.out]
  rintro e w1 ⟨rfl, hb1⟩
  have HB1 := Aside0.mk hb1
  clear hb1 HV HN
  cases hv : (runesOf a0).2.isNone
  · go_wp2_with fail
    go_ret
    have h1 := HH.out
    rw [hv, if_neg (by simp)] at h1
    subst h1
    exact ⟨rfl, HB1.out⟩
  · go_wp2_with fail
    have h1 := HH.out
    rw [hv, if_pos rfl] at h1
    clear HH h
    have HR := Aside0.mk h1
    clear h1
    go_loopw [2] (fun v wr => ∃ (pos fuel k : Nat), v = .int .i64 (k : Int) ∧ wr = w1.iter a0 pos ∧ Aside0 ((runesOf a0).1.length = k + (scan a0 fuel pos).1.length) ∧ Aside0 ((scan a0 fuel pos).2.isNone = true) ∧ Aside0 (a0.size ≤ pos + fuel) ∧ Aside0 (k ≤ pos)) (fun _ wr => a0.size - wr.iterPos w1.heap.size)
    case atStart => exact ⟨0, a0.size, 0, rfl, rfl, ⟨by simp [runesOf]⟩, ⟨hv⟩, ⟨by omega⟩, ⟨Nat.le_refl _⟩⟩
    case round =>
      clear hv
      obtain ⟨pos, fuel, k, rfl, rfl, HL, HN, HF, HK⟩ := hrel
      by_cases hp : pos < a0.size
      · have hnx : ∀ ty, (Instr.next (.pointer (some ⟨w1.heap.size, 0, none⟩)) true ty).run Tryd.prog (w1.iter a0 pos) = _ := fun ty => run_next_any w1 a0 pos ty hp
        have HW := Aside0.mk (wid_pos a0 pos)
        obtain ⟨c, n, hd⟩ : ∃ c n, Utf8.decode a0 pos = (c, n) := ⟨_, _, rfl⟩
        simp only [hd] at hnx HW
        obtain ⟨f, rfl⟩ : ∃ f, fuel = f + 1 := ⟨fuel - 1, by have := HF.out; omega⟩
        have hb : brk a0 pos = false := by
          cases hb : brk a0 pos
          · rfl
          · have := HN.out
            rw [scan_brk a0 f pos hp hb] at this
            cases this
        have HC := Aside0.mk (scan_next a0 f pos hp hb)
        rw [hd] at HC
        have hw64 : wrap64 ((k : Int) + 1) = k + 1 := by have := HS.out; have := HK.out; unfold wrap64; omega
        have hpos : (w1.iter a0 pos).iterPos w1.heap.size = pos := World.iterPos_iter ..
        rw [hpos]
        clear hpos hb hd
        go_wp2_with fail
        go_roundw
        case rel => exact ⟨pos + n, f, k + 1, by rw [hw64]; rfl, rfl, ⟨by rw [HL.out, HC.out]; simp; omega⟩, ⟨by have := HN.out; rw [HC.out] at this; exact this⟩, ⟨by have := HF.out; have := HW.out; omega⟩, ⟨by have := HK.out; have := HW.out; omega⟩⟩
        case measure =>
          have h2 := HW.out
          rw [World.iterPos_iter]
          omega
      · have hnx : ∀ ty, (Instr.next (.pointer (some ⟨w1.heap.size, 0, none⟩)) true ty).run Tryd.prog (w1.iter a0 pos) = _ := fun ty => run_next_end w1 a0 pos ty hp
        go_wp2_with fail
        go_ret
        have h1 := HL.out
        rw [scan_end a0 fuel pos hp] at h1
        have h2 := HR.out
        rw [h1] at h2
        subst h2
        exact ⟨rfl, below_alloc HB1.out _⟩
end Go.Proofs.YtcaojgdnhmgmlaaDoor.Q
end

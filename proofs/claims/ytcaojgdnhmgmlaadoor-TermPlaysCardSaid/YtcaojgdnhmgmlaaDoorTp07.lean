/- term, plainly: the text of a term, by fuel; and that a term of size at most 1000 has at most 46 times its size in bytes. · DERIVED: THE SHELF's CONTRACTS AT THIS DUMP, IN PLAIN WORDS (tools/lay-plain.mjs out of 'YtcaojgdnhmgmlaaDoorShItoa.lean', which tools/lay-shelf.mjs wrote): THE SAME DECLARATIONS UNDER THE SAME NAMES: 'import', 'namespace', 'open', 'def', 'theorem' AND NOTHING ELSE: no command of the shelf's: FOR A HAND-IN. Each laying: the table of numbers ('.._ren') and one theorem, a field a fact of the dump's own or the kernel's comparison; each contract: ONE APPLICATION. · num.Print, by hand: the digits of a number, none below 0; where the library's powers of ten are laid. · strings.Builder's WriteString at this dump: the shelf's contract, its laying typed by hand (the one command falls: no body of the closure names the type any). -/
import Derived.Test.YtcaojgdnhmgmlaaDoorTp06
import Derived.Lib.ItoaLen
import Derived.Shelf.LaysM
import Derived.Shelf.Strconv.Itoa3
import Derived.Test.YtcaojgdnhmgmlaaDoorProg
import Derived.Test.YtcaojgdnhmgmlaaDoorTp01
import Derived.Shelf.Strings.BuilderK
set_option linter.unusedVariables false
set_option linter.unusedSimpArgs false
section
namespace Go.Proofs.YtcaojgdnhmgmlaaDoor.T
open Go.RowKit Go.Proofs.YtcaojgdnhmgmlaaDoor.Q Go.Proofs.YtcaojgdnhmgmlaaDoor.PTermPlays Go.Proofs.YtcaojgdnhmgmlaaDoorW.PrintWords Go.Proofs.YtcaojgdnhmgmlaaDoorW.PrintLast
set_option linter.unusedVariables false
/-- The word ahead of a term of parts. -/
def wordOf (q : Int) : List UInt8 := if q = 3 then [107, 100, 102] else if q = 4 then [109, 105, 120] else [101, 110, 99]
/-- The text of the term with this id, parts so many deep. -/
def textF (xs : List S104) : Nat → Int → List UInt8
  | 0, _ => []
  | k + 1, id =>
    if (rdOf z104 xs (id - 1)).f0 = 1 then 97 :: Lib.itoa (rdOf z104 xs (id - 1)).f4
    else if (rdOf z104 xs (id - 1)).f0 = 2 then 39 :: ((rdOf z104 xs (id - 1)).f3.data.toList ++ [39])
    else if (rdOf z104 xs (id - 1)).f0 = 3 then wordOf 3 ++ (40 :: (textF xs k (rdOf z104 xs (id - 1)).f1 ++ (44 :: ((rdOf z104 xs (id - 1)).f3.data.toList ++ [41]))))
    else wordOf (rdOf z104 xs (id - 1)).f0 ++ (40 :: (textF xs k (rdOf z104 xs (id - 1)).f1 ++ (44 :: (textF xs k (rdOf z104 xs (id - 1)).f2 ++ [41]))))
theorem wordOf_len (q : Int) : (wordOf q).length = 3 := by unfold wordOf; split; rfl; split <;> rfl
theorem rd_fine {xs : List S104} (hf : Fine xs) {id : Int} (h1 : 1 ≤ id) (h2 : id ≤ xs.length) : FineAt (id - 1).toNat (rdOf z104 xs (id - 1)) ∧ ((id - 1).toNat : Int) = id - 1 := by
  obtain ⟨i, hi⟩ := Int.eq_ofNat_of_zero_le (show 0 ≤ id - 1 by omega)
  have hil : i < xs.length := by omega
  have e : rdOf z104 xs (id - 1) = xs[i] := by rw [hi]; exact rdn xs i hil
  rw [e, hi]
  exact ⟨hf i hil, rfl⟩
/-- A term's size, of its parts' sizes. -/
theorem size_at {xs : List S104} (hf : Fine xs) {id : Int} (h1 : 1 ≤ id) (h2 : id ≤ xs.length) : rdOf 0 (szs xs) (id - 1) = szNode (szs xs) (rdOf z104 xs (id - 1)) := by
  obtain ⟨i, hi⟩ := Int.eq_ofNat_of_zero_le (show 0 ≤ id - 1 by omega)
  have hil : i < xs.length := by omega
  have e : rdOf z104 xs (id - 1) = xs[i] := by rw [hi]; exact rdn xs i hil
  have hx := hf i hil
  have hs := szs_at _ xs rfl i hil
  have e2 : rdOf 0 (szs xs) (id - 1) = szNode (szs (xs.take i)) xs[i] := by
    rw [hi]
    unfold rdOf
    rw [Int.toNat_natCast, List.getD_eq_getElem?_getD, hs]; rfl
  have e3 : ∀ a : Int, 1 ≤ a ∧ a ≤ i → rdOf 0 (szs (xs.take i)) (a - 1) = rdOf 0 (szs xs) (a - 1) := fun a ha => by
    obtain ⟨j, hj⟩ := Int.eq_ofNat_of_zero_le (show 0 ≤ a - 1 by omega)
    rw [hj]
    exact szs_take xs i j (by omega) (by omega)
  rw [e, e2]
  unfold szNode
  by_cases c1 : xs[i].f0 = 1 ∨ xs[i].f0 = 2
  · rw [if_pos c1, if_pos c1]
  · rw [if_neg c1, if_neg c1]
    have hk := hx.kind
    rw [e3 _ (hx.one (by omega))]
    by_cases c3 : xs[i].f0 = 3
    · rw [if_pos c3, if_pos c3]
    · rw [if_neg c3, if_neg c3, e3 _ (hx.two (by omega))]
theorem size_nn (xs : List S104) (i : Int) : 0 ≤ rdOf 0 (szs xs) i ∧ rdOf 0 (szs xs) i ≤ great := rd_bounds (szs_bounds _ xs rfl) i
theorem textF_len {xs : List S104} (hn : xs.length < 100000) (hf : Fine xs) : ∀ (k : Nat) (id : Int), 1 ≤ id → id ≤ xs.length → rdOf 0 (szs xs) (id - 1) ≤ 1000 → ((textF xs k id).length : Int) ≤ 46 * rdOf 0 (szs xs) (id - 1)
  | 0, id, h1, h2, hs => by have := size_nn xs (id - 1); simp [textF]; omega
  | k + 1, id, h1, h2, hs => by
    obtain ⟨hx, hid⟩ := rd_fine hf h1 h2
    have hz := size_at hf h1 h2
    rw [hz] at hs ⊢
    unfold textF
    generalize rdOf z104 xs (id - 1) = x at hx hs hz ⊢
    have hk := hx.kind
    have hsh := hx.short
    rw [ByteArray.size] at hsh
    have hsl : x.f3.data.toList.length ≤ 40 := by rw [Array.length_toList]; exact hsh
    have hg : great = 1073741824 := rfl
    by_cases c1 : x.f0 = 1
    · have h5 := Lib.itoa_length_le x.f4 (by have := hx.atom c1; omega) (by have := hx.atom c1; omega)
      rw [if_pos c1, szNode, if_pos (.inl c1), List.length_cons]
      omega
    rw [if_neg c1]
    by_cases c2 : x.f0 = 2
    · rw [if_pos c2, szNode, if_pos (.inr c2), List.length_cons, List.length_append, List.length_singleton]
      omega
    rw [if_neg c2]
    have ho := hx.one (by omega)
    have hi1 := textF_len hn hf k x.f1 (by omega) (by omega)
    have hn1 := size_nn xs (x.f1 - 1)
    by_cases c3 : x.f0 = 3
    · have hq : szNode (szs xs) x = min (1 + rdOf 0 (szs xs) (x.f1 - 1)) great := by rw [szNode, if_neg (by omega), if_pos c3]
      rw [if_pos c3]
      rw [hq] at hs ⊢
      rw [List.length_append, List.length_cons, List.length_append, List.length_cons, List.length_append, List.length_singleton, wordOf_len]
      have := hi1 (by omega)
      omega
    · have ht := hx.two (by omega)
      have hi2 := textF_len hn hf k x.f2 (by omega) (by omega)
      have hn2 := size_nn xs (x.f2 - 1)
      have hq : szNode (szs xs) x = min (min (1 + rdOf 0 (szs xs) (x.f1 - 1)) great + rdOf 0 (szs xs) (x.f2 - 1)) great := by rw [szNode, if_neg (by omega), if_neg c3]
      rw [if_neg c3]
      rw [hq] at hs ⊢
      rw [List.length_append, List.length_cons, List.length_append, List.length_cons, List.length_append, List.length_singleton, wordOf_len]
      have := hi1 (by omega)
      have := hi2 (by omega)
      omega
/-- The sizes of a term's parts are smaller. -/
theorem size_parts {xs : List S104} (hf : Fine xs) {id : Int} (h1 : 1 ≤ id) (h2 : id ≤ xs.length) (hs : rdOf 0 (szs xs) (id - 1) ≤ 1000) :
    (3 ≤ (rdOf z104 xs (id - 1)).f0 → rdOf 0 (szs xs) ((rdOf z104 xs (id - 1)).f1 - 1) ≤ 1000) ∧ (4 ≤ (rdOf z104 xs (id - 1)).f0 → rdOf 0 (szs xs) ((rdOf z104 xs (id - 1)).f2 - 1) ≤ 1000) := by
  obtain ⟨hx, hid⟩ := rd_fine hf h1 h2
  have hz := size_at hf h1 h2
  rw [hz] at hs
  generalize rdOf z104 xs (id - 1) = x at hx hs hz ⊢
  have hg : great = 1073741824 := rfl
  have hn1 := size_nn xs (x.f1 - 1)
  have hn2 := size_nn xs (x.f2 - 1)
  have hk := hx.kind
  constructor
  · intro h3
    by_cases c3 : x.f0 = 3
    · rw [szNode, if_neg (by omega), if_pos c3] at hs; omega
    · rw [szNode, if_neg (by omega), if_neg c3] at hs; omega
  · intro h4
    rw [szNode, if_neg (by omega), if_neg (by omega)] at hs; omega
end Go.Proofs.YtcaojgdnhmgmlaaDoor.T
end
section
namespace Go.Proofs
open Go.Shelf
def Tryd.laysM171_ren : Go.Shelf.Ren := ⟨fun | 171 => 74 | 243 => 107 | 246 => 123 | 283 => 130 | 284 => 131 | 285 => 132 | 286 => 133 | 129 => 140 | 317 => 139 | 318 => 141 | 319 => 142 | 320 => 143 | 337 => 146 | 338 => 147 | n => n, fun | 3 => 3 | 9 => 9 | 2 => 2 | 4 => 4 | 171 => 152 | 0 => 0 | 53 => 51 | 37 => 52 | 5 => 5 | 173 => 155 | 212 => 159 | 51 => 146 | 20 => 20 | 213 => 160 | 46 => 94 | 232 => 165 | 233 => 166 | n => n, fun | 17 => 3 | 18 => 4 | 19 => 5 | n => n⟩
theorem Tryd.laysM171 : Go.Proofs.LaysM.n171 Tryd.prog Tryd.laysM171_ren := {
  mixed := by kernel_rfl
  f129 := Tryd.func140.trans (congrArg some (by kernel_rfl))
  f171 := Tryd.func74.trans (congrArg some (by kernel_rfl))
  f243 := Tryd.func107.trans (congrArg some (by kernel_rfl))
  f246 := Tryd.func123.trans (congrArg some (by kernel_rfl))
  f283 := Tryd.func130.trans (congrArg some (by kernel_rfl))
  f284 := Tryd.func131.trans (congrArg some (by kernel_rfl))
  f285 := Tryd.func132.trans (congrArg some (by kernel_rfl))
  f286 := Tryd.func133.trans (congrArg some (by kernel_rfl))
  f317 := Tryd.func139.trans (congrArg some (by kernel_rfl))
  f318 := Tryd.func141.trans (congrArg some (by kernel_rfl))
  f319 := Tryd.func142.trans (congrArg some (by kernel_rfl))
  f320 := Tryd.func143.trans (congrArg some (by kernel_rfl))
  f337 := Tryd.func146.trans (congrArg some (by kernel_rfl))
  f338 := Tryd.func147.trans (congrArg some (by kernel_rfl))
  t0 := Tryd.underlying0
  a0 := Tryd.isAgg0
  z0 := Tryd.sizeOf0
  v0 := Tryd.zeroValue0
  t2 := Tryd.underlying2
  a2 := Tryd.isAgg2
  z2 := Tryd.sizeOf2
  v2 := Tryd.zeroValue2
  t3 := Tryd.underlying3
  a3 := Tryd.isAgg3
  z3 := Tryd.sizeOf3
  v3 := Tryd.zeroValue3
  t4 := Tryd.underlying4
  a4 := Tryd.isAgg4
  z4 := Tryd.sizeOf4
  v4 := Tryd.zeroValue4
  t5 := Tryd.underlying5
  a5 := Tryd.isAgg5
  z5 := Tryd.sizeOf5
  v5 := Tryd.zeroValue5
  t9 := Tryd.underlying9
  a9 := Tryd.isAgg9
  z9 := Tryd.sizeOf9
  v9 := Tryd.zeroValue9
  t20 := Tryd.underlying20
  a20 := Tryd.isAgg20
  z20 := Tryd.sizeOf20
  v20 := Tryd.zeroValue20
  t37 := Tryd.underlying52
  a37 := Tryd.isAgg52
  z37 := Tryd.sizeOf52
  v37 := Tryd.zeroValue52
  t46 := Tryd.underlying94
  a46 := Tryd.isAgg94
  z46 := Tryd.sizeOf94
  v46 := Tryd.zeroValue94
  t51 := Tryd.underlying146
  a51 := Tryd.isAgg146
  z51 := Tryd.sizeOf146
  v51 := Tryd.zeroValue146
  t53 := Tryd.underlying51
  a53 := Tryd.isAgg51
  z53 := Tryd.sizeOf51
  v53 := Tryd.zeroValue51
  t171 := Tryd.underlying152
  a171 := Tryd.isAgg152
  z171 := Tryd.sizeOf152
  v171 := Tryd.zeroValue152
  t173 := Tryd.underlying155
  a173 := Tryd.isAgg155
  z173 := Tryd.sizeOf155
  v173 := Tryd.zeroValue155
  t212 := Tryd.underlying159
  a212 := Tryd.isAgg159
  z212 := Tryd.sizeOf159
  v212 := Tryd.zeroValue159
  t213 := Tryd.underlying160
  a213 := Tryd.isAgg160
  z213 := Tryd.sizeOf160
  t232 := Tryd.underlying165
  a232 := Tryd.isAgg165
  z232 := Tryd.sizeOf165
  v232 := Tryd.zeroValue165
  t233 := Tryd.underlying166
  a233 := Tryd.isAgg166
  z233 := Tryd.sizeOf166
  v233 := Tryd.zeroValue166
  g17 := by kernel_rfl
  g18 := by kernel_rfl
  g19 := by kernel_rfl
  i0 := by kernel_rfl
  i2 := by kernel_rfl
  i3 := by kernel_rfl
  i4 := by kernel_rfl
  i5 := by kernel_rfl
  i9 := by kernel_rfl
  i20 := by kernel_rfl
  i37 := by kernel_rfl
  i46 := by kernel_rfl
  i51 := by kernel_rfl
  i53 := by kernel_rfl
  i171 := by kernel_rfl
  i173 := by kernel_rfl
  i212 := by kernel_rfl
  i232 := by kernel_rfl
  i233 := by kernel_rfl
  m17 := by kernel_rfl
  m18 := by kernel_rfl
  m19 := by kernel_rfl }
open Go.RowKit Go.Sort Go.Lib in
/-- strconv.Itoa: "Itoa is equivalent to FormatInt(int64(i), 10).": i's DECIMAL NUMERAL ('Lib.itoa': a '-' where i is negative, then the digits), FOR EVERY int. The world behind the call: the world before it, new blocks behind the heap (the library's 'var a [24]byte'), draws. (LAID: no walk: one application.) -/
theorem Tryd.strconv_Itoa (n : Int) (h0 : -9223372036854775808 ≤ n) (h1 : n ≤ 9223372036854775807) (w : World) (htab : Lib.TabIs Tryd.prog w "internal/strconv.uint64pow10" .u64 Lib.pow10Tab) :
    Calls Tryd.prog 74 #[.int .i64 n] w fun e w' => e = .returned (.string ⟨(Lib.itoa n).toArray⟩) ∧ ∃ k os, w' = grow (w.drewN k) os := Any.strconv_Itoa Tryd.laysM171 n h0 h1 w htab
end Go.Proofs
end
section
namespace Go.Proofs.YtcaojgdnhmgmlaaDoor.Q
open Go.RowKit Go.Sort Go.Proofs.YtcaojgdnhmgmlaaDoorW.PrintWords Go.Proofs.YtcaojgdnhmgmlaaDoorW.PrintLast Go.Proofs.YtcaojgdnhmgmlaaDoorW.PrintMore
set_option linter.unusedVariables false

def num_Print.f (a0 : Int) : Option (ByteArray) := if -9223372036854775808 ≤ a0 ∧ a0 ≤ 9223372036854775807 then some (if a0 < 0 then ⟨#[]⟩ else ⟨(Lib.itoa a0).toArray⟩) else none

theorem below_grown_drewN (w : World) (k : Nat) (os : Array Obj) : Below w.heap.size w (grow (w.drewN k) os) :=
  ⟨rfl, rfl, rfl, by simp [grow, World.drewN], fun i hi => by simp [grow, World.drewN, Array.getElem?_append_left hi]⟩
theorem num_Print.calls (a0 : Int) (r : ByteArray) (w : World) (hlaidN : LaidN w) (h : num_Print.f a0 = some r) :
    Calls Tryd.prog 39 #[.int .i64 a0] w fun e w' => e = .returned (.string r) ∧ Below w.heap.size w w' := by
  unfold num_Print.f at h
  split at h
  case isFalse => cases h
  rename_i hb
  obtain rfl := Option.some.inj h
  clear h
  by_cases hn : a0 < 0
  · rw [if_pos hn]
    have e1 : decide (a0 < 0) = true := decide_eq_true hn
    clear hb hlaidN
    go_enter Tryd.func39, Tryd.ntmps39
    go_wp2_with fail
    go_ret
    exact ⟨rfl, Below.refl _ _⟩
  · rw [if_neg hn]
    have e1 : decide (a0 < 0) = false := decide_eq_false hn
    have HI := Aside0.mk (Tryd.strconv_Itoa a0 hb.1 hb.2 w hlaidN.tab)
    clear hb hlaidN
    go_enter Tryd.func39, Tryd.ntmps39
    go_wp2_with fail
    refine HI.out.mono ?_
    rintro e w' ⟨rfl, k, os, hw⟩
    have HB := Aside0.mk (show Below w.heap.size w w' by rw [hw]; exact below_grown_drewN w k os)
    clear hw
    go_wp2_with fail
    go_ret
    exact ⟨rfl, HB.out⟩
end Go.Proofs.YtcaojgdnhmgmlaaDoor.Q
end
section
namespace Go.Proofs
open Go.Shelf
def Tryd.lays166_ren : Go.Shelf.Ren := ⟨fun | 166 => 97 | 240 => 104 | 276 => 121 | n => n, fun | 37 => 52 | 70 => 83 | 72 => 85 | 75 => 87 | 164 => 144 | 80 => 90 | n => n, fun | n => n⟩
theorem Tryd.lays166 : Go.Proofs.Lays.n166 Tryd.prog Tryd.lays166_ren := {
  mixed := by kernel_rfl
  f166 := Tryd.func97.trans (congrArg some (by kernel_rfl))
  f240 := Tryd.func104.trans (congrArg some (by kernel_rfl))
  f276 := Tryd.func121.trans (congrArg some (by kernel_rfl))
  t0 := Tryd.underlying0
  a0 := Tryd.isAgg0
  z0 := Tryd.sizeOf0
  v0 := Tryd.zeroValue0
  t3 := Tryd.underlying3
  a3 := Tryd.isAgg3
  z3 := Tryd.sizeOf3
  v3 := Tryd.zeroValue3
  t4 := Tryd.underlying4
  a4 := Tryd.isAgg4
  z4 := Tryd.sizeOf4
  v4 := Tryd.zeroValue4
  t9 := Tryd.underlying9
  a9 := Tryd.isAgg9
  z9 := Tryd.sizeOf9
  v9 := Tryd.zeroValue9
  t20 := Tryd.underlying20
  a20 := Tryd.isAgg20
  z20 := Tryd.sizeOf20
  v20 := Tryd.zeroValue20
  t37 := Tryd.underlying52
  a37 := Tryd.isAgg52
  z37 := Tryd.sizeOf52
  v37 := Tryd.zeroValue52
  t70 := Tryd.underlying83
  a70 := Tryd.isAgg83
  z70 := Tryd.sizeOf83
  v70 := Tryd.zeroValue83
  t72 := Tryd.underlying85
  a72 := Tryd.isAgg85
  z72 := Tryd.sizeOf85
  v72 := Tryd.zeroValue85
  t75 := Tryd.underlying87
  a75 := Tryd.isAgg87
  z75 := Tryd.sizeOf87
  v75 := Tryd.zeroValue87
  t164 := Tryd.underlying144
  a164 := Tryd.isAgg144
  z164 := Tryd.sizeOf144
  v164 := Tryd.zeroValue144 }
theorem Tryd.Builder_Extra_166 : Builder.Extra Tryd.prog Tryd.lays166_ren := {
  sizeBuilder := by kernel_rfl
  liesBuilder := by kernel_rfl
  t5 := Tryd.underlying5
  a5 := Tryd.isAgg5
  z5 := Tryd.sizeOf5
  v5 := Tryd.zeroValue5
  infoByte := by kernel_rfl
  cellsByte := by kernel_rfl
  sizeByte := by kernel_rfl
  neB5 := by decide }
open Go.RowKit in
theorem Tryd.Builder_WriteString_k (B b : Nat) (bs : List Value) (s : ByteArray) (w : World) (h : Lib.IsBuilderF 85 5 B b bs w) (hlen : bs.length + s.size ≤ 140737488355328) (hBw : B ≤ w.heap.size) :
    Calls Tryd.prog 97 #[.pointer (some ⟨b, 0, none⟩), .string s] w fun e w' => e = .returned (.tuple #[.int .i64 s.size, .nilIface]) ∧ (Lib.BuilderAtF 85 5 B b (.pointer (some ⟨b, 0, none⟩)) (bs ++ Lib.strCells s) w' ∧ Below B w w' ∧ Lib.OthersKept 5 (some b) w w') := Any.Builder_WriteString_k Tryd.lays166 Tryd.Builder_Extra_166 B b bs s w h hlen hBw
end Go.Proofs
end

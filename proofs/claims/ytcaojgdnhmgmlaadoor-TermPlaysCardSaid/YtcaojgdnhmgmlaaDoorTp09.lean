/- DERIVED: THE SHELF's CONTRACTS AT THIS DUMP, IN PLAIN WORDS (tools/lay-plain.mjs out of 'YtcaojgdnhmgmlaaDoorShRune.lean', which tools/lay-shelf.mjs wrote): THE SAME DECLARATIONS UNDER THE SAME NAMES: 'import', 'namespace', 'open', 'def', 'theorem' AND NOTHING ELSE: no command of the shelf's: FOR A HAND-IN. Each laying: the table of numbers ('.._ren') and one theorem, a field a fact of the dump's own or the kernel's comparison; each contract: ONE APPLICATION. · term: Print. · term, plainly: the document's digits of a number are the program's. · term: the document's text of a term, walked for each kind. -/
import Derived.Shelf.Strings.OnBuilder
import Derived.Shelf.Small.Utf8
import Derived.Shelf.Strings.BuilderK
import Derived.Shelf.Strings.BuilderRune
import Derived.Test.YtcaojgdnhmgmlaaDoorProg
import Derived.Test.YtcaojgdnhmgmlaaDoorTp08
import Derived.Laws.EntriesVeiled
import Derived.Test.YtcaojgdnhmgmlaaDoorTp07
import Derived.Deep.MidRow
set_option linter.unusedVariables false
set_option linter.unusedSimpArgs false
section
namespace Go.Proofs
open Go.Shelf
def Tryd.lays169_ren : Go.Shelf.Ren := ⟨fun | 169 => 68 | n => n, fun | 70 => 83 | 9 => 9 | 0 => 0 | 72 => 85 | 37 => 52 | 127 => 115 | 3 => 3 | 5 => 5 | n => n, fun | n => n⟩
theorem Tryd.lays169 : Go.Proofs.Lays.n169 Tryd.prog Tryd.lays169_ren := {
  mixed := by kernel_rfl
  f169 := Tryd.func68.trans (congrArg some (by kernel_rfl))
  t0 := Tryd.underlying0
  a0 := Tryd.isAgg0
  z0 := Tryd.sizeOf0
  v0 := Tryd.zeroValue0
  t3 := Tryd.underlying3
  a3 := Tryd.isAgg3
  z3 := Tryd.sizeOf3
  v3 := Tryd.zeroValue3
  t9 := Tryd.underlying9
  a9 := Tryd.isAgg9
  z9 := Tryd.sizeOf9
  v9 := Tryd.zeroValue9
  t37 := Tryd.underlying52
  a37 := Tryd.isAgg52
  z37 := Tryd.sizeOf52
  v37 := Tryd.zeroValue52
  t70 := Tryd.underlying83
  a70 := Tryd.isAgg83
  z70 := Tryd.sizeOf83
  v70 := Tryd.zeroValue83
  t72 := Tryd.underlying85
  a72 := Tryd.isAgg85
  z72 := Tryd.sizeOf85
  v72 := Tryd.zeroValue85
  t127 := Tryd.underlying115
  a127 := Tryd.isAgg115
  z127 := Tryd.sizeOf115
  v127 := Tryd.zeroValue115 }
theorem Tryd.Builder_Extra_169 : Builder.Extra Tryd.prog Tryd.lays169_ren := {
  sizeBuilder := by kernel_rfl
  liesBuilder := by kernel_rfl
  t5 := Tryd.underlying5
  a5 := Tryd.isAgg5
  z5 := Tryd.sizeOf5
  v5 := Tryd.zeroValue5
  infoByte := by kernel_rfl
  cellsByte := by kernel_rfl
  sizeByte := by kernel_rfl
  neB5 := by decide }
def Tryd.lays119_ren : Go.Shelf.Ren := ⟨fun | 119 => 66 | n => n, fun | 21 => 21 | 4 => 4 | n => n, fun | n => n⟩
theorem Tryd.lays119 : Go.Proofs.Lays.n119 Tryd.prog Tryd.lays119_ren := {
  mixed := by kernel_rfl
  f119 := Tryd.func66.trans (congrArg some (by kernel_rfl))
  t4 := Tryd.underlying4
  a4 := Tryd.isAgg4
  z4 := Tryd.sizeOf4
  v4 := Tryd.zeroValue4
  t21 := Tryd.underlying21
  a21 := Tryd.isAgg21
  z21 := Tryd.sizeOf21
  v21 := Tryd.zeroValue21 }
/-- utf8.ValidRune: "ValidRune reports whether r can be legally encoded as UTF-8. Code points that are out of range or a surrogate half are illegal.": IT RETURNS 'Lib.validRune r'; the world is as it was. (LAID: no walk: one application.) -/
theorem Tryd.utf8_ValidRune (r : Int) (w : World) :
    Calls Tryd.prog 66 #[.int .i32 r] w fun e w' => e = .returned (.bool (Lib.validRune r)) ∧ w' = w := Any.utf8_ValidRune Tryd.lays119 r w
open Go.RowKit in
/-- (*strings.Builder).String: "String returns the accumulated string.": WHATEVER THE BUILDER HOLDS; THE FORM '_k': OVER 'Lib.IsBuilderF' (a builder that 'String()' may have read), AND WITH THE FRAME THAT REACHES ABOVE THE BUILDER: 'Lib.OthersKept': every block that is not b and is no row of uint8's stands as it stood: the iterator of a range among them. (LAID: no walk: one application.) -/
theorem Tryd.Builder_String_any_k (B b : Nat) (l : List UInt8) (w : World) (h : Lib.IsBuilderF 85 5 B b (Lib.byteCells l) w) (hBw : B ≤ w.heap.size) :
    Calls Tryd.prog 68 #[.pointer (some ⟨b, 0, none⟩)] w fun e w' => e = .returned (.string ⟨l.toArray⟩) ∧ (Lib.IsBuilderF 85 5 B b (Lib.byteCells l) w' ∧ Below B w w' ∧ Lib.OthersKept 5 (some b) w w') := Any.Builder_String_any_k Tryd.lays169 Tryd.Builder_Extra_169 B b l w h hBw
def Tryd.lays168_ren : Go.Shelf.Ren := ⟨fun | 168 => 67 | 240 => 104 | 242 => 105 | 276 => 121 | 278 => 122 | n => n, fun | 37 => 52 | 46 => 94 | 51 => 146 | 70 => 83 | 72 => 85 | 75 => 87 | 164 => 144 | 80 => 90 | n => n, fun | n => n⟩
theorem Tryd.lays168 : Go.Proofs.Lays.n168 Tryd.prog Tryd.lays168_ren := {
  mixed := by kernel_rfl
  f168 := Tryd.func67.trans (congrArg some (by kernel_rfl))
  f240 := Tryd.func104.trans (congrArg some (by kernel_rfl))
  f242 := Tryd.func105.trans (congrArg some (by kernel_rfl))
  f276 := Tryd.func121.trans (congrArg some (by kernel_rfl))
  f278 := Tryd.func122.trans (congrArg some (by kernel_rfl))
  t0 := Tryd.underlying0
  a0 := Tryd.isAgg0
  z0 := Tryd.sizeOf0
  v0 := Tryd.zeroValue0
  t3 := Tryd.underlying3
  a3 := Tryd.isAgg3
  z3 := Tryd.sizeOf3
  v3 := Tryd.zeroValue3
  t4 := Tryd.underlying4
  a4 := Tryd.isAgg4
  z4 := Tryd.sizeOf4
  v4 := Tryd.zeroValue4
  t5 := Tryd.underlying5
  a5 := Tryd.isAgg5
  z5 := Tryd.sizeOf5
  v5 := Tryd.zeroValue5
  t9 := Tryd.underlying9
  a9 := Tryd.isAgg9
  z9 := Tryd.sizeOf9
  v9 := Tryd.zeroValue9
  t20 := Tryd.underlying20
  a20 := Tryd.isAgg20
  z20 := Tryd.sizeOf20
  v20 := Tryd.zeroValue20
  t21 := Tryd.underlying21
  a21 := Tryd.isAgg21
  z21 := Tryd.sizeOf21
  v21 := Tryd.zeroValue21
  t37 := Tryd.underlying52
  a37 := Tryd.isAgg52
  z37 := Tryd.sizeOf52
  v37 := Tryd.zeroValue52
  t46 := Tryd.underlying94
  a46 := Tryd.isAgg94
  z46 := Tryd.sizeOf94
  v46 := Tryd.zeroValue94
  t51 := Tryd.underlying146
  a51 := Tryd.isAgg146
  z51 := Tryd.sizeOf146
  v51 := Tryd.zeroValue146
  t70 := Tryd.underlying83
  a70 := Tryd.isAgg83
  z70 := Tryd.sizeOf83
  v70 := Tryd.zeroValue83
  t72 := Tryd.underlying85
  a72 := Tryd.isAgg85
  z72 := Tryd.sizeOf85
  v72 := Tryd.zeroValue85
  t75 := Tryd.underlying87
  a75 := Tryd.isAgg87
  z75 := Tryd.sizeOf87
  v75 := Tryd.zeroValue87
  t164 := Tryd.underlying144
  a164 := Tryd.isAgg144
  z164 := Tryd.sizeOf144
  v164 := Tryd.zeroValue144 }
theorem Tryd.Builder_Extra_168 : Builder.Extra Tryd.prog Tryd.lays168_ren := {
  sizeBuilder := by kernel_rfl
  liesBuilder := by kernel_rfl
  t5 := Tryd.underlying5
  a5 := Tryd.isAgg5
  z5 := Tryd.sizeOf5
  v5 := Tryd.zeroValue5
  infoByte := by kernel_rfl
  cellsByte := by kernel_rfl
  sizeByte := by kernel_rfl
  neB5 := by decide }
open Go.RowKit in
theorem Tryd.Builder_WriteRune_k (B b : Nat) (bs : List Value) (r : Int) (hr0 : -2147483648 ≤ r) (hr1 : r ≤ 2147483647) (w : World) (h : Lib.IsBuilderF 85 5 B b bs w) (hlen : bs.length + 4 ≤ 140737488355328) (hBw : B ≤ w.heap.size) :
    Calls Tryd.prog 67 #[.pointer (some ⟨b, 0, none⟩), .int .i32 r] w fun e w' => e = .returned (.tuple #[.int .i64 (Lib.runeCells r).length, .nilIface]) ∧ (Lib.BuilderAtF 85 5 B b (.pointer (some ⟨b, 0, none⟩)) (bs ++ Lib.runeCells r) w' ∧ Below B w w' ∧ Lib.OthersKept 5 (some b) w w') := Any.Builder_WriteRune_k Tryd.lays168 Tryd.Builder_Extra_168 B b bs r hr0 hr1 w h hlen hBw
end Go.Proofs
end
section
namespace Go.Proofs.YtcaojgdnhmgmlaaDoor.T
open Go.RowKit Go.Proofs.YtcaojgdnhmgmlaaDoor.Q Go.Proofs.YtcaojgdnhmgmlaaDoor.PTermPlays Go.Proofs.YtcaojgdnhmgmlaaDoorW.PrintWords Go.Proofs.YtcaojgdnhmgmlaaDoorW.PrintLast Go.Proofs.YtcaojgdnhmgmlaaDoorW.PrintMore
set_option linter.unusedVariables false

/-- What Print answers. -/
def printT (xs : List S104) (id : Int) : List UInt8 := if thereB xs.length id = true then (if rdOf 0 (szs xs) (id - 1) ≤ 1000 then textF xs id.toNat id else []) else []
theorem size_pos {xs : List S104} (hf : Fine xs) {id : Int} (h1 : 1 ≤ id) (h2 : id ≤ xs.length) : 1 ≤ rdOf 0 (szs xs) (id - 1) := by
  rw [size_at hf h1 h2]
  have hg : great = 1073741824 := rfl
  generalize rdOf z104 xs (id - 1) = x
  have hn1 := size_nn xs (x.f1 - 1)
  have hn2 := size_nn xs (x.f2 - 1)
  unfold szNode
  split
  · omega
  · split <;> omega
theorem PInv.start (w1 : World) (bt : Nat) : PInv w1 ((w1.alloc (.cells #[.pointer none, .slice none 0 0] 85)).alloc (.cells #[.func (.func 109) #[] #[.pointer (some ⟨bt, 0, none⟩), .pointer (some ⟨w1.heap.size, 0, none⟩), .pointer (some ⟨w1.heap.size + 1, 0, none⟩)]] 110)) bt [] :=
  ⟨ba (alloc_below w1 _) _, alloc2 _ _ _, builder_below (Lib.IsBuilderF.of (Lib.fresh_isBuilder 85 5 w1)) (alloc_below _ _)⟩
set_option maxRecDepth 100000 in
set_option maxHeartbeats 4000000 in
theorem print_calls (w : World) (id : Int) (tb : Nat) (At Bt : Option Addr) (ct cb : Nat) (xs : List S104) (hn : xs.length < 100000) (hf : Fine xs) (ht : w.cell? ⟨tb, 0, none⟩ = some (.slice At xs.length ct)) (hs : w.cell? ⟨tb, 1, none⟩ = some (.slice Bt xs.length cb))
    (hr : nodeK.C w At xs.length xs) (hrs : Kd.C (Kd.int .i64) w Bt (szs xs).length (szs xs)) (hL : LaidN w) :
    Calls Tryd.prog 77 #[.pointer (some ⟨tb, 0, none⟩), .int .i64 id] w fun e w' => e = .returned (.string ⟨(printT xs id).toArray⟩) ∧ Below w.heap.size w w' := by
  have hbox := alloc_below w (.cells #[.pointer (some ⟨tb, 0, none⟩)] 61)
  have hcell := alloc_cell w (.pointer (some ⟨tb, 0, none⟩)) 61
  have HS : Aside0 (Calls Tryd.prog 91 #[.pointer (some ⟨tb, 0, none⟩), .int .i64 id] (w.alloc (.cells #[.pointer (some ⟨tb, 0, none⟩)] 61)) fun e w' => e = .returned (.int .i64 (if thereB xs.length id = true then rdOf 0 (szs xs) (id - 1) else 0)) ∧ Below w.heap.size w w' ∧ Below (w.alloc (.cells #[.pointer (some ⟨tb, 0, none⟩)] 61)).heap.size (w.alloc (.cells #[.pointer (some ⟨tb, 0, none⟩)] 61)) w') :=
    ⟨(size_calls _ id tb At Bt xs.length ct cb (szs xs) (by omega) (szs_length xs) (below_cell hbox ht) (below_cell hbox hs) (Kd.C_below hrs hbox)).mono fun e w' ⟨h1, h2⟩ => ⟨h1, below_step hbox h2, h2⟩⟩
  unfold printT
  cases hq : thereB xs.length id
  · rw [hq, if_neg (by decide)] at HS
    rw [if_neg (by decide)]
    clear ht hs hr hrs hL hq hf hn hbox
    go_enter Tryd.func77, Tryd.ntmps77
    go_wp2_with fail
    refine HS.out.mono ?_
    rintro e w1 ⟨rfl, hb, hb2⟩
    have HB := Aside0.mk hb
    clear hb hb2
    go_wp2_with fail
    go_ret
    exact ⟨rfl, HB.out⟩
  · rw [hq, if_pos rfl] at HS
    rw [if_pos rfl]
    obtain ⟨h1, h2⟩ := thereB_no hq
    have hp := size_pos hf h1 h2
    have HWr : Aside0 (∀ w1, Below (w.alloc (.cells #[.pointer (some ⟨tb, 0, none⟩)] 61)).heap.size (w.alloc (.cells #[.pointer (some ⟨tb, 0, none⟩)] 61)) w1 → WriteC w1 w.heap.size xs id.toNat) :=
      ⟨fun w1 hb => write_all w1 w.heap.size tb At ct xs (PTab.below (w0 := w.alloc (.cells #[.pointer (some ⟨tb, 0, none⟩)] 61)) ⟨hcell, below_cell hbox ht, Kd.C_below hr hbox, hL.below hbox, hn, hf⟩ hb) id.toNat⟩
    have HLn := Aside0.mk (fun h => textF_len hn hf id.toNat id h1 h2 h)
    by_cases hw : rdOf 0 (szs xs) (id - 1) ≤ 1000
    · rw [if_pos hw]
      have hln := HLn.out hw
      have HC : Aside0 (∀ w1 W, Below (w.alloc (.cells #[.pointer (some ⟨tb, 0, none⟩)] 61)).heap.size (w.alloc (.cells #[.pointer (some ⟨tb, 0, none⟩)] 61)) w1 → PInv w1 W w.heap.size [] →
          Calls Tryd.prog 109 #[.int .i64 id, .pointer (some ⟨w.heap.size, 0, none⟩), .pointer (some ⟨w1.heap.size, 0, none⟩), .pointer (some ⟨w1.heap.size + 1, 0, none⟩)] W fun e w' => e = .returned (.tuple #[]) ∧ PInv w1 w' w.heap.size (textF xs id.toNat id)) :=
        ⟨fun w1 W hb hP => (HWr.out w1 hb id W [] h1 h2 (by omega) hw (by rw [List.length_nil]; omega) hP).mono fun e w' ⟨h1, h2, _⟩ => ⟨h1, by simpa using h2⟩⟩
      generalize textF xs id.toNat id = tx at HC ⊢
      generalize rdOf 0 (szs xs) (id - 1) = sz at HS hp hw
      have e1 : (sz == 0) = false := by simpa using (show ¬ sz = 0 by omega)
      have e2 : decide (sz > 1000) = false := decide_eq_false (by omega)
      have e3 : decide (1000 < sz) = false := decide_eq_false (by omega)
      clear ht hs hr hrs hL hq hf hn hbox HWr HLn hln hw hp h1 h2
      go_enter Tryd.func77, Tryd.ntmps77
      go_wp2_with fail
      refine HS.out.mono ?_
      rintro e w1 ⟨rfl, hb, hb2⟩
      have HB := Aside0.mk hb
      have HB2 := Aside0.mk hb2
      clear hb hb2
      go_wp2_with fail
      refine (HC.out w1 _ HB2.out (PInv.start w1 w.heap.size)).mono ?_
      rintro e w2 ⟨rfl, hp2⟩
      have HP2 := Aside0.mk hp2
      clear hp2
      go_wp2_with fail
      refine (Tryd.Builder_String_any_k w1.heap.size w1.heap.size tx w2 HP2.out.bu HP2.out.bel.size).mono ?_
      rintro e w3 ⟨rfl, _, b3, _⟩
      have HB3 := Aside0.mk (below_step HB.out (HP2.out.bel.trans b3))
      clear b3
      go_wp2_with fail
      go_ret
      exact ⟨rfl, HB3.out⟩
    · rw [if_neg hw]
      generalize rdOf 0 (szs xs) (id - 1) = sz at HS hp hw
      have e1 : (sz == 0) = false := by simpa using (show ¬ sz = 0 by omega)
      have e2 : decide (sz > 1000) = true := decide_eq_true (by omega)
      have e3 : decide (1000 < sz) = true := decide_eq_true (by omega)
      clear ht hs hr hrs hL hq hf hn hbox HWr HLn hp hw h1 h2
      go_enter Tryd.func77, Tryd.ntmps77
      go_wp2_with fail
      refine HS.out.mono ?_
      rintro e w1 ⟨rfl, hb, hb2⟩
      have HB := Aside0.mk hb
      clear hb hb2
      go_wp2_with fail
      go_ret
      exact ⟨rfl, HB.out⟩
end Go.Proofs.YtcaojgdnhmgmlaaDoor.T
end
section
namespace Go.Proofs.YtcaojgdnhmgmlaaDoor.T
open Go.RowKit Go.Proofs.YtcaojgdnhmgmlaaDoor.PTermPlays Go.Proofs.YtcaojgdnhmgmlaaDoorW.PrintWords Go.Proofs.YtcaojgdnhmgmlaaDoorW.PrintLast
set_option linter.unusedVariables false
set_option linter.unusedSimpArgs false
theorem wrap_small (x : Int) (h : -9223372036854775808 ≤ x) (h2 : x ≤ 9223372036854775807) : wrap64 x = x := by
  unfold wrap64
  omega
theorem dec_one (u : Nat) (h : u < 10) : Lib.decDigits u = [UInt8.ofNat (48 + u)] := by
  unfold Lib.decDigits
  rw [dif_pos h]
theorem dec_more (u : Nat) (h : ¬ u < 10) : Lib.decDigits u = Lib.decDigits (u / 10) ++ [UInt8.ofNat (48 + u % 10)] := by
  conv => lhs; unfold Lib.decDigits
  rw [dif_neg h]
theorem refprint_nat (k : Nat) : ∀ u : Nat, u < 10 ^ (k + 1) → u ≤ 9223372036854775807 → oublietteref01_Print.f (k + 1) (u : Int) = some ⟨(Lib.decDigits u).toArray⟩ := by
  induction k with
  | zero =>
    intro u hu _
    rw [oublietteref01_Print.f, if_neg (by omega), if_pos (by omega), wrap_small _ (by omega) (by omega)]
    rw [dec_one u (by omega)]
    unfold strOfNums
    have : ((48 + (u : Int)) % 256).toNat = 48 + u := by omega
    simp [this]
  | succ k ih =>
    intro u hu hmax
    rw [oublietteref01_Print.f, if_neg (by omega)]
    by_cases h10 : u < 10
    · rw [if_pos (by omega), wrap_small _ (by omega) (by omega)]
      rw [dec_one u h10]
      unfold strOfNums
      have : ((48 + (u : Int)) % 256).toNat = 48 + u := by omega
      simp [this]
    · rw [if_neg (by omega), Int.tdiv_eq_ediv_of_nonneg (by omega), Int.tmod_eq_emod_of_nonneg (by omega)]
      have hp : 10 ^ (k + 2) = 10 * 10 ^ (k + 1) := by rw [Nat.pow_succ, Nat.mul_comm]
      have hp1 : 10 ≤ 10 ^ (k + 1) := by rw [Nat.pow_succ]; have := Nat.pow_pos (n := k) (show 0 < 10 by omega); omega
      have e1 : wrap64 ((u : Int) / 10) = ((u / 10 : Nat) : Int) := by rw [wrap_small _ (by omega) (by omega)]; omega
      have e2 : (u : Int) % 10 = ((u % 10 : Nat) : Int) := by omega
      have h1 : u / 10 < 10 ^ (k + 1) := by
        have : u < 10 * 10 ^ (k + 1) := by rw [← hp]; exact hu
        omega
      rw [e1, e2, ih (u / 10) h1 (by omega), Option.bind_some, ih (u % 10) (by omega) (by omega), Option.bind_some]
      have l1 := Lib.itoa_length_le ((u / 10 : Nat) : Int) (by omega) (by omega)
      have l2 := Lib.itoa_length_le ((u % 10 : Nat) : Int) (by omega) (by omega)
      unfold Lib.itoa at l1 l2
      rw [if_neg (by omega), Int.toNat_natCast] at l1 l2
      have s1 : (ByteArray.mk (Lib.decDigits (u / 10)).toArray).size = (Lib.decDigits (u / 10)).length := by simp [ByteArray.size]
      have s2 : (ByteArray.mk (Lib.decDigits (u % 10)).toArray).size = (Lib.decDigits (u % 10)).length := by simp [ByteArray.size]
      rw [if_pos (by rw [s1, s2]; omega)]
      rw [dec_more u h10, dec_one (u % 10) (by omega)]
      congr 1

theorem refprint_ev (n : Int) (h : n ≤ 9223372036854775807) : ∀ k, 20 ≤ k → oublietteref01_Print.f k n = some (if n < 0 then ⟨#[]⟩ else ⟨(Lib.itoa n).toArray⟩) := by
  intro k hk
  obtain ⟨k, rfl⟩ : ∃ m, k = m + 1 := ⟨k - 1, by omega⟩
  by_cases hn : n < 0
  · rw [oublietteref01_Print.f, if_pos hn, if_pos hn]
  · obtain ⟨u, rfl⟩ := Int.eq_ofNat_of_zero_le (show 0 ≤ n by omega)
    rw [if_neg hn, refprint_nat k u ?_ (by omega)]
    · unfold Lib.itoa
      rw [if_neg (by omega), Int.toNat_natCast]
    · have h1 : u < 10 ^ 20 := Nat.lt_of_le_of_lt (show u ≤ 9223372036854775807 by omega) (by decide)
      exact Nat.lt_of_lt_of_le h1 (Nat.pow_le_pow_right (by omega) (by omega))
end Go.Proofs.YtcaojgdnhmgmlaaDoor.T
end
section
namespace Go.Proofs.YtcaojgdnhmgmlaaDoor.T
open Go.RowKit Go.Proofs.YtcaojgdnhmgmlaaDoor.Q Go.Proofs.YtcaojgdnhmgmlaaDoor.PTermPlays Go.Proofs.YtcaojgdnhmgmlaaDoorW.PrintWords Go.Proofs.YtcaojgdnhmgmlaaDoorW.PrintLast Go.Proofs.YtcaojgdnhmgmlaaDoorW.PrintMore
set_option linter.unusedVariables false
set_option linter.unusedSimpArgs false

/-- The box of a term, behind its laying. -/
theorem box_cells (w : World) (x : S104) : (w.alloc (.cells #[.int .i64 x.f0, .int .i64 x.f1, .int .i64 x.f2, .string x.f3, .int .i64 x.f4] 104)).cell? ⟨w.heap.size, 1, none⟩ = some (.int .i64 x.f1) ∧
    (w.alloc (.cells #[.int .i64 x.f0, .int .i64 x.f1, .int .i64 x.f2, .string x.f3, .int .i64 x.f4] 104)).cell? ⟨w.heap.size, 2, none⟩ = some (.int .i64 x.f2) ∧
    (w.alloc (.cells #[.int .i64 x.f0, .int .i64 x.f1, .int .i64 x.f2, .string x.f3, .int .i64 x.f4] 104)).cell? ⟨w.heap.size, 3, none⟩ = some (.string x.f3) := by
  have h := heap_alloc_new w (.cells #[.int .i64 x.f0, .int .i64 x.f1, .int .i64 x.f2, .string x.f3, .int .i64 x.f4] 104)
  unfold World.cell?
  rw [h]
  exact ⟨rfl, rfl, rfl⟩
/-- What the document's text function does at ids up to k. -/
def RTextC (xs : List S104) (k : Nat) : Prop :=
  ∀ (id : Int) (w : World) (A0 : Option Addr) (c0 : Nat), Kd.C k104 w A0 xs.length xs → 1 ≤ id → id ≤ xs.length → id ≤ k → rdOf 0 (szs xs) (id - 1) ≤ 1000 →
    Calls Tryd.prog 114 #[.slice A0 xs.length c0, .int .i64 id] w fun e w' => e = .returned (.string ⟨(textF xs k id).toArray⟩) ∧ Below w.heap.size w w'
set_option maxRecDepth 100000 in
set_option maxHeartbeats 4000000 in
theorem rtext1 (xs : List S104) (hn : xs.length < 100000) (hf : Fine xs) (k : Nat) (hC : RTextC xs k) (id : Int) (w : World) (A0 : Option Addr) (c0 : Nat) (hr : Kd.C k104 w A0 xs.length xs) (h1 : 1 ≤ id) (h2 : id ≤ xs.length) (hk : id ≤ k + 1)
    (hs : rdOf 0 (szs xs) (id - 1) ≤ 1000) (c : (rdOf z104 xs (id - 1)).f0 = 1) :
    Calls Tryd.prog 114 #[.slice A0 xs.length c0, .int .i64 id] w fun e w' => e = .returned (.string ⟨(textF xs (k + 1) id).toArray⟩) ∧ Below w.heap.size w w' := by
  obtain ⟨hx, hid⟩ := rd_fine hf h1 h2
  have hp := size_parts hf h1 h2 hs
  have hlen := textF_len hn hf (k + 1) id h1 h2 hs
  obtain ⟨ji, hji⟩ : ∃ ji, id - 1 = ji := ⟨_, rfl⟩
  have hw : IntKind.i64.wrap (id - 1) = ji := by rw [← hji]; exact wr64' _ (by omega) (by omega)
  have hw2 : wrap64 (id - 1) = ji := by unfold wrap64; omega
  have p0 : (0 : Int) ≤ ji := by omega
  have p1 : ji < (xs.length : Int) := by omega
  have q0 : decide (0 ≤ ji) = true := decide_eq_true p0
  have q1 : decide (ji < (xs.length : Int)) = true := decide_eq_true p1
  obtain ⟨ad, ea, hx0, hx1, hx2, hx3, hx4⟩ := at_T104 hr ji p0 p1
  cases ea
  unfold textF at hlen ⊢
  rw [if_pos c] at hlen ⊢
  rw [show rd_T104 xs ji = rdOf z104 xs ji from rfl] at hx0 hx1 hx2 hx3 hx4
  rw [hji] at c hx hp hlen ⊢
  rw [show rdOf 0 (szs xs) ji = rdOf 0 (szs xs) (id - 1) by rw [hji]] at hlen
  generalize rdOf z104 xs ji = x at c hx hp hlen hx0 hx1 hx2 hx3 hx4 ⊢
  have hsh : x.f3.data.toList.length ≤ 40 := by rw [Array.length_toList]; exact hx.short
  have e1 : (x.f0 == 1) = true := by rw [c]; rfl
  have hat := hx.atom c
  generalize x.f4 = n at hat hx4 ⊢
  have hil : (Lib.itoa n).length ≤ 21 := Lib.itoa_length_le n (by omega) (by omega)
  have hbl := alloc_below w (.cells #[.int .i64 x.f0, .int .i64 x.f1, .int .i64 x.f2, .string x.f3, .int .i64 n] 104)
  have HP : Aside0 (Calls Tryd.prog 40 #[.int .i64 n] (w.alloc (.cells #[.int .i64 x.f0, .int .i64 x.f1, .int .i64 x.f2, .string x.f3, .int .i64 n] 104)) fun e w' => e = .returned (.string ⟨(Lib.itoa n).toArray⟩) ∧ Below w.heap.size w w') :=
    ⟨(oublietteref01_Print.calls 20 n ⟨(Lib.itoa n).toArray⟩ _ (by rw [refprint_ev n (by omega) 20 (Nat.le_refl _), if_neg (by omega)])).mono fun e w' ⟨a, b⟩ => ⟨a, below_step hbl b⟩⟩
  have a1 : ∀ W, (Op.stringOp .add ⟨#[97]⟩ ⟨(Lib.itoa n).toArray⟩).run Tryd.prog W = .ok (.string ⟨(97 :: Lib.itoa n).toArray⟩) W := fun W => run_string_add_lists W [97] (Lib.itoa n) (by simp) (by omega)
  generalize 97 :: Lib.itoa n = u at a1 ⊢
  clear hr hx hp hs hC hf hlen hid hk h1 h2 hji hsh c hat hil hbl
  go_enter Tryd.func114, Tryd.ntmps114
  go_wp2_with fail
  refine HP.out.mono ?_
  rintro e w1 ⟨rfl, hb⟩
  have HB := Aside0.mk hb
  clear hb
  go_wp2_with fail
  go_ret
  exact ⟨rfl, HB.out⟩
set_option maxRecDepth 100000 in
set_option maxHeartbeats 4000000 in
theorem rtext2 (xs : List S104) (hn : xs.length < 100000) (hf : Fine xs) (k : Nat) (hC : RTextC xs k) (id : Int) (w : World) (A0 : Option Addr) (c0 : Nat) (hr : Kd.C k104 w A0 xs.length xs) (h1 : 1 ≤ id) (h2 : id ≤ xs.length) (hk : id ≤ k + 1)
    (hs : rdOf 0 (szs xs) (id - 1) ≤ 1000) (c : (rdOf z104 xs (id - 1)).f0 = 2) :
    Calls Tryd.prog 114 #[.slice A0 xs.length c0, .int .i64 id] w fun e w' => e = .returned (.string ⟨(textF xs (k + 1) id).toArray⟩) ∧ Below w.heap.size w w' := by
  obtain ⟨hx, hid⟩ := rd_fine hf h1 h2
  have hp := size_parts hf h1 h2 hs
  have hlen := textF_len hn hf (k + 1) id h1 h2 hs
  obtain ⟨ji, hji⟩ : ∃ ji, id - 1 = ji := ⟨_, rfl⟩
  have hw : IntKind.i64.wrap (id - 1) = ji := by rw [← hji]; exact wr64' _ (by omega) (by omega)
  have hw2 : wrap64 (id - 1) = ji := by unfold wrap64; omega
  have p0 : (0 : Int) ≤ ji := by omega
  have p1 : ji < (xs.length : Int) := by omega
  have q0 : decide (0 ≤ ji) = true := decide_eq_true p0
  have q1 : decide (ji < (xs.length : Int)) = true := decide_eq_true p1
  obtain ⟨ad, ea, hx0, hx1, hx2, hx3, hx4⟩ := at_T104 hr ji p0 p1
  cases ea
  unfold textF at hlen ⊢
  rw [if_neg (by omega), if_pos c] at hlen ⊢
  rw [show rd_T104 xs ji = rdOf z104 xs ji from rfl] at hx0 hx1 hx2 hx3 hx4
  rw [hji] at c hx hp hlen ⊢
  rw [show rdOf 0 (szs xs) ji = rdOf 0 (szs xs) (id - 1) by rw [hji]] at hlen
  generalize rdOf z104 xs ji = x at c hx hp hlen hx0 hx1 hx2 hx3 hx4 ⊢
  have hsh : x.f3.data.toList.length ≤ 40 := by rw [Array.length_toList]; exact hx.short
  have e1 : (x.f0 == 1) = false := by rw [c]; rfl
  have e2 : (x.f0 == 2) = true := by rw [c]; rfl
  have a1 : ∀ W, (Op.stringOp .add ⟨#[39]⟩ x.f3).run Tryd.prog W = .ok (.string ⟨(39 :: x.f3.data.toList).toArray⟩) W := fun W => run_string_add_lists W [39] x.f3.data.toList (by simp) (by omega)
  have a2 : ∀ W, (Op.stringOp .add ⟨(39 :: x.f3.data.toList).toArray⟩ ⟨#[39]⟩).run Tryd.prog W = .ok (.string ⟨(39 :: (x.f3.data.toList ++ [39])).toArray⟩) W := fun W => run_string_add_lists W (39 :: x.f3.data.toList) [39] (by rw [List.length_cons]; omega) (by simp)
  obtain ⟨u1, hu1⟩ : ∃ u, 39 :: x.f3.data.toList = u := ⟨_, rfl⟩
  obtain ⟨u2, hu2⟩ : ∃ u, 39 :: (x.f3.data.toList ++ [39]) = u := ⟨_, rfl⟩
  rw [hu1] at a1 a2
  rw [hu2] at a2 ⊢
  have HBl := Aside0.mk (alloc_below w (.cells #[.int .i64 x.f0, .int .i64 x.f1, .int .i64 x.f2, .string x.f3, .int .i64 x.f4] 104))
  clear hr hx hp hs hC hf hlen hid hk h1 h2 hji hsh c hu1 hu2
  go_enter Tryd.func114, Tryd.ntmps114
  go_wp2_with fail
  go_ret
  exact ⟨rfl, HBl.out⟩
set_option maxRecDepth 100000 in
set_option maxHeartbeats 4000000 in
theorem rtext3 (xs : List S104) (hn : xs.length < 100000) (hf : Fine xs) (k : Nat) (hC : RTextC xs k) (id : Int) (w : World) (A0 : Option Addr) (c0 : Nat) (hr : Kd.C k104 w A0 xs.length xs) (h1 : 1 ≤ id) (h2 : id ≤ xs.length) (hk : id ≤ k + 1)
    (hs : rdOf 0 (szs xs) (id - 1) ≤ 1000) (c : (rdOf z104 xs (id - 1)).f0 = 3) :
    Calls Tryd.prog 114 #[.slice A0 xs.length c0, .int .i64 id] w fun e w' => e = .returned (.string ⟨(textF xs (k + 1) id).toArray⟩) ∧ Below w.heap.size w w' := by
  obtain ⟨hx, hid⟩ := rd_fine hf h1 h2
  have hp := size_parts hf h1 h2 hs
  have hlen := textF_len hn hf (k + 1) id h1 h2 hs
  obtain ⟨ji, hji⟩ : ∃ ji, id - 1 = ji := ⟨_, rfl⟩
  have hw : IntKind.i64.wrap (id - 1) = ji := by rw [← hji]; exact wr64' _ (by omega) (by omega)
  have hw2 : wrap64 (id - 1) = ji := by unfold wrap64; omega
  have p0 : (0 : Int) ≤ ji := by omega
  have p1 : ji < (xs.length : Int) := by omega
  have q0 : decide (0 ≤ ji) = true := decide_eq_true p0
  have q1 : decide (ji < (xs.length : Int)) = true := decide_eq_true p1
  obtain ⟨ad, ea, hx0, hx1, hx2, hx3, hx4⟩ := at_T104 hr ji p0 p1
  cases ea
  unfold textF at hlen ⊢
  rw [if_neg (by omega), if_neg (by omega), if_pos c] at hlen ⊢
  rw [show rd_T104 xs ji = rdOf z104 xs ji from rfl] at hx0 hx1 hx2 hx3 hx4
  rw [hji] at c hx hp hlen ⊢
  rw [show rdOf 0 (szs xs) ji = rdOf 0 (szs xs) (id - 1) by rw [hji]] at hlen
  generalize rdOf z104 xs ji = x at c hx hp hlen hx0 hx1 hx2 hx3 hx4 ⊢
  have hsh : x.f3.data.toList.length ≤ 40 := by rw [Array.length_toList]; exact hx.short
  have e1 : (x.f0 == 1) = false := by rw [c]; rfl
  have e2 : (x.f0 == 2) = false := by rw [c]; rfl
  have e3 : (x.f0 == 3) = true := by rw [c]; rfl
  have ho := hx.one (by omega)
  have HC : Aside0 (∀ w1, Below w.heap.size w w1 → Calls Tryd.prog 114 #[.slice (some ad) xs.length c0, .int .i64 x.f1] w1 fun e w' => e = .returned (.string ⟨(textF xs k x.f1).toArray⟩) ∧ Below w1.heap.size w1 w') :=
    ⟨fun w1 hb => hC x.f1 w1 (some ad) c0 (Kd.C_below hr hb) ho.1 (by omega) (by omega) (hp.1 (by omega))⟩
  generalize textF xs k x.f1 = t at hlen HC ⊢
  simp only [List.length_append, List.length_cons, List.length_nil, wordOf_len] at hlen
  obtain ⟨u1, hu1⟩ : ∃ u, [107, 100, 102, 40] ++ t = u := ⟨_, rfl⟩
  obtain ⟨u2, hu2⟩ : ∃ u, u1 ++ [44] = u := ⟨_, rfl⟩
  obtain ⟨u3, hu3⟩ : ∃ u, u2 ++ x.f3.data.toList = u := ⟨_, rfl⟩
  obtain ⟨u4, hu4⟩ : ∃ u, u3 ++ [41] = u := ⟨_, rfl⟩
  have l1 : u1.length = 4 + t.length := by rw [← hu1]; simp; omega
  have l2 : u2.length = 5 + t.length := by rw [← hu2, List.length_append]; simp; omega
  have l3 : u3.length = 5 + t.length + (x.f3.data.toList).length := by rw [← hu3, List.length_append]; omega
  have a1 : ∀ W, (Op.stringOp .add ⟨#[107, 100, 102, 40]⟩ ⟨t.toArray⟩).run Tryd.prog W = .ok (.string ⟨u1.toArray⟩) W := fun W => by rw [← hu1]; exact run_string_add_lists W [107, 100, 102, 40] t (by simp) (by omega)
  have a2 : ∀ W, (Op.stringOp .add ⟨u1.toArray⟩ ⟨#[44]⟩).run Tryd.prog W = .ok (.string ⟨u2.toArray⟩) W := fun W => by rw [← hu2]; exact run_string_add_lists W u1 [44] (by omega) (by simp)
  have a3 : ∀ W, (Op.stringOp .add ⟨u2.toArray⟩ x.f3).run Tryd.prog W = .ok (.string ⟨u3.toArray⟩) W := fun W => by rw [← hu3]; exact run_string_add_lists W u2 (x.f3.data.toList) (by omega) (by omega)
  have a4 : ∀ W, (Op.stringOp .add ⟨u3.toArray⟩ ⟨#[41]⟩).run Tryd.prog W = .ok (.string ⟨u4.toArray⟩) W := fun W => by rw [← hu4]; exact run_string_add_lists W u3 [41] (by omega) (by simp)
  have HE : Aside0 (wordOf 3 ++ 40 :: (t ++ 44 :: (x.f3.data.toList ++ [41])) = u4) := ⟨by rw [← hu4, ← hu3, ← hu2, ← hu1, wordOf]; simp⟩
  rw [HE.out]
  clear hu1 hu2 hu3 hu4 l1 l2 l3
  clear hr hx hp hs hC hf hlen hid ho hk h1 h2 hji hsh c
  go_enter Tryd.func114, Tryd.ntmps114
  go_wp2_with fail
  have hbx := box_cells w x
  have hbl := alloc_below w (.cells #[.int .i64 x.f0, .int .i64 x.f1, .int .i64 x.f2, .string x.f3, .int .i64 x.f4] 104)
  generalize w.alloc (.cells #[.int .i64 x.f0, .int .i64 x.f1, .int .i64 x.f2, .string x.f3, .int .i64 x.f4] 104) = w1 at hbx hbl ⊢
  have HS := Aside0.mk (show Below w.heap.size w w1.drew ∧ w1.drew.cell? ⟨w.heap.size, 1, none⟩ = some (.int .i64 x.f1) ∧ w1.drew.cell? ⟨w.heap.size, 3, none⟩ = some (.string x.f3) from ⟨below_drew hbl, hbx.1, hbx.2.2⟩)
  clear hbx hbl hx0 hx1 hx2 hx3 hx4
  go_region_held3 (fun W => Below w.heap.size w W ∧ W.cell? ⟨w.heap.size, 1, none⟩ = some (.int .i64 x.f1) ∧ W.cell? ⟨w.heap.size, 3, none⟩ = some (.string x.f3))
    (first | exact HS.out | (go_split_ands; exact ⟨below_step (by assumption) hb, below_cell hb (by assumption), below_cell hb (by assumption)⟩))
    (first | (go_at_call 114; (with_reducible refine (HC.out _ ?_).mono ?_); (go_split_ands; assumption); rintro e w' ⟨rfl, hb⟩))
  rename_i hH
  have HB := Aside0.mk hH.1
  clear hH
  go_wp2_with fail
  go_ret
  exact ⟨rfl, HB.out⟩
set_option maxRecDepth 100000 in
set_option maxHeartbeats 4000000 in
theorem rtext4 (xs : List S104) (hn : xs.length < 100000) (hf : Fine xs) (k : Nat) (hC : RTextC xs k) (id : Int) (w : World) (A0 : Option Addr) (c0 : Nat) (hr : Kd.C k104 w A0 xs.length xs) (h1 : 1 ≤ id) (h2 : id ≤ xs.length) (hk : id ≤ k + 1)
    (hs : rdOf 0 (szs xs) (id - 1) ≤ 1000) (c : (rdOf z104 xs (id - 1)).f0 = 4) :
    Calls Tryd.prog 114 #[.slice A0 xs.length c0, .int .i64 id] w fun e w' => e = .returned (.string ⟨(textF xs (k + 1) id).toArray⟩) ∧ Below w.heap.size w w' := by
  obtain ⟨hx, hid⟩ := rd_fine hf h1 h2
  have hp := size_parts hf h1 h2 hs
  have hlen := textF_len hn hf (k + 1) id h1 h2 hs
  obtain ⟨ji, hji⟩ : ∃ ji, id - 1 = ji := ⟨_, rfl⟩
  have hw : IntKind.i64.wrap (id - 1) = ji := by rw [← hji]; exact wr64' _ (by omega) (by omega)
  have hw2 : wrap64 (id - 1) = ji := by unfold wrap64; omega
  have p0 : (0 : Int) ≤ ji := by omega
  have p1 : ji < (xs.length : Int) := by omega
  have q0 : decide (0 ≤ ji) = true := decide_eq_true p0
  have q1 : decide (ji < (xs.length : Int)) = true := decide_eq_true p1
  obtain ⟨ad, ea, hx0, hx1, hx2, hx3, hx4⟩ := at_T104 hr ji p0 p1
  cases ea
  unfold textF at hlen ⊢
  rw [if_neg (by omega), if_neg (by omega), if_neg (by omega)] at hlen ⊢
  rw [show rd_T104 xs ji = rdOf z104 xs ji from rfl] at hx0 hx1 hx2 hx3 hx4
  rw [hji] at c hx hp hlen ⊢
  rw [show rdOf 0 (szs xs) ji = rdOf 0 (szs xs) (id - 1) by rw [hji]] at hlen
  generalize rdOf z104 xs ji = x at c hx hp hlen hx0 hx1 hx2 hx3 hx4 ⊢
  have hsh : x.f3.data.toList.length ≤ 40 := by rw [Array.length_toList]; exact hx.short
  have e1 : (x.f0 == 1) = false := by rw [c]; rfl
  have e2 : (x.f0 == 2) = false := by rw [c]; rfl
  have e3 : (x.f0 == 3) = false := by rw [c]; rfl
  have e4 : (x.f0 == 4) = true := by rw [c]; rfl
  have ho := hx.one (by omega)
  have HC : Aside0 (∀ w1, Below w.heap.size w w1 → Calls Tryd.prog 114 #[.slice (some ad) xs.length c0, .int .i64 x.f1] w1 fun e w' => e = .returned (.string ⟨(textF xs k x.f1).toArray⟩) ∧ Below w1.heap.size w1 w') :=
    ⟨fun w1 hb => hC x.f1 w1 (some ad) c0 (Kd.C_below hr hb) ho.1 (by omega) (by omega) (hp.1 (by omega))⟩
  have ht := hx.two (by omega)
  have HC2 : Aside0 (∀ w1, Below w.heap.size w w1 → Calls Tryd.prog 114 #[.slice (some ad) xs.length c0, .int .i64 x.f2] w1 fun e w' => e = .returned (.string ⟨(textF xs k x.f2).toArray⟩) ∧ Below w1.heap.size w1 w') :=
    ⟨fun w1 hb => hC x.f2 w1 (some ad) c0 (Kd.C_below hr hb) ht.1 (by omega) (by omega) (hp.2 (by omega))⟩
  obtain ⟨t, htt⟩ : ∃ t, textF xs k x.f1 = t := ⟨_, rfl⟩
  obtain ⟨y, hty⟩ : ∃ y, textF xs k x.f2 = y := ⟨_, rfl⟩
  rw [htt] at HC hlen ⊢
  rw [hty] at HC2 hlen ⊢
  rw [c] at hlen ⊢
  simp only [List.length_append, List.length_cons, List.length_nil, wordOf_len] at hlen
  obtain ⟨u1, hu1⟩ : ∃ u, [109, 105, 120, 40] ++ t = u := ⟨_, rfl⟩
  obtain ⟨u2, hu2⟩ : ∃ u, u1 ++ [44] = u := ⟨_, rfl⟩
  obtain ⟨u3, hu3⟩ : ∃ u, u2 ++ y = u := ⟨_, rfl⟩
  obtain ⟨u4, hu4⟩ : ∃ u, u3 ++ [41] = u := ⟨_, rfl⟩
  have l1 : u1.length = 4 + t.length := by rw [← hu1]; simp; omega
  have l2 : u2.length = 5 + t.length := by rw [← hu2, List.length_append]; simp; omega
  have l3 : u3.length = 5 + t.length + (y).length := by rw [← hu3, List.length_append]; omega
  have a1 : ∀ W, (Op.stringOp .add ⟨#[109, 105, 120, 40]⟩ ⟨t.toArray⟩).run Tryd.prog W = .ok (.string ⟨u1.toArray⟩) W := fun W => by rw [← hu1]; exact run_string_add_lists W [109, 105, 120, 40] t (by simp) (by omega)
  have a2 : ∀ W, (Op.stringOp .add ⟨u1.toArray⟩ ⟨#[44]⟩).run Tryd.prog W = .ok (.string ⟨u2.toArray⟩) W := fun W => by rw [← hu2]; exact run_string_add_lists W u1 [44] (by omega) (by simp)
  have a3 : ∀ W, (Op.stringOp .add ⟨u2.toArray⟩ ⟨y.toArray⟩).run Tryd.prog W = .ok (.string ⟨u3.toArray⟩) W := fun W => by rw [← hu3]; exact run_string_add_lists W u2 (y) (by omega) (by omega)
  have a4 : ∀ W, (Op.stringOp .add ⟨u3.toArray⟩ ⟨#[41]⟩).run Tryd.prog W = .ok (.string ⟨u4.toArray⟩) W := fun W => by rw [← hu4]; exact run_string_add_lists W u3 [41] (by omega) (by simp)
  have HE : Aside0 (wordOf 4 ++ 40 :: (t ++ 44 :: (y ++ [41])) = u4) := ⟨by rw [← hu4, ← hu3, ← hu2, ← hu1, wordOf]; simp⟩
  rw [HE.out]
  clear hu1 hu2 hu3 hu4 l1 l2 l3
  clear hr hx hp hs hC hf hlen hid ho hk h1 h2 hji hsh c ht htt hty
  go_enter Tryd.func114, Tryd.ntmps114
  go_wp2_with fail
  have hbx := box_cells w x
  have hbl := alloc_below w (.cells #[.int .i64 x.f0, .int .i64 x.f1, .int .i64 x.f2, .string x.f3, .int .i64 x.f4] 104)
  generalize w.alloc (.cells #[.int .i64 x.f0, .int .i64 x.f1, .int .i64 x.f2, .string x.f3, .int .i64 x.f4] 104) = w1 at hbx hbl ⊢
  have HS := Aside0.mk (show Below w.heap.size w w1.drew ∧ w1.drew.cell? ⟨w.heap.size, 1, none⟩ = some (.int .i64 x.f1) ∧ w1.drew.cell? ⟨w.heap.size, 2, none⟩ = some (.int .i64 x.f2) from ⟨below_drew hbl, hbx.1, hbx.2.1⟩)
  clear hbx hbl hx0 hx1 hx2 hx3 hx4
  go_region_held3 (fun W => Below w.heap.size w W ∧ W.cell? ⟨w.heap.size, 1, none⟩ = some (.int .i64 x.f1) ∧ W.cell? ⟨w.heap.size, 2, none⟩ = some (.int .i64 x.f2))
    (first | exact HS.out | (go_split_ands; exact ⟨below_step (by assumption) hb, below_cell hb (by assumption), below_cell hb (by assumption)⟩))
    (first | (go_at_call 114; (with_reducible refine (HC.out _ ?_).mono ?_); (go_split_ands; assumption); rintro e w' ⟨rfl, hb⟩) | (go_at_call 114; (with_reducible refine (HC2.out _ ?_).mono ?_); (go_split_ands; assumption); rintro e w' ⟨rfl, hb⟩))
  rename_i hH
  have HB := Aside0.mk hH.1
  clear hH
  go_wp2_with fail
  go_ret
  exact ⟨rfl, HB.out⟩
set_option maxRecDepth 100000 in
set_option maxHeartbeats 4000000 in
theorem rtext5 (xs : List S104) (hn : xs.length < 100000) (hf : Fine xs) (k : Nat) (hC : RTextC xs k) (id : Int) (w : World) (A0 : Option Addr) (c0 : Nat) (hr : Kd.C k104 w A0 xs.length xs) (h1 : 1 ≤ id) (h2 : id ≤ xs.length) (hk : id ≤ k + 1)
    (hs : rdOf 0 (szs xs) (id - 1) ≤ 1000) (c : (rdOf z104 xs (id - 1)).f0 = 5) :
    Calls Tryd.prog 114 #[.slice A0 xs.length c0, .int .i64 id] w fun e w' => e = .returned (.string ⟨(textF xs (k + 1) id).toArray⟩) ∧ Below w.heap.size w w' := by
  obtain ⟨hx, hid⟩ := rd_fine hf h1 h2
  have hp := size_parts hf h1 h2 hs
  have hlen := textF_len hn hf (k + 1) id h1 h2 hs
  obtain ⟨ji, hji⟩ : ∃ ji, id - 1 = ji := ⟨_, rfl⟩
  have hw : IntKind.i64.wrap (id - 1) = ji := by rw [← hji]; exact wr64' _ (by omega) (by omega)
  have hw2 : wrap64 (id - 1) = ji := by unfold wrap64; omega
  have p0 : (0 : Int) ≤ ji := by omega
  have p1 : ji < (xs.length : Int) := by omega
  have q0 : decide (0 ≤ ji) = true := decide_eq_true p0
  have q1 : decide (ji < (xs.length : Int)) = true := decide_eq_true p1
  obtain ⟨ad, ea, hx0, hx1, hx2, hx3, hx4⟩ := at_T104 hr ji p0 p1
  cases ea
  unfold textF at hlen ⊢
  rw [if_neg (by omega), if_neg (by omega), if_neg (by omega)] at hlen ⊢
  rw [show rd_T104 xs ji = rdOf z104 xs ji from rfl] at hx0 hx1 hx2 hx3 hx4
  rw [hji] at c hx hp hlen ⊢
  rw [show rdOf 0 (szs xs) ji = rdOf 0 (szs xs) (id - 1) by rw [hji]] at hlen
  generalize rdOf z104 xs ji = x at c hx hp hlen hx0 hx1 hx2 hx3 hx4 ⊢
  have hsh : x.f3.data.toList.length ≤ 40 := by rw [Array.length_toList]; exact hx.short
  have e1 : (x.f0 == 1) = false := by rw [c]; rfl
  have e2 : (x.f0 == 2) = false := by rw [c]; rfl
  have e3 : (x.f0 == 3) = false := by rw [c]; rfl
  have e4 : (x.f0 == 4) = false := by rw [c]; rfl
  have ho := hx.one (by omega)
  have HC : Aside0 (∀ w1, Below w.heap.size w w1 → Calls Tryd.prog 114 #[.slice (some ad) xs.length c0, .int .i64 x.f1] w1 fun e w' => e = .returned (.string ⟨(textF xs k x.f1).toArray⟩) ∧ Below w1.heap.size w1 w') :=
    ⟨fun w1 hb => hC x.f1 w1 (some ad) c0 (Kd.C_below hr hb) ho.1 (by omega) (by omega) (hp.1 (by omega))⟩
  have ht := hx.two (by omega)
  have HC2 : Aside0 (∀ w1, Below w.heap.size w w1 → Calls Tryd.prog 114 #[.slice (some ad) xs.length c0, .int .i64 x.f2] w1 fun e w' => e = .returned (.string ⟨(textF xs k x.f2).toArray⟩) ∧ Below w1.heap.size w1 w') :=
    ⟨fun w1 hb => hC x.f2 w1 (some ad) c0 (Kd.C_below hr hb) ht.1 (by omega) (by omega) (hp.2 (by omega))⟩
  obtain ⟨t, htt⟩ : ∃ t, textF xs k x.f1 = t := ⟨_, rfl⟩
  obtain ⟨y, hty⟩ : ∃ y, textF xs k x.f2 = y := ⟨_, rfl⟩
  rw [htt] at HC hlen ⊢
  rw [hty] at HC2 hlen ⊢
  rw [c] at hlen ⊢
  simp only [List.length_append, List.length_cons, List.length_nil, wordOf_len] at hlen
  obtain ⟨u1, hu1⟩ : ∃ u, [101, 110, 99, 40] ++ t = u := ⟨_, rfl⟩
  obtain ⟨u2, hu2⟩ : ∃ u, u1 ++ [44] = u := ⟨_, rfl⟩
  obtain ⟨u3, hu3⟩ : ∃ u, u2 ++ y = u := ⟨_, rfl⟩
  obtain ⟨u4, hu4⟩ : ∃ u, u3 ++ [41] = u := ⟨_, rfl⟩
  have l1 : u1.length = 4 + t.length := by rw [← hu1]; simp; omega
  have l2 : u2.length = 5 + t.length := by rw [← hu2, List.length_append]; simp; omega
  have l3 : u3.length = 5 + t.length + (y).length := by rw [← hu3, List.length_append]; omega
  have a1 : ∀ W, (Op.stringOp .add ⟨#[101, 110, 99, 40]⟩ ⟨t.toArray⟩).run Tryd.prog W = .ok (.string ⟨u1.toArray⟩) W := fun W => by rw [← hu1]; exact run_string_add_lists W [101, 110, 99, 40] t (by simp) (by omega)
  have a2 : ∀ W, (Op.stringOp .add ⟨u1.toArray⟩ ⟨#[44]⟩).run Tryd.prog W = .ok (.string ⟨u2.toArray⟩) W := fun W => by rw [← hu2]; exact run_string_add_lists W u1 [44] (by omega) (by simp)
  have a3 : ∀ W, (Op.stringOp .add ⟨u2.toArray⟩ ⟨y.toArray⟩).run Tryd.prog W = .ok (.string ⟨u3.toArray⟩) W := fun W => by rw [← hu3]; exact run_string_add_lists W u2 (y) (by omega) (by omega)
  have a4 : ∀ W, (Op.stringOp .add ⟨u3.toArray⟩ ⟨#[41]⟩).run Tryd.prog W = .ok (.string ⟨u4.toArray⟩) W := fun W => by rw [← hu4]; exact run_string_add_lists W u3 [41] (by omega) (by simp)
  have HE : Aside0 (wordOf 5 ++ 40 :: (t ++ 44 :: (y ++ [41])) = u4) := ⟨by rw [← hu4, ← hu3, ← hu2, ← hu1, wordOf]; simp⟩
  rw [HE.out]
  clear hu1 hu2 hu3 hu4 l1 l2 l3
  clear hr hx hp hs hC hf hlen hid ho hk h1 h2 hji hsh c ht htt hty
  go_enter Tryd.func114, Tryd.ntmps114
  go_wp2_with fail
  have hbx := box_cells w x
  have hbl := alloc_below w (.cells #[.int .i64 x.f0, .int .i64 x.f1, .int .i64 x.f2, .string x.f3, .int .i64 x.f4] 104)
  generalize w.alloc (.cells #[.int .i64 x.f0, .int .i64 x.f1, .int .i64 x.f2, .string x.f3, .int .i64 x.f4] 104) = w1 at hbx hbl ⊢
  have HS := Aside0.mk (show Below w.heap.size w w1.drew ∧ w1.drew.cell? ⟨w.heap.size, 1, none⟩ = some (.int .i64 x.f1) ∧ w1.drew.cell? ⟨w.heap.size, 2, none⟩ = some (.int .i64 x.f2) from ⟨below_drew hbl, hbx.1, hbx.2.1⟩)
  clear hbx hbl hx0 hx1 hx2 hx3 hx4
  go_region_held3 (fun W => Below w.heap.size w W ∧ W.cell? ⟨w.heap.size, 1, none⟩ = some (.int .i64 x.f1) ∧ W.cell? ⟨w.heap.size, 2, none⟩ = some (.int .i64 x.f2))
    (first | exact HS.out | (go_split_ands; exact ⟨below_step (by assumption) hb, below_cell hb (by assumption), below_cell hb (by assumption)⟩))
    (first | (go_at_call 114; (with_reducible refine (HC.out _ ?_).mono ?_); (go_split_ands; assumption); rintro e w' ⟨rfl, hb⟩) | (go_at_call 114; (with_reducible refine (HC2.out _ ?_).mono ?_); (go_split_ands; assumption); rintro e w' ⟨rfl, hb⟩))
  rename_i hH
  have HB := Aside0.mk hH.1
  clear hH
  go_wp2_with fail
  go_ret
  exact ⟨rfl, HB.out⟩
/-- The document's text function, at whatever id whose size is not great. -/
theorem rtext_all (xs : List S104) (hn : xs.length < 100000) (hf : Fine xs) : ∀ k, RTextC xs k
  | 0 => fun id w A0 c0 _ h1 h2 hk => by omega
  | k + 1 => fun id w A0 c0 hr h1 h2 hk hs => by
    have ih := rtext_all xs hn hf k
    have hx := (rd_fine hf h1 h2).1.kind
    rcases kinds hx with c | c | c | c | c
    · exact rtext1 xs hn hf k ih id w A0 c0 hr h1 h2 (by omega) hs c
    · exact rtext2 xs hn hf k ih id w A0 c0 hr h1 h2 (by omega) hs c
    · exact rtext3 xs hn hf k ih id w A0 c0 hr h1 h2 (by omega) hs c
    · exact rtext4 xs hn hf k ih id w A0 c0 hr h1 h2 (by omega) hs c
    · exact rtext5 xs hn hf k ih id w A0 c0 hr h1 h2 (by omega) hs c
end Go.Proofs.YtcaojgdnhmgmlaaDoor.T
end

/- term: Print. · term, plainly: the document's text of a term is the program's. · term: the law's like: each term is the document's. · term: the law's alive: the chapter's example comes. -/
import Derived.Test.YtcaojgdnhmgmlaaDoorTp10
import Derived.Laws.EntriesVeiled
import Derived.Test.YtcaojgdnhmgmlaaDoorTp07
import Derived.Test.YtcaojgdnhmgmlaaDoorTp08
set_option linter.unusedVariables false
set_option linter.unusedSimpArgs false
section
namespace Go.Proofs.YtcaojgdnhmgmlaaDoor.T
open Go.RowKit Go.Proofs.YtcaojgdnhmgmlaaDoor.Q Go.Proofs.YtcaojgdnhmgmlaaDoor.PTermPlays Go.Proofs.YtcaojgdnhmgmlaaDoorW.PrintWords Go.Proofs.YtcaojgdnhmgmlaaDoorW.PrintLast Go.Proofs.YtcaojgdnhmgmlaaDoorW.PrintMore
set_option linter.unusedVariables false

/-- What Print answers. -/
def printT (xs : List S104) (id : Int) : List UInt8 := if thereB xs.length id = true then (if rdOf 0 (szs xs) (id - 1) ≤ 1000 then textF xs id.toNat id else []) else []
theorem size_pos {xs : List S104} (hf : Fine xs) {id : Int} (h1 : 1 ≤ id) (h2 : id ≤ xs.length) : 1 ≤ rdOf 0 (szs xs) (id - 1) := by
  rw [size_at hf h1 h2]
  have hg : great = 1073741824 := rfl
  generalize rdOf z104 xs (id - 1) = x
  have hn1 := size_nn xs (x.f1 - 1)
  have hn2 := size_nn xs (x.f2 - 1)
  unfold szNode
  split
  · omega
  · split <;> omega
theorem PInv.start (w1 : World) (bt : Nat) : PInv w1 ((w1.alloc (.cells #[.pointer none, .slice none 0 0] 85)).alloc (.cells #[.func (.func 109) #[] #[.pointer (some ⟨bt, 0, none⟩), .pointer (some ⟨w1.heap.size, 0, none⟩), .pointer (some ⟨w1.heap.size + 1, 0, none⟩)]] 110)) bt [] :=
  ⟨ba (alloc_below w1 _) _, alloc2 _ _ _, builder_below (Lib.IsBuilderF.of (Lib.fresh_isBuilder 85 5 w1)) (alloc_below _ _)⟩
set_option maxRecDepth 100000 in
set_option maxHeartbeats 4000000 in
theorem print_calls (w : World) (id : Int) (tb : Nat) (At Bt : Option Addr) (ct cb : Nat) (xs : List S104) (hn : xs.length < 100000) (hf : Fine xs) (ht : w.cell? ⟨tb, 0, none⟩ = some (.slice At xs.length ct)) (hs : w.cell? ⟨tb, 1, none⟩ = some (.slice Bt xs.length cb))
    (hr : nodeK.C w At xs.length xs) (hrs : Kd.C (Kd.int .i64) w Bt (szs xs).length (szs xs)) (hL : LaidN w) :
    Calls Tryd.prog 77 #[.pointer (some ⟨tb, 0, none⟩), .int .i64 id] w fun e w' => e = .returned (.string ⟨(printT xs id).toArray⟩) ∧ Below w.heap.size w w' := by
  have hbox := alloc_below w (.cells #[.pointer (some ⟨tb, 0, none⟩)] 61)
  have hcell := alloc_cell w (.pointer (some ⟨tb, 0, none⟩)) 61
  have HS : Aside0 (Calls Tryd.prog 91 #[.pointer (some ⟨tb, 0, none⟩), .int .i64 id] (w.alloc (.cells #[.pointer (some ⟨tb, 0, none⟩)] 61)) fun e w' => e = .returned (.int .i64 (if thereB xs.length id = true then rdOf 0 (szs xs) (id - 1) else 0)) ∧ Below w.heap.size w w' ∧ Below (w.alloc (.cells #[.pointer (some ⟨tb, 0, none⟩)] 61)).heap.size (w.alloc (.cells #[.pointer (some ⟨tb, 0, none⟩)] 61)) w') :=
    ⟨(size_calls _ id tb At Bt xs.length ct cb (szs xs) (by omega) (szs_length xs) (below_cell hbox ht) (below_cell hbox hs) (Kd.C_below hrs hbox)).mono fun e w' ⟨h1, h2⟩ => ⟨h1, below_step hbox h2, h2⟩⟩
  unfold printT
  cases hq : thereB xs.length id
  · rw [hq, if_neg (by decide)] at HS
    rw [if_neg (by decide)]
    clear ht hs hr hrs hL hq hf hn hbox
    go_enter Tryd.func77, Tryd.ntmps77
    go_wp2_with fail
    refine HS.out.mono ?_
    rintro e w1 ⟨rfl, hb, hb2⟩
    have HB := Aside0.mk hb
    clear hb hb2
    go_wp2_with fail
    go_ret
    exact ⟨rfl, HB.out⟩
  · rw [hq, if_pos rfl] at HS
    rw [if_pos rfl]
    obtain ⟨h1, h2⟩ := thereB_no hq
    have hp := size_pos hf h1 h2
    have HWr : Aside0 (∀ w1, Below (w.alloc (.cells #[.pointer (some ⟨tb, 0, none⟩)] 61)).heap.size (w.alloc (.cells #[.pointer (some ⟨tb, 0, none⟩)] 61)) w1 → WriteC w1 w.heap.size xs id.toNat) :=
      ⟨fun w1 hb => write_all w1 w.heap.size tb At ct xs (PTab.below (w0 := w.alloc (.cells #[.pointer (some ⟨tb, 0, none⟩)] 61)) ⟨hcell, below_cell hbox ht, Kd.C_below hr hbox, hL.below hbox, hn, hf⟩ hb) id.toNat⟩
    have HLn := Aside0.mk (fun h => textF_len hn hf id.toNat id h1 h2 h)
    by_cases hw : rdOf 0 (szs xs) (id - 1) ≤ 1000
    · rw [if_pos hw]
      have hln := HLn.out hw
      have HC : Aside0 (∀ w1 W, Below (w.alloc (.cells #[.pointer (some ⟨tb, 0, none⟩)] 61)).heap.size (w.alloc (.cells #[.pointer (some ⟨tb, 0, none⟩)] 61)) w1 → PInv w1 W w.heap.size [] →
          Calls Tryd.prog 109 #[.int .i64 id, .pointer (some ⟨w.heap.size, 0, none⟩), .pointer (some ⟨w1.heap.size, 0, none⟩), .pointer (some ⟨w1.heap.size + 1, 0, none⟩)] W fun e w' => e = .returned (.tuple #[]) ∧ PInv w1 w' w.heap.size (textF xs id.toNat id)) :=
        ⟨fun w1 W hb hP => (HWr.out w1 hb id W [] h1 h2 (by omega) hw (by rw [List.length_nil]; omega) hP).mono fun e w' ⟨h1, h2, _⟩ => ⟨h1, by simpa using h2⟩⟩
      generalize textF xs id.toNat id = tx at HC ⊢
      generalize rdOf 0 (szs xs) (id - 1) = sz at HS hp hw
      have e1 : (sz == 0) = false := by simpa using (show ¬ sz = 0 by omega)
      have e2 : decide (sz > 1000) = false := decide_eq_false (by omega)
      have e3 : decide (1000 < sz) = false := decide_eq_false (by omega)
      clear ht hs hr hrs hL hq hf hn hbox HWr HLn hln hw hp h1 h2
      go_enter Tryd.func77, Tryd.ntmps77
      go_wp2_with fail
      refine HS.out.mono ?_
      rintro e w1 ⟨rfl, hb, hb2⟩
      have HB := Aside0.mk hb
      have HB2 := Aside0.mk hb2
      clear hb hb2
      go_wp2_with fail
      refine (HC.out w1 _ HB2.out (PInv.start w1 w.heap.size)).mono ?_
      rintro e w2 ⟨rfl, hp2⟩
      have HP2 := Aside0.mk hp2
      clear hp2
      go_wp2_with fail
      refine (Tryd.Builder_String_any_k w1.heap.size w1.heap.size tx w2 HP2.out.bu HP2.out.bel.size).mono ?_
      rintro e w3 ⟨rfl, _, b3, _⟩
      have HB3 := Aside0.mk (below_step HB.out (HP2.out.bel.trans b3))
      clear b3
      go_wp2_with fail
      go_ret
      exact ⟨rfl, HB3.out⟩
    · rw [if_neg hw]
      generalize rdOf 0 (szs xs) (id - 1) = sz at HS hp hw
      have e1 : (sz == 0) = false := by simpa using (show ¬ sz = 0 by omega)
      have e2 : decide (sz > 1000) = true := decide_eq_true (by omega)
      have e3 : decide (1000 < sz) = true := decide_eq_true (by omega)
      clear ht hs hr hrs hL hq hf hn hbox HWr HLn hp hw h1 h2
      go_enter Tryd.func77, Tryd.ntmps77
      go_wp2_with fail
      refine HS.out.mono ?_
      rintro e w1 ⟨rfl, hb, hb2⟩
      have HB := Aside0.mk hb
      clear hb hb2
      go_wp2_with fail
      go_ret
      exact ⟨rfl, HB.out⟩
end Go.Proofs.YtcaojgdnhmgmlaaDoor.T
end
section
namespace Go.Proofs.YtcaojgdnhmgmlaaDoor.T
open Go.RowKit Go.Proofs.YtcaojgdnhmgmlaaDoor.PTermPlays Go.Proofs.YtcaojgdnhmgmlaaDoorW.PrintWords Go.Proofs.YtcaojgdnhmgmlaaDoorW.PrintLast
set_option linter.unusedVariables false
set_option linter.unusedSimpArgs false
theorem wrap_small (x : Int) (h : -9223372036854775808 ≤ x) (h2 : x ≤ 9223372036854775807) : wrap64 x = x := by
  unfold wrap64
  omega
theorem dec_one (u : Nat) (h : u < 10) : Lib.decDigits u = [UInt8.ofNat (48 + u)] := by
  unfold Lib.decDigits
  rw [dif_pos h]
theorem dec_more (u : Nat) (h : ¬ u < 10) : Lib.decDigits u = Lib.decDigits (u / 10) ++ [UInt8.ofNat (48 + u % 10)] := by
  conv => lhs; unfold Lib.decDigits
  rw [dif_neg h]
theorem refprint_nat (k : Nat) : ∀ u : Nat, u < 10 ^ (k + 1) → u ≤ 9223372036854775807 → oublietteref01_Print.f (k + 1) (u : Int) = some ⟨(Lib.decDigits u).toArray⟩ := by
  induction k with
  | zero =>
    intro u hu _
    rw [oublietteref01_Print.f, if_neg (by omega), if_pos (by omega), wrap_small _ (by omega) (by omega)]
    rw [dec_one u (by omega)]
    unfold strOfNums
    have : ((48 + (u : Int)) % 256).toNat = 48 + u := by omega
    simp [this]
  | succ k ih =>
    intro u hu hmax
    rw [oublietteref01_Print.f, if_neg (by omega)]
    by_cases h10 : u < 10
    · rw [if_pos (by omega), wrap_small _ (by omega) (by omega)]
      rw [dec_one u h10]
      unfold strOfNums
      have : ((48 + (u : Int)) % 256).toNat = 48 + u := by omega
      simp [this]
    · rw [if_neg (by omega), Int.tdiv_eq_ediv_of_nonneg (by omega), Int.tmod_eq_emod_of_nonneg (by omega)]
      have hp : 10 ^ (k + 2) = 10 * 10 ^ (k + 1) := by rw [Nat.pow_succ, Nat.mul_comm]
      have hp1 : 10 ≤ 10 ^ (k + 1) := by rw [Nat.pow_succ]; have := Nat.pow_pos (n := k) (show 0 < 10 by omega); omega
      have e1 : wrap64 ((u : Int) / 10) = ((u / 10 : Nat) : Int) := by rw [wrap_small _ (by omega) (by omega)]; omega
      have e2 : (u : Int) % 10 = ((u % 10 : Nat) : Int) := by omega
      have h1 : u / 10 < 10 ^ (k + 1) := by
        have : u < 10 * 10 ^ (k + 1) := by rw [← hp]; exact hu
        omega
      rw [e1, e2, ih (u / 10) h1 (by omega), Option.bind_some, ih (u % 10) (by omega) (by omega), Option.bind_some]
      have l1 := Lib.itoa_length_le ((u / 10 : Nat) : Int) (by omega) (by omega)
      have l2 := Lib.itoa_length_le ((u % 10 : Nat) : Int) (by omega) (by omega)
      unfold Lib.itoa at l1 l2
      rw [if_neg (by omega), Int.toNat_natCast] at l1 l2
      have s1 : (ByteArray.mk (Lib.decDigits (u / 10)).toArray).size = (Lib.decDigits (u / 10)).length := by simp [ByteArray.size]
      have s2 : (ByteArray.mk (Lib.decDigits (u % 10)).toArray).size = (Lib.decDigits (u % 10)).length := by simp [ByteArray.size]
      rw [if_pos (by rw [s1, s2]; omega)]
      rw [dec_more u h10, dec_one (u % 10) (by omega)]
      congr 1

theorem refprint_ev (n : Int) (h : n ≤ 9223372036854775807) : ∀ k, 20 ≤ k → oublietteref01_Print.f k n = some (if n < 0 then ⟨#[]⟩ else ⟨(Lib.itoa n).toArray⟩) := by
  intro k hk
  obtain ⟨k, rfl⟩ : ∃ m, k = m + 1 := ⟨k - 1, by omega⟩
  by_cases hn : n < 0
  · rw [oublietteref01_Print.f, if_pos hn, if_pos hn]
  · obtain ⟨u, rfl⟩ := Int.eq_ofNat_of_zero_le (show 0 ≤ n by omega)
    rw [if_neg hn, refprint_nat k u ?_ (by omega)]
    · unfold Lib.itoa
      rw [if_neg (by omega), Int.toNat_natCast]
    · have h1 : u < 10 ^ 20 := Nat.lt_of_le_of_lt (show u ≤ 9223372036854775807 by omega) (by decide)
      exact Nat.lt_of_lt_of_le h1 (Nat.pow_le_pow_right (by omega) (by omega))
theorem mk_size (l : List UInt8) : (⟨l.toArray⟩ : ByteArray).size = l.length := by simp [ByteArray.size]
theorem add_mk (a b : List UInt8) : ((⟨a.toArray⟩ : ByteArray) ++ (⟨b.toArray⟩ : ByteArray)) = ⟨(a ++ b).toArray⟩ := ByteArray.mk_append_mk a b
theorem add_if {a b : List UInt8} {α : Type} {x y : α} (h : a.length + b.length ≤ 1000000) : (if (⟨a.toArray⟩ : ByteArray).size + (⟨b.toArray⟩ : ByteArray).size ≤ 9223372036854775807 then x else y) = x := by
  rw [if_pos (by rw [mk_size, mk_size]; omega)]
/-- The document's text, where the size is not great. -/
theorem rtext_eq (xs : List S104) (hn : xs.length < 100000) (hf : Fine xs) : ∀ (k : Nat) (id : Int), 1 ≤ id → id ≤ xs.length → id ≤ k → rdOf 0 (szs xs) (id - 1) ≤ 1000 → oublietteref15_Table_text.f (k + 20) xs id = some ⟨(textF xs k id).toArray⟩
  | 0, id, h1, h2, hk, hs => by omega
  | k + 1, id, h1, h2, hk, hs => by
    obtain ⟨hx, hid⟩ := rd_fine hf h1 h2
    have hp := size_parts hf h1 h2 hs
    have hlen := textF_len hn hf (k + 1) id h1 h2 hs
    have hw : wrap64 (id - 1) = id - 1 := wrap_small _ (by omega) (by omega)
    rw [show k + 1 + 20 = (k + 20) + 1 by omega, oublietteref15_Table_text.f, hw, if_pos (show 0 ≤ id - 1 by omega), if_pos (show id - 1 < (xs.length : Int) by omega), show rd_T104 xs (id - 1) = rdOf z104 xs (id - 1) from rfl]
    rw [textF] at hlen ⊢
    generalize rdOf z104 xs (id - 1) = x at hx hp hlen ⊢
    have hsh : x.f3.data.toList.length ≤ 40 := by rw [Array.length_toList]; exact hx.short
    have hkk := hx.kind
    have hs3 : x.f3 = ⟨x.f3.data.toList.toArray⟩ := rfl
    by_cases c1 : x.f0 = 1
    · have hat := hx.atom c1
      have hil := Lib.itoa_length_le x.f4 (by omega) (by omega)
      rw [if_pos c1, if_pos c1, refprint_ev x.f4 (by omega) (k + 20) (by omega), if_neg (show ¬ x.f4 < 0 by omega), Option.bind_some, if_pos (by rw [mk_size]; omega), show (⟨#[97]⟩ : ByteArray) = ⟨[97].toArray⟩ from rfl, add_mk]
      rfl
    rw [if_neg c1] at hlen ⊢
    rw [if_neg c1]
    by_cases c2 : x.f0 = 2
    · rw [if_pos c2, if_pos c2, hs3, show (⟨#[39]⟩ : ByteArray) = ⟨[39].toArray⟩ from rfl, if_pos (by rw [mk_size]; omega), add_mk, if_pos (by rw [mk_size, List.length_append]; simp only [List.length_cons, List.length_nil]; omega), add_mk]
      rfl
    rw [if_neg c2] at hlen ⊢
    rw [if_neg c2]
    have ho := hx.one (by omega)
    have ih1 := rtext_eq xs hn hf k x.f1 (by omega) (by omega) (by omega) (hp.1 (by omega))
    by_cases c3 : x.f0 = 3
    · rw [if_pos c3] at hlen ⊢
      rw [if_pos c3, ih1, Option.bind_some]
      generalize textF xs k x.f1 = t at hlen ⊢
      simp only [List.length_append, List.length_cons, List.length_nil, wordOf_len] at hlen
      rw [hs3, show (⟨#[107, 100, 102, 40]⟩ : ByteArray) = ⟨[107, 100, 102, 40].toArray⟩ from rfl, show (⟨#[44]⟩ : ByteArray) = ⟨[44].toArray⟩ from rfl, show (⟨#[41]⟩ : ByteArray) = ⟨[41].toArray⟩ from rfl]
      rw [if_pos (by simp only [ByteArray.size_append, mk_size, List.length_cons, List.length_nil]; omega), if_pos (by simp only [ByteArray.size_append, mk_size, List.length_cons, List.length_nil]; omega), if_pos (by simp only [ByteArray.size_append, mk_size, List.length_cons, List.length_nil]; omega), if_pos (by simp only [ByteArray.size_append, mk_size, List.length_cons, List.length_nil]; omega), add_mk, add_mk, add_mk, add_mk, wordOf, if_pos rfl]
      simp
    · have ht := hx.two (by omega)
      have ih2 := rtext_eq xs hn hf k x.f2 (by omega) (by omega) (by omega) (hp.2 (by omega))
      rw [if_neg c3] at hlen ⊢
      rw [if_neg c3]
      generalize hu : textF xs k x.f1 = t at hlen ih1 ⊢
      generalize hv : textF xs k x.f2 = u at hlen ih2 ⊢
      simp only [List.length_append, List.length_cons, List.length_nil, wordOf_len] at hlen
      by_cases c4 : x.f0 = 4
      · rw [if_pos c4, ih1, Option.bind_some, show (⟨#[109, 105, 120, 40]⟩ : ByteArray) = ⟨[109, 105, 120, 40].toArray⟩ from rfl, show (⟨#[44]⟩ : ByteArray) = ⟨[44].toArray⟩ from rfl, show (⟨#[41]⟩ : ByteArray) = ⟨[41].toArray⟩ from rfl]
        rw [if_pos (by simp only [ByteArray.size_append, mk_size, List.length_cons, List.length_nil]; omega), if_pos (by simp only [ByteArray.size_append, mk_size, List.length_cons, List.length_nil]; omega), ih2, Option.bind_some, if_pos (by simp only [ByteArray.size_append, mk_size, List.length_cons, List.length_nil]; omega), if_pos (by simp only [ByteArray.size_append, mk_size, List.length_cons, List.length_nil]; omega), add_mk, add_mk, add_mk, add_mk, wordOf, if_neg c3, if_pos c4]
        simp
      · rw [if_neg c4, ih1, Option.bind_some, show (⟨#[101, 110, 99, 40]⟩ : ByteArray) = ⟨[101, 110, 99, 40].toArray⟩ from rfl, show (⟨#[44]⟩ : ByteArray) = ⟨[44].toArray⟩ from rfl, show (⟨#[41]⟩ : ByteArray) = ⟨[41].toArray⟩ from rfl]
        rw [if_pos (by simp only [ByteArray.size_append, mk_size, List.length_cons, List.length_nil]; omega), if_pos (by simp only [ByteArray.size_append, mk_size, List.length_cons, List.length_nil]; omega), ih2, Option.bind_some, if_pos (by simp only [ByteArray.size_append, mk_size, List.length_cons, List.length_nil]; omega), if_pos (by simp only [ByteArray.size_append, mk_size, List.length_cons, List.length_nil]; omega), add_mk, add_mk, add_mk, add_mk, wordOf, if_neg c3, if_neg c4]
        simp
/-- The document's Print is the program's. -/
theorem rprint_eq (xs : List S104) (hn : xs.length < 100000) (hf : Fine xs) (id : Int) (k : Nat) (hk : 4 * xs.length + 30 ≤ k) : oublietteref15_Table_Print.f k xs id = some ⟨(printT xs id).toArray⟩ := by
  unfold oublietteref15_Table_Print.f printT
  rw [rthere_eq, Option.bind_some]
  by_cases h : thereB xs.length id = true
  · obtain ⟨h1, h2⟩ := thereB_no h
    rw [if_pos h, if_pos h, rsize_eq xs hn hf id k (by omega), if_pos h, Option.bind_some]
    by_cases hs : rdOf 0 (szs xs) (id - 1) ≤ 1000
    · rw [if_neg (show ¬ rdOf 0 (szs xs) (id - 1) > 1000 by omega), if_pos hs]
      have ht := rtext_eq xs hn hf id.toNat id h1 h2 (by omega) hs
      have hm : ∀ d, oublietteref15_Table_text.f (id.toNat + 20 + d) xs id = some ⟨(textF xs id.toNat id).toArray⟩ := fun d => by
        induction d with
        | zero => exact ht
        | succ d ih => exact oublietteref15_Table_text.mono _ _ _ _ ih
      obtain ⟨d, rfl⟩ : ∃ d, k = id.toNat + 20 + d := ⟨k - (id.toNat + 20), by omega⟩
      rw [hm d, Option.bind_some]
    · rw [if_pos (show rdOf 0 (szs xs) (id - 1) > 1000 by omega), if_neg hs]
  · rw [if_neg h, if_neg h]
end Go.Proofs.YtcaojgdnhmgmlaaDoor.T
end
section
namespace Go.Proofs.YtcaojgdnhmgmlaaDoor.T
open Go.RowKit Go.Proofs.YtcaojgdnhmgmlaaDoor.Q Go.Proofs.YtcaojgdnhmgmlaaDoor.PTermPlays Go.Proofs.YtcaojgdnhmgmlaaDoorW.PrintWords Go.Proofs.YtcaojgdnhmgmlaaDoorW.PrintLast Go.Proofs.YtcaojgdnhmgmlaaDoorW.PrintMore
set_option linter.unusedVariables false

/-- The program's table and the document's, both holding the terms xs. -/
structure LTab (w : World) (tb : Nat) (A0 : Option Addr) (c0 : Nat) (xs : List S104) : Prop where
  tab : ∃ At Bt ct cb, w.cell? ⟨tb, 0, none⟩ = some (.slice At xs.length ct) ∧ w.cell? ⟨tb, 1, none⟩ = some (.slice Bt xs.length cb) ∧ nodeK.C w At xs.length xs ∧ Kd.C (Kd.int .i64) w Bt (szs xs).length (szs xs)
  ref : Kd.C k104 w A0 xs.length xs
  cap : xs.length ≤ c0
  laid : LaidN w
  len : xs.length < 100000
  fine : Fine xs
theorem LTab.below {w w1 : World} {tb : Nat} {A0 : Option Addr} {c0 : Nat} {xs : List S104} (h : LTab w tb A0 c0 xs) (hb : Below w.heap.size w w1) : LTab w1 tb A0 c0 xs := by
  obtain ⟨At, Bt, ct, cb, h1, h2, h3, h4⟩ := h.tab
  exact ⟨⟨At, Bt, ct, cb, below_cell hb h1, below_cell hb h2, Kd.C_below h3 hb, Kd.C_below h4 hb⟩, Kd.C_below h.ref hb, h.cap, h.laid.below hb, h.len, h.fine⟩
set_option maxRecDepth 100000 in
set_option maxHeartbeats 8000000 in
theorem like_calls (w : World) (tb : Nat) (A0 : Option Addr) (c0 : Nat) (xs : List S104) (hT : LTab w tb A0 c0 xs) (id : Int) :
    Calls Tryd.prog 51 #[.pointer (some ⟨tb, 0, none⟩), .slice A0 xs.length c0, .int .i64 id] w fun e w' => e = .returned (.bool true) ∧ Below w.heap.size w w' := by
  have hn := hT.len
  have hf := hT.fine
  have hkinds : ∀ x ∈ xs, 1 ≤ x.f0 ∧ x.f0 ≤ 5 := hf.good.kind
  obtain ⟨q, hq⟩ : ∃ q, (if thereB xs.length id = true then (rdOf z104 xs (id - 1)).f0 else 0) = q := ⟨_, rfl⟩
  obtain ⟨p, hp⟩ : ∃ p, (if thereB xs.length id = true then partsOf (rdOf z104 xs (id - 1)) else []) = p := ⟨_, rfl⟩
  obtain ⟨lb, hlb⟩ : ∃ lb, (if thereB xs.length id = true then labelOf (rdOf z104 xs (id - 1)) else ⟨#[]⟩) = lb := ⟨_, rfl⟩
  obtain ⟨sz, hsz⟩ : ∃ sz, (if thereB xs.length id = true then rdOf 0 (szs xs) (id - 1) else 0) = sz := ⟨_, rfl⟩
  obtain ⟨tx, htx⟩ : ∃ tx, (⟨(printT xs id).toArray⟩ : ByteArray) = tx := ⟨_, rfl⟩
  have hpl : p.length ≤ 2 := by rw [← hp]; split; (unfold partsOf; split; simp; split <;> simp); simp
  have HK : Aside0 (∀ w1, Below w.heap.size w w1 → Calls Tryd.prog 84 #[.pointer (some ⟨tb, 0, none⟩), .int .i64 id] w1 fun e w' => e = .returned (.int .i64 q) ∧ Below w.heap.size w w') := ⟨fun w1 hb => by
    obtain ⟨At, Bt, ct, cb, h1, h2, h3, h4⟩ := (hT.below hb).tab
    have h := kind_calls w1 id tb At xs.length ct xs (by omega) rfl hkinds h1 h3
    rw [hq] at h
    exact h.mono fun e w' ⟨a, b⟩ => ⟨a, below_step hb b⟩⟩
  have HK2 : Aside0 (∀ w1, Below w.heap.size w w1 → Calls Tryd.prog 85 #[.slice A0 xs.length c0, .int .i64 id] w1 fun e w' => e = .returned (.int .i64 q) ∧ Below w.heap.size w w') := ⟨fun w1 hb =>
    (oublietteref15_Table_Kind.calls A0 c0 xs id q w1 (hT.below hb).ref hT.cap (by rw [rkind_eq xs hn, hq])).mono fun e w' ⟨a, b⟩ => ⟨a, below_step hb b.below⟩⟩
  have HP : Aside0 (∀ w1, Below w.heap.size w w1 → Calls Tryd.prog 87 #[.pointer (some ⟨tb, 0, none⟩), .int .i64 id] w1 fun e w' => ∃ A c, e = .returned (.slice A p.length c) ∧ p.length ≤ c ∧ Kd.C (Kd.int .i64) w' A p.length p ∧ Below w.heap.size w w') := ⟨fun w1 hb => by
    obtain ⟨At, Bt, ct, cb, h1, h2, h3, h4⟩ := (hT.below hb).tab
    have h := parts_calls w1 id tb At xs.length ct xs (by omega) rfl hkinds h1 h3
    rw [hp] at h
    exact h.mono fun e w' ⟨A, c, a1, a2, a3, a4⟩ => ⟨A, c, a1, a2, a3, below_step hb a4⟩⟩
  have HP2 : Aside0 (∀ w1, Below w.heap.size w w1 → Calls Tryd.prog 88 #[.slice A0 xs.length c0, .int .i64 id] w1 fun e w' => ∃ A c, e = .returned (.slice A p.length c) ∧ p.length ≤ c ∧ Kd.C (Kd.int .i64) w' A p.length p ∧ Below w1.heap.size w1 w') := ⟨fun w1 hb =>
    (oublietteref15_Table_Parts.calls 1 A0 c0 xs id p w1 (hT.below hb).ref hT.cap (by rw [rparts_eq xs hn id 1 (Nat.le_refl _), hp])).mono fun e w' ⟨v, a, b, c⟩ => by
      obtain ⟨A, cc, rfl, hc, hC⟩ := Kd.R_reads b
      exact ⟨A, cc, a, hc, hC, c⟩⟩
  have HI : Aside0 (∀ w1 A c A' c', Below w.heap.size w w1 → p.length ≤ c → Kd.C (Kd.int .i64) w1 A p.length p → p.length ≤ c' → Kd.C (Kd.int .i64) w1 A' p.length p → Calls Tryd.prog 86 #[.slice A p.length c, .slice A' p.length c'] w1 fun e w' => e = .returned (.bool true) ∧ Below w.heap.size w w') := ⟨fun w1 A c A' c' hb h1 h2 h3 h4 =>
    (oublietteref01_Ints.calls (p.length + 1) A c p A' c' p true w1 h2 h1 h4 h3 (rints_eq p (by omega) _ (Nat.le_refl _))).mono fun e w' ⟨a, b⟩ => ⟨a, below_step hb b.below⟩⟩
  have HL : Aside0 (∀ w1, Below w.heap.size w w1 → Calls Tryd.prog 89 #[.pointer (some ⟨tb, 0, none⟩), .int .i64 id] w1 fun e w' => e = .returned (.string lb) ∧ Below w.heap.size w w') := ⟨fun w1 hb => by
    obtain ⟨At, Bt, ct, cb, h1, h2, h3, h4⟩ := (hT.below hb).tab
    have h := label_calls w1 id tb At xs.length ct xs (by omega) rfl hkinds h1 h3
    rw [hlb] at h
    exact h.mono fun e w' ⟨a, b⟩ => ⟨a, below_step hb b⟩⟩
  have HL2 : Aside0 (∀ w1, Below w.heap.size w w1 → Calls Tryd.prog 90 #[.slice A0 xs.length c0, .int .i64 id] w1 fun e w' => e = .returned (.string lb) ∧ Below w.heap.size w w') := ⟨fun w1 hb =>
    (oublietteref15_Table_Label.calls A0 c0 xs id lb w1 (hT.below hb).ref hT.cap (by rw [rlabel_eq xs hn hf, hlb])).mono fun e w' ⟨a, b⟩ => ⟨a, below_step hb b.below⟩⟩
  have HS : Aside0 (∀ w1, Below w.heap.size w w1 → Calls Tryd.prog 91 #[.pointer (some ⟨tb, 0, none⟩), .int .i64 id] w1 fun e w' => e = .returned (.int .i64 sz) ∧ Below w.heap.size w w') := ⟨fun w1 hb => by
    obtain ⟨At, Bt, ct, cb, h1, h2, h3, h4⟩ := (hT.below hb).tab
    have h := size_calls w1 id tb At Bt xs.length ct cb (szs xs) (by omega) (szs_length xs) h1 h2 h4
    rw [hsz] at h
    exact h.mono fun e w' ⟨a, b⟩ => ⟨a, below_step hb b⟩⟩
  have HS2 : Aside0 (∀ w1, Below w.heap.size w w1 → Calls Tryd.prog 92 #[.slice A0 xs.length c0, .int .i64 id] w1 fun e w' => e = .returned (.int .i64 sz) ∧ Below w.heap.size w w') := ⟨fun w1 hb =>
    (oublietteref15_Table_Size.calls (4 * xs.length + 1) A0 c0 xs id sz w1 (hT.below hb).ref hT.cap (by rw [rsize_eq xs hn hf id _ (Nat.le_refl _), hsz])).mono fun e w' ⟨a, b⟩ => ⟨a, below_step hb b⟩⟩
  have HT : Aside0 (∀ w1, Below w.heap.size w w1 → Calls Tryd.prog 77 #[.pointer (some ⟨tb, 0, none⟩), .int .i64 id] w1 fun e w' => e = .returned (.string tx) ∧ Below w.heap.size w w') := ⟨fun w1 hb => by
    obtain ⟨At, Bt, ct, cb, h1, h2, h3, h4⟩ := (hT.below hb).tab
    have h := print_calls w1 id tb At Bt ct cb xs hn hf h1 h2 h3 h4 (hT.below hb).laid
    rw [htx] at h
    exact h.mono fun e w' ⟨a, b⟩ => ⟨a, below_step hb b⟩⟩
  have HT2 : Aside0 (∀ w1, Below w.heap.size w w1 → Calls Tryd.prog 93 #[.slice A0 xs.length c0, .int .i64 id] w1 fun e w' => e = .returned (.string tx) ∧ Below w.heap.size w w') := ⟨fun w1 hb =>
    (oublietteref15_Table_Print.calls (4 * xs.length + 30) A0 c0 xs id tx w1 (hT.below hb).ref hT.cap (by rw [rprint_eq xs hn hf id _ (Nat.le_refl _), htx])).mono fun e w' ⟨a, b⟩ => ⟨a, below_step hb b⟩⟩
  have HB0 := Aside0.mk (Below.refl w.heap.size w)
  clear hq hp hlb hsz htx hpl hkinds hn hf hT
  by_cases h40 : sz ≤ 40
  · have e1 : decide (sz > 40) = false := decide_eq_false (by omega)
    have e2 : decide (40 < sz) = false := decide_eq_false (by omega)
    clear h40
    go_enter Tryd.func51, Tryd.ntmps51
    go_wp2_with fail
    refine (HK.out _ HB0.out).mono ?_
    rintro e w1 ⟨rfl, hb⟩
    have HB1 := Aside0.mk hb
    clear hb
    go_wp2_with fail
    refine (HK2.out _ HB1.out).mono ?_
    rintro e w2 ⟨rfl, hb⟩
    have HB2 := Aside0.mk hb
    clear hb
    go_wp2_with fail
    refine (HP.out _ HB2.out).mono ?_
    rintro e w3 ⟨A1, c1, rfl, hc1, hC1, hb⟩
    have HB3 := Aside0.mk hb
    have HC1 := Aside0.mk hC1
    have HD1 := Aside0.mk hc1
    clear hb hC1 hc1
    go_wp2_with fail
    refine (HP2.out _ HB3.out).mono ?_
    rintro e w4 ⟨A2, c2, rfl, hc2, hC2, hb⟩
    have HB4 := Aside0.mk (below_step HB3.out hb)
    have HC2 := Aside0.mk hC2
    have HD2 := Aside0.mk hc2
    have HC3 := Aside0.mk (Kd.C_below HC1.out hb)
    clear hb hC2 hc2
    go_wp2_with fail
    refine (HI.out _ _ _ _ _ HB4.out HD1.out HC3.out HD2.out HC2.out).mono ?_
    rintro e w5 ⟨rfl, hb⟩
    have HB5 := Aside0.mk hb
    clear hb
    go_wp2_with fail
    refine (HL.out _ HB5.out).mono ?_
    rintro e w6 ⟨rfl, hb⟩
    have HB6 := Aside0.mk hb
    clear hb
    go_wp2_with fail
    refine (HL2.out _ HB6.out).mono ?_
    rintro e w7 ⟨rfl, hb⟩
    have HB7 := Aside0.mk hb
    clear hb
    go_wp2_with fail
    refine (HS.out _ HB7.out).mono ?_
    rintro e w8 ⟨rfl, hb⟩
    have HB8 := Aside0.mk hb
    clear hb
    go_wp2_with fail
    refine (HS2.out _ HB8.out).mono ?_
    rintro e w9 ⟨rfl, hb⟩
    have HB9 := Aside0.mk hb
    clear hb
    go_wp2_with fail
    refine (HS2.out _ HB9.out).mono ?_
    rintro e w10 ⟨rfl, hb⟩
    have HB10 := Aside0.mk hb
    clear hb
    go_wp2_with fail
    refine (HT.out _ HB10.out).mono ?_
    rintro e w11 ⟨rfl, hb⟩
    have HB11 := Aside0.mk hb
    clear hb
    go_wp2_with fail
    refine (HT2.out _ HB11.out).mono ?_
    rintro e w12 ⟨rfl, hb⟩
    have HB12 := Aside0.mk hb
    clear hb
    go_wp2_with fail
    go_ret
    exact ⟨rfl, HB12.out⟩
  · by_cases h1000 : sz ≤ 1000
    · have e1 : decide (sz > 40) = true := decide_eq_true (by omega)
      have e2 : decide (40 < sz) = true := decide_eq_true (by omega)
      have e3 : decide (sz ≤ 1000) = true := decide_eq_true h1000
      clear h40 h1000
      go_enter Tryd.func51, Tryd.ntmps51
      go_wp2_with fail
      refine (HK.out _ HB0.out).mono ?_
      rintro e w1 ⟨rfl, hb⟩
      have HB1 := Aside0.mk hb
      clear hb
      go_wp2_with fail
      refine (HK2.out _ HB1.out).mono ?_
      rintro e w2 ⟨rfl, hb⟩
      have HB2 := Aside0.mk hb
      clear hb
      go_wp2_with fail
      refine (HP.out _ HB2.out).mono ?_
      rintro e w3 ⟨A1, c1, rfl, hc1, hC1, hb⟩
      have HB3 := Aside0.mk hb
      have HC1 := Aside0.mk hC1
      have HD1 := Aside0.mk hc1
      clear hb hC1 hc1
      go_wp2_with fail
      refine (HP2.out _ HB3.out).mono ?_
      rintro e w4 ⟨A2, c2, rfl, hc2, hC2, hb⟩
      have HB4 := Aside0.mk (below_step HB3.out hb)
      have HC2 := Aside0.mk hC2
      have HD2 := Aside0.mk hc2
      have HC3 := Aside0.mk (Kd.C_below HC1.out hb)
      clear hb hC2 hc2
      go_wp2_with fail
      refine (HI.out _ _ _ _ _ HB4.out HD1.out HC3.out HD2.out HC2.out).mono ?_
      rintro e w5 ⟨rfl, hb⟩
      have HB5 := Aside0.mk hb
      clear hb
      go_wp2_with fail
      refine (HL.out _ HB5.out).mono ?_
      rintro e w6 ⟨rfl, hb⟩
      have HB6 := Aside0.mk hb
      clear hb
      go_wp2_with fail
      refine (HL2.out _ HB6.out).mono ?_
      rintro e w7 ⟨rfl, hb⟩
      have HB7 := Aside0.mk hb
      clear hb
      go_wp2_with fail
      refine (HS.out _ HB7.out).mono ?_
      rintro e w8 ⟨rfl, hb⟩
      have HB8 := Aside0.mk hb
      clear hb
      go_wp2_with fail
      refine (HS2.out _ HB8.out).mono ?_
      rintro e w9 ⟨rfl, hb⟩
      have HB9 := Aside0.mk hb
      clear hb
      go_wp2_with fail
      refine (HS2.out _ HB9.out).mono ?_
      rintro e w10 ⟨rfl, hb⟩
      have HB10 := Aside0.mk hb
      clear hb
      go_wp2_with fail
      refine (HS2.out _ HB10.out).mono ?_
      rintro e w11 ⟨rfl, hb⟩
      have HB11 := Aside0.mk hb
      clear hb
      go_wp2_with fail
      go_ret
      exact ⟨rfl, HB11.out⟩
    · have e1 : decide (sz > 40) = true := decide_eq_true (by omega)
      have e2 : decide (40 < sz) = true := decide_eq_true (by omega)
      have e3 : decide (sz ≤ 1000) = false := decide_eq_false h1000
      clear h40 h1000
      go_enter Tryd.func51, Tryd.ntmps51
      go_wp2_with fail
      refine (HK.out _ HB0.out).mono ?_
      rintro e w1 ⟨rfl, hb⟩
      have HB1 := Aside0.mk hb
      clear hb
      go_wp2_with fail
      refine (HK2.out _ HB1.out).mono ?_
      rintro e w2 ⟨rfl, hb⟩
      have HB2 := Aside0.mk hb
      clear hb
      go_wp2_with fail
      refine (HP.out _ HB2.out).mono ?_
      rintro e w3 ⟨A1, c1, rfl, hc1, hC1, hb⟩
      have HB3 := Aside0.mk hb
      have HC1 := Aside0.mk hC1
      have HD1 := Aside0.mk hc1
      clear hb hC1 hc1
      go_wp2_with fail
      refine (HP2.out _ HB3.out).mono ?_
      rintro e w4 ⟨A2, c2, rfl, hc2, hC2, hb⟩
      have HB4 := Aside0.mk (below_step HB3.out hb)
      have HC2 := Aside0.mk hC2
      have HD2 := Aside0.mk hc2
      have HC3 := Aside0.mk (Kd.C_below HC1.out hb)
      clear hb hC2 hc2
      go_wp2_with fail
      refine (HI.out _ _ _ _ _ HB4.out HD1.out HC3.out HD2.out HC2.out).mono ?_
      rintro e w5 ⟨rfl, hb⟩
      have HB5 := Aside0.mk hb
      clear hb
      go_wp2_with fail
      refine (HL.out _ HB5.out).mono ?_
      rintro e w6 ⟨rfl, hb⟩
      have HB6 := Aside0.mk hb
      clear hb
      go_wp2_with fail
      refine (HL2.out _ HB6.out).mono ?_
      rintro e w7 ⟨rfl, hb⟩
      have HB7 := Aside0.mk hb
      clear hb
      go_wp2_with fail
      refine (HS.out _ HB7.out).mono ?_
      rintro e w8 ⟨rfl, hb⟩
      have HB8 := Aside0.mk hb
      clear hb
      go_wp2_with fail
      refine (HS2.out _ HB8.out).mono ?_
      rintro e w9 ⟨rfl, hb⟩
      have HB9 := Aside0.mk hb
      clear hb
      go_wp2_with fail
      refine (HS2.out _ HB9.out).mono ?_
      rintro e w10 ⟨rfl, hb⟩
      have HB10 := Aside0.mk hb
      clear hb
      go_wp2_with fail
      refine (HS2.out _ HB10.out).mono ?_
      rintro e w11 ⟨rfl, hb⟩
      have HB11 := Aside0.mk hb
      clear hb
      go_wp2_with fail
      refine (HT.out _ HB11.out).mono ?_
      rintro e w12 ⟨rfl, hb⟩
      have HB12 := Aside0.mk hb
      clear hb
      go_wp2_with fail
      refine (HT2.out _ HB12.out).mono ?_
      rintro e w13 ⟨rfl, hb⟩
      have HB13 := Aside0.mk hb
      clear hb
      go_wp2_with fail
      go_ret
      exact ⟨rfl, HB13.out⟩
end Go.Proofs.YtcaojgdnhmgmlaaDoor.T
end
section
namespace Go.Proofs.YtcaojgdnhmgmlaaDoor.T
open Go.RowKit Go.Proofs.YtcaojgdnhmgmlaaDoor.Q Go.Proofs.YtcaojgdnhmgmlaaDoor.PTermPlays Go.Proofs.YtcaojgdnhmgmlaaDoorW.PrintWords Go.Proofs.YtcaojgdnhmgmlaaDoorW.PrintLast Go.Proofs.YtcaojgdnhmgmlaaDoorW.PrintMore
set_option linter.unusedVariables false

theorem TabS.facts {base : Nat} {F : Nat → Prop} {w : World} {tb mp : Nat} {xs : List S104} (h : TabS base F w tb mp xs) :
    ∃ At Bt ct cb, w.cell? ⟨tb, 0, none⟩ = some (.slice At xs.length ct) ∧ w.cell? ⟨tb, 1, none⟩ = some (.slice Bt xs.length cb) ∧ nodeK.C w At xs.length xs ∧ Kd.C (Kd.int .i64) w Bt (szs xs).length (szs xs) := by
  obtain ⟨A, B, es, clk, hR, _⟩ := h
  obtain ⟨At, ca, rfl, _, hA⟩ := Kd.R_reads hR.la
  obtain ⟨Bt, cb, rfl, _, hB⟩ := Kd.R_reads hR.lb
  exact ⟨At, Bt, ca, cb, tab_cell hR.cells 0, by rw [← szs_length xs]; exact tab_cell hR.cells 1, hA, hB⟩
/-- What is old stays old, the table being new. -/
theorem below_made {w w1 w2 : World} (h : Below w.heap.size w w1) (hq : Quiet w1 w2) (hk : ∀ k, k < w1.heap.size → ¬ w.heap.size ≤ k → w2.heap[k]? = w1.heap[k]?) : Below w.heap.size w w2 :=
  ⟨hq.os.trans h.os, hq.tape.trans h.tape, hq.output.trans h.output, Nat.le_trans h.size hq.size, fun k hl => (hk k (Nat.lt_of_lt_of_le hl h.size) (by omega)).trans (h.block k hl)⟩
def xa0 : S104 := ⟨1, 0, 0, ⟨#[]⟩, 0⟩
def xa1 : S104 := ⟨1, 0, 0, ⟨#[]⟩, 1⟩
def xe : S104 := ⟨5, 1, 2, ⟨#[]⟩, 0⟩
theorem aliveFine : Fine [xa0, xa1, xe] := by
  intro i hi
  rcases i with _ | _ | _ | i
  · show FineAt 0 xa0
    exact ⟨by decide, fun h => absurd rfl h, fun _ => by decide, fun _ => rfl, fun h => absurd h (by decide), fun h => absurd h (by decide), by decide⟩
  · show FineAt 1 xa1
    exact ⟨by decide, fun h => absurd rfl h, fun _ => by decide, fun _ => rfl, fun h => absurd h (by decide), fun h => absurd h (by decide), by decide⟩
  · show FineAt 2 xe
    exact ⟨by decide, fun _ => rfl, fun h => absurd h (by decide), fun _ => rfl, fun _ => by decide, fun _ => by decide, by decide⟩
  · simp at hi; omega
theorem aliveFound : foundR [xa0, xa1] ⟨5, 1, 2, ⟨#[]⟩, 0⟩ [1, 2] = ([xa0, xa1, xe], 3) := by
  unfold foundR
  rw [if_neg (by decide), if_neg (by decide)]
  rfl
theorem itoa_small (n : Nat) (h : n < 10) : Lib.itoa (n : Int) = [UInt8.ofNat (48 + n)] := by
  unfold Lib.itoa
  rw [if_neg (by omega), Int.toNat_natCast, dec_one n h]
theorem textF_atom (xs : List S104) (k : Nat) (id : Int) (h : (rdOf z104 xs (id - 1)).f0 = 1) : textF xs (k + 1) id = 97 :: Lib.itoa (rdOf z104 xs (id - 1)).f4 := by rw [textF, if_pos h]
theorem alivePrint : printT [xa0, xa1, xe] 3 = [101, 110, 99, 40, 97, 48, 44, 97, 49, 41] := by
  have h0 : textF [xa0, xa1, xe] 2 1 = [97, 48] := by rw [textF_atom _ _ _ (by decide)]; exact congrArg (97 :: ·) (itoa_small 0 (by decide))
  have h1 : textF [xa0, xa1, xe] 2 2 = [97, 49] := by rw [textF_atom _ _ _ (by decide)]; exact congrArg (97 :: ·) (itoa_small 1 (by decide))
  unfold printT
  rw [if_pos (by decide), if_pos (by decide), show (3 : Int).toNat = 2 + 1 from rfl, textF]
  rw [show rdOf z104 [xa0, xa1, xe] (3 - 1) = xe from rfl, if_neg (by decide), if_neg (by decide), if_neg (by decide), show xe.f1 = 1 from rfl, show xe.f2 = 2 from rfl, h0, h1]
  rfl
set_option maxRecDepth 100000 in
set_option maxHeartbeats 4000000 in
theorem alive_calls (w : World) (hL : LaidN w) : Calls Tryd.prog 46 #[] w fun e w' => e = .returned (.bool true) ∧ Below w.heap.size w w' := by
  have HL := Aside0.mk hL
  clear hL
  go_enter Tryd.func46, Tryd.ntmps46
  go_wp2_with fail
  refine (new_calls w).mono ?_
  rintro e w1 ⟨tb, mp, rfl, hT, hb⟩
  have HT1 := Aside0.mk hT
  have HB1 := Aside0.mk hb
  clear hT hb
  go_wp2_with fail
  refine (atom_calls w.heap.size (fun k => w.heap.size ≤ k) w1 tb mp [] HT1.out (by simp)).mono ?_
  rintro e w2 ⟨rfl, hT, hq, hk⟩
  have HT2 : Aside0 (TabS w.heap.size (fun k => w.heap.size ≤ k) w2 tb mp [xa0]) := ⟨TabS.more (xs := [xa0]) hT (fun k hk => hk.elim id (fun h => Nat.le_trans HB1.out.size h))⟩
  have HB2 := Aside0.mk (below_made HB1.out hq hk)
  clear hT hq hk
  go_wp2_with fail
  refine (atom_calls w.heap.size (fun k => w.heap.size ≤ k) w2 tb mp [xa0] HT2.out (by simp)).mono ?_
  rintro e w3 ⟨rfl, hT, hq, hk⟩
  have HT3 : Aside0 (TabS w.heap.size (fun k => w.heap.size ≤ k) w3 tb mp [xa0, xa1]) := ⟨TabS.more (xs := [xa0, xa1]) hT (fun k hk => hk.elim id (fun h => Nat.le_trans HB2.out.size h))⟩
  have HB3 := Aside0.mk (below_made HB2.out hq hk)
  clear hT hq hk
  go_wp2_with fail
  have hen := enc_calls w.heap.size (fun k => w.heap.size ≤ k) w3 tb mp [xa0, xa1] HT3.out (by simp) 1 2
  rw [aliveFound] at hen
  have HEN := Aside0.mk hen
  clear hen
  refine HEN.out.mono ?_
  rintro e w4 ⟨rfl, hT, hq, hk⟩
  have HT4 : Aside0 (TabS w.heap.size (fun k => w.heap.size ≤ k) w4 tb mp [xa0, xa1, xe]) := ⟨TabS.more (xs := [xa0, xa1, xe]) hT (fun k hk => hk.elim id (fun h => Nat.le_trans HB3.out.size h))⟩
  have HB4 := Aside0.mk (below_made HB3.out hq hk)
  clear hT hq hk HEN
  have HPR : Aside0 (Calls Tryd.prog 77 #[.pointer (some ⟨tb, 0, none⟩), .int .i64 3] w4 fun e w' => e = .returned (.string ⟨#[101, 110, 99, 40, 97, 48, 44, 97, 49, 41]⟩) ∧ Below w.heap.size w w') := ⟨by
    obtain ⟨At, Bt, ct, cb, h1, h2, h3, h4⟩ := HT4.out.facts
    have h := print_calls w4 3 tb At Bt ct cb [xa0, xa1, xe] (by simp) aliveFine h1 h2 h3 h4 (HL.out.below HB4.out)
    rw [alivePrint] at h
    exact h.mono fun e w' ⟨a, b⟩ => ⟨a, below_step HB4.out b⟩⟩
  go_wp2_with fail
  refine HPR.out.mono ?_
  rintro e w5 ⟨rfl, hb⟩
  have HB5 := Aside0.mk hb
  clear hb
  go_wp2_with fail
  go_ret
  exact ⟨rfl, HB5.out⟩
end Go.Proofs.YtcaojgdnhmgmlaaDoor.T
end

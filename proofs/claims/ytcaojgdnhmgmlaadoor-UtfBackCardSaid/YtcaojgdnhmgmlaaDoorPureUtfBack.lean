/- UtfBack: runes are read of their text as they were; folded twice a text is as folded once; what is cut off begins it. -/
import Derived.Test.YtcaojgdnhmgmlaaDoorQx34
import Derived.Test.YtcaojgdnhmgmlaaDoorUtfRef2
import Derived.Test.YtcaojgdnhmgmlaaDoorHCut
set_option linter.unusedVariables false
set_option linter.unusedSimpArgs false
namespace Go.Proofs.YtcaojgdnhmgmlaaDoor.Pure
open Go.RowKit Go.Proofs.YtcaojgdnhmgmlaaDoor.Q Go.Proofs.YtcaojgdnhmgmlaaDoorW.PrintWords Go.Proofs.YtcaojgdnhmgmlaaDoorW.PrintLast
open Go.Lib (encodeRune encodeRuneZ)

theorem sml_sml (r : Int) : sml (sml r) = sml r := by
  unfold sml
  cases h : upr r
  · simp [h]
  · have : upr (r + 32) = false := by
      simp [upr] at h ⊢; omega
    simp [this]
theorem fold_twice (s : ByteArray) : foldR (foldR s) = foldR s := by
  unfold foldR
  cases h2 : (runesOf s).2 with
  | none =>
    have hv := (runes_ok s h2).2
    have hm : ∀ r ∈ (runesOf s).1.map sml, validRune r = true := fun r hr => by obtain ⟨x, hx, rfl⟩ := List.mem_map.1 hr; exact sml_vld x (hv x hx)
    simp only [Option.isNone_none, if_true, runes_of _ hm, List.map_map]
    congr 4
    exact funext sml_sml
  | some p =>
    simp only [Option.isNone_some, Bool.false_eq_true, if_false]
    have h := runes_of [] (by simp)
    rw [show (⟨(encL []).toArray⟩ : ByteArray) = ⟨#[]⟩ from rfl] at h
    rw [h]; rfl
theorem fold_size (s : ByteArray) : (foldR s).size ≤ 4 * s.size := by
  have hq := runes_len s
  unfold foldR
  split
  · rw [enc_size]
    have := encL_len ((runesOf s).1.map sml)
    rw [List.length_map] at this
    omega
  · exact Nat.zero_le _
theorem empty_ok (s : ByteArray) (n : Int) (b : ByteArray) (hb : b = ⟨#[]⟩) : b.size ≤ s.size ∧ b.data.toList = s.data.toList.take b.size ∧ (runesOf b).2 = none ∧ (((runesOf b).1.length : Int)) ≤ mx n 0 := by
  have h0 : runesOf ⟨#[]⟩ = ([], none) := rfl
  have hz : (⟨#[]⟩ : ByteArray).size = 0 := rfl
  have hmx : 0 ≤ mx n 0 := by unfold mx; split <;> omega
  subst hb
  rw [h0, hz, List.take_zero]
  exact ⟨Nat.zero_le _, rfl, rfl, hmx⟩
/-- What is cut off begins the text; it has the runes that it may have. -/
theorem cut_ok (s : ByteArray) (n : Int) : (cutR s n).size ≤ s.size ∧ (cutR s n).data.toList = s.data.toList.take (cutR s n).size ∧ (runesOf (cutR s n)).2 = none ∧ (((runesOf (cutR s n)).1.length : Int)) ≤ mx n 0 := by
  unfold cutR
  by_cases hn : n < 1
  · rw [if_pos hn]
    exact empty_ok s n _ rfl
  · rw [if_neg hn]
    cases h2 : (runesOf s).2 with
    | none =>
      obtain ⟨he, hv⟩ := runes_ok s h2
      have hsz : s.data.toList.length = s.size := by cases s; simp [ByteArray.size]
      simp only [Option.isNone_none, if_true]
      have hd : encL (runesOf s).1 = encL ((runesOf s).1.take n.toNat) ++ encL ((runesOf s).1.drop n.toNat) := by rw [← encL_append, List.take_append_drop]
      have hl := congrArg List.length hd
      rw [he, hsz, List.length_append] at hl
      rw [runes_of _ (fun r hr => hv r (List.mem_of_mem_take hr)), enc_size]
      refine ⟨by omega, ?_, rfl, ?_⟩
      · rw [← he, hd, List.take_left]
      · simp only [List.length_take]
        unfold mx; split <;> omega
    | some p =>
      simp only [Option.isNone_some, Bool.false_eq_true, if_false]
      exact empty_ok s n _ rfl
theorem j1_eq (s : ByteArray) (n : Int) (hs : s.size ≤ 300) (hn : -9223372036854775808 ≤ n ∧ n ≤ 9223372036854775807) (k : Nat) : oubliettelaw02_UtfBack.j1 (k + 1) s n = some true := by
  obtain ⟨h1, h2, h3, h4⟩ := cut_ok s n
  have hf := fold_size s
  rw [oubliettelaw02_UtfBack.j1, utf_Cut.f, if_pos ⟨by omega, hn⟩, Option.bind_some, utf_Fold.f, if_pos (by omega), Option.bind_some, utf_Fold.f, if_pos (by omega), Option.bind_some, Option.bind_some, fold_twice, if_pos rfl, if_pos (by omega), if_pos (by omega), Int.toNat_natCast,
    if_pos (by rw [ByteArray.toList_eq, ByteArray.toList_eq, pre_list, h2]), utf_Count.f, if_pos (by omega), Option.bind_some, h3, if_pos (by simpa using h4), alive_eq]
  rfl
theorem UtfBack : oubliettelaw02_UtfBack.Pure := by
  intro l s n _ _ _ _ hn
  refine ⟨1000, ?_⟩
  have hn2 : -9223372036854775808 ≤ n ∧ n ≤ 9223372036854775807 := by simp [Lit.wf, IntKind.min, IntKind.max, IntKind.signed, IntKind.bits] at hn; omega
  unfold oubliettelaw02_UtfBack.f
  have ht : ∀ k, oubliettelaw02_UtfBack.j0 (k + 1) l s n true = some true := fun k => by
    rw [oubliettelaw02_UtfBack.j0, if_pos rfl, alive_eq]; rfl
  split
  · exact ht 999
  · rename_i hl
    by_cases hs : (s.size : Int) > 300
    · rw [decide_eq_true hs]; exact ht 999
    · rw [decide_eq_false hs, show 1000 = 999 + 1 from rfl, oubliettelaw02_UtfBack.j0, if_neg (by simp), utf_Text.f, if_pos (by omega), Option.bind_some]
      have hj := j1_eq s n (by omega) hn2 998
      cases hb : badAt l 0 with
      | some i =>
        rw [if_neg (show ¬ (textR l (some i)).2.2 = 0 from (by decide : ¬ (4 : Int) = 0))]
        exact hj
      | none =>
        have hv := none_bad l 0 hb
        have hle := encL_len l
        rw [if_pos (show (textR l none).2.2 = 0 from rfl), show (textR l none).1 = ⟨(encL l).toArray⟩ from rfl, utf_Runes.f, if_pos (by rw [enc_size]; omega), Option.bind_some, runes_of l hv,
          if_pos (show (runesR (l, none)).2.2 = 0 from rfl), show (runesR (l, none)).1 = l from rfl, same_eq l (by omega) 999 (by omega), Option.bind_some, if_pos rfl, utf_Count.f, if_pos (by rw [enc_size]; omega), Option.bind_some, runes_of l hv]
        rw [if_pos (show (if (l, (none : Option Nat)).2.isNone = true then ((l, (none : Option Nat)).1.length : Int) else -1) = l.length from rfl)]
        exact hj
end Go.Proofs.YtcaojgdnhmgmlaaDoor.Pure

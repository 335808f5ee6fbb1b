/- The document's answers for whole texts, in plain Lean. -/
import Derived.Test.YtcaojgdnhmgmlaaDoorUtfRef
import Derived.Test.YtcaojgdnhmgmlaaDoorHFold
import Derived.Test.YtcaojgdnhmgmlaaDoorQx15
set_option linter.unusedVariables false
set_option linter.unusedSimpArgs false
namespace Go.Proofs.YtcaojgdnhmgmlaaDoor.Pure
open Go.RowKit Go.Proofs.YtcaojgdnhmgmlaaDoor.Q Go.Proofs.YtcaojgdnhmgmlaaDoorW.PrintWords Go.Proofs.YtcaojgdnhmgmlaaDoorW.PrintLast
open Go.Lib (validRune encodeRune encodeRuneZ)

theorem dec_ext0 (s : ByteArray) (p : Nat) (h : p < s.size) : Utf8.decode (s.extract p s.size) 0 = Utf8.decode s p := by
  have := dec_ext s p h
  unfold Go.Lib.decodeGo at this
  rwa [if_neg (by rw [ext_size]; omega)] at this
theorem runes_go (s : ByteArray) (hs : s.size < 1000000) : ∀ (j p : Nat) (acc : List Int), s.size ≤ p + j → p ≤ s.size → acc.length ≤ p →
    oublietteref02_Runes.l0 (j + 8) s acc p = some (runesR (acc ++ (scan s j p).1, (scan s j p).2))
  | 0, p, acc, hj, hp, ha => by
    rw [scan_end s 0 p (by omega), oublietteref02_Runes.l0, if_neg (by omega)]
    simp [runesR]
  | j + 1, p, acc, hj, hp, ha => by
    rw [show j + 1 + 8 = (j + 8) + 1 by omega, oublietteref02_Runes.l0]
    by_cases hlt : p < s.size
    · rw [if_pos (by omega), if_pos (by omega), if_pos (by omega), Int.toNat_natCast, show j + 8 = (j + 2) + 6 by omega, first_eq (j + 2) _ (by rw [ext_size]; omega), Option.bind_some]
      have hbe : brk (s.extract p s.size) 0 = brk s p := by unfold brk; rw [dec_ext0 s p hlt]
      rw [hbe, dec_ext0 s p hlt]
      cases hb : brk s p
      · obtain ⟨c, n, hd⟩ : ∃ c n, Utf8.decode s p = (c, n) := ⟨_, _, rfl⟩
        have hw := wid_pos s p
        obtain ⟨h1, h2, h3⟩ := dec_ok s p c n hlt hd hb
        rw [scan_next s j p hlt hb, hd]
        rw [hd] at hw
        simp only at hw
        simp only [Bool.false_eq_true, if_false]
        rw [if_neg (by omega), if_pos (by omega), show wrap64 ((p : Int) + (n : Int)) = ((p + n : Nat) : Int) by unfold wrap64; omega]
        rw [show j + 2 + 6 = j + 8 by omega, runes_go s hs j (p + n) _ (by omega) h1 (by simp; omega)]
        simp
      · simp only [if_true]
        rw [scan_brk s j p hlt hb]
        rfl
    · rw [scan_end s _ p hlt, if_neg (by omega)]
      simp [runesR]
theorem runes_eq (s : ByteArray) (hs : s.size < 1000000) (k : Nat) (hk : s.size + 8 ≤ k) : oublietteref02_Runes.f k s = some (runesR (runesOf s)) := by
  obtain ⟨j, rfl⟩ : ∃ j, k = s.size + j + 8 := ⟨k - s.size - 8, by omega⟩
  have h := runes_go s hs (s.size + j) 0 [] (by omega) (by omega) (by simp)
  rw [scan_more s s.size 0 (by omega) j, List.nil_append] at h
  exact h

theorem zlen (r : Int) : (encodeRuneZ r).length ≤ 4 := by
  have := Go.Lib.runeCells_le r
  rw [Go.Lib.runeCells_length] at this
  unfold encodeRune at this
  simp only [List.length_map] at this
  exact this.2
theorem badAt_cons (r : Int) (t : List Int) (i : Nat) : badAt (r :: t) i = if validRune r = true then badAt t (i + 1) else some i := rfl
theorem text_go (l : List Int) (hl : l.length < 1000000) : ∀ (j i e : Nat) (acc : List Int), i + j = l.length → acc.length ≤ 4 * i →
    oublietteref02_Text.l0 (j + 1 + e) l acc i = some (match badAt (l.drop i) i with | none => (strOfNums (acc ++ (l.drop i).flatMap encodeRuneZ), 0, 0) | some b => ((⟨#[]⟩ : ByteArray), (b : Int), 4))
  | 0, i, e, acc, hi, ha => by
    rw [show 0 + 1 + e = e + 1 by omega, oublietteref02_Text.l0, if_neg (by omega), List.drop_of_length_le (by omega)]
    simp [badAt]
  | j + 1, i, e, acc, hi, ha => by
    rw [show j + 1 + 1 + e = (j + 1 + e) + 1 by omega, oublietteref02_Text.l0, if_pos (by omega), if_pos (by omega), right_eq, Option.bind_some, drop_rd l i (by omega)]
    by_cases hv : validRune (rd l i) = true
    · have hz := zlen (rd l i)
      rw [if_pos hv, bytes_eq _ hv, Option.bind_some, if_pos (by omega), show wrap64 ((i : Int) + 1) = ((i + 1 : Nat) : Int) by unfold wrap64; omega,
        text_go l hl j (i + 1) e _ (by omega) (by simp; omega)]
      rw [badAt_cons, if_pos hv, List.flatMap_cons, List.append_assoc]
    · rw [if_neg hv]
      rw [badAt_cons, if_neg hv]
theorem flat_eq (l : List Int) : strOfNums (l.flatMap encodeRuneZ) = ⟨(encL l).toArray⟩ := by
  unfold strOfNums encL encodeRune
  rw [List.map_flatMap]
theorem text_eq (l : List Int) (hl : l.length < 1000000) (k : Nat) (hk : l.length + 1 ≤ k) : oublietteref02_Text.f k l = some (textR l (badAt l 0)) := by
  obtain ⟨e, rfl⟩ : ∃ e, k = l.length + 1 + e := ⟨k - l.length - 1, by omega⟩
  have h := text_go l hl l.length 0 e [] (by omega) (by simp)
  rw [List.drop_zero, List.nil_append, flat_eq] at h
  unfold oublietteref02_Text.f
  refine h.trans ?_
  cases badAt l 0 <;> rfl
theorem bad_none (l : List Int) : ∀ i, (∀ r ∈ l, validRune r = true) → badAt l i = none := by
  induction l with
  | nil => intro i h; rfl
  | cons r t ih =>
    intro i h
    rw [badAt_cons, if_pos (h r (List.mem_cons_self ..))]
    exact ih _ (fun x hx => h x (List.mem_cons_of_mem _ hx))
theorem none_bad (l : List Int) : ∀ i, badAt l i = none → (∀ r ∈ l, validRune r = true) := by
  induction l with
  | nil => intro i h; simp
  | cons r t ih =>
    intro i h
    by_cases hv : validRune r = true
    · rw [badAt_cons, if_pos hv] at h
      intro x hx
      rcases List.mem_cons.1 hx with rfl | hx
      · exact hv
      · exact ih _ h x hx
    · rw [badAt_cons, if_neg hv] at h
      cases h
theorem text_ok (l : List Int) (hl : l.length < 1000000) (k : Nat) (hk : l.length + 1 ≤ k) (hv : ∀ r ∈ l, validRune r = true) : oublietteref02_Text.f k l = some (⟨(encL l).toArray⟩, 0, 0) := by
  rw [text_eq l hl k hk, bad_none l 0 hv]; rfl

theorem same_go (l : List Int) (hl : l.length < 9223372036854775807) : ∀ (j i e : Nat), i + j = l.length → oubliettelaw02_same.l0 (j + 1 + e) l l i = some true
  | 0, i, e, hi => by rw [show 0 + 1 + e = e + 1 by omega, oubliettelaw02_same.l0, if_neg (by omega)]
  | j + 1, i, e, hi => by
    rw [show j + 1 + 1 + e = (j + 1 + e) + 1 by omega, oubliettelaw02_same.l0, if_pos (by omega), if_pos (by omega), if_pos (by omega), if_pos rfl, show wrap64 ((i : Int) + 1) = ((i + 1 : Nat) : Int) by unfold wrap64; omega,
      same_go l hl j (i + 1) e (by omega)]
theorem same_eq (l : List Int) (hl : l.length < 9223372036854775807) (k : Nat) (hk : l.length + 1 ≤ k) : oubliettelaw02_same.f k l l = some true := by
  obtain ⟨e, rfl⟩ : ∃ e, k = l.length + 1 + e := ⟨k - l.length - 1, by omega⟩
  unfold oubliettelaw02_same.f
  rw [if_pos rfl]
  exact same_go l hl l.length 0 e (by omega)

theorem alive_eq : oubliettelaw02_alive.f = some true := by decide +kernel

/-- Facts on the runes that a text has. -/
theorem runes_len (s : ByteArray) : (runesOf s).1.length ≤ s.size := scan_len s s.size 0
theorem runes_ok (s : ByteArray) (h : (runesOf s).2 = none) : encL (runesOf s).1 = s.data.toList ∧ (∀ r ∈ (runesOf s).1, validRune r = true) := by
  have := scan_enc s s.size 0 (by omega) (Nat.zero_le _) h
  rwa [List.drop_zero] at this
theorem runes_of (l : List Int) (hv : ∀ r ∈ l, validRune r = true) : runesOf ⟨(encL l).toArray⟩ = (l, none) :=
  scan_of_enc _ l _ 0 (by omega) (by simp) hv
theorem enc_size (l : List Int) : (⟨(encL l).toArray⟩ : ByteArray).size = (encL l).length := by simp [ByteArray.size]
end Go.Proofs.YtcaojgdnhmgmlaaDoor.Pure

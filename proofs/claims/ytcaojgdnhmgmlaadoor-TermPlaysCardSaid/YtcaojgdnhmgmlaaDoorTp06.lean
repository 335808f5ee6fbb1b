/- term, plainly: what is so of all terms that have come to be. · term, plainly: what the document tells of an id is what the program tells. · term, plainly: the document's sizes are the program's. · term, plainly: a term's text, and how long it is at most. -/
import Derived.Test.YtcaojgdnhmgmlaaDoorTp05
import Derived.Test.YtcaojgdnhmgmlaaDoorPTermPlaysx3
set_option linter.unusedVariables false
set_option linter.unusedSimpArgs false
section
namespace Go.Proofs.YtcaojgdnhmgmlaaDoor.T
open Go.RowKit Go.Proofs.YtcaojgdnhmgmlaaDoor.Q Go.Proofs.YtcaojgdnhmgmlaaDoor.PTermPlays Go.Proofs.YtcaojgdnhmgmlaaDoorW.PrintWords Go.Proofs.YtcaojgdnhmgmlaaDoorW.PrintLast
set_option linter.unusedVariables false
/-- One term, there being n before it. -/
structure FineAt (n : Nat) (x : S104) : Prop where
  kind : 1 ≤ x.f0 ∧ x.f0 ≤ 5
  num : x.f0 ≠ 1 → x.f4 = 0
  atom : x.f0 = 1 → 0 ≤ x.f4 ∧ x.f4 ≤ n
  lab : x.f0 = 1 ∨ 4 ≤ x.f0 → x.f3 = ⟨#[]⟩
  one : 3 ≤ x.f0 → 1 ≤ x.f1 ∧ x.f1 ≤ n
  two : 4 ≤ x.f0 → 1 ≤ x.f2 ∧ x.f2 ≤ n
  short : x.f3.size ≤ 40
def Fine (xs : List S104) : Prop := ∀ i (h : i < xs.length), FineAt i xs[i]
theorem Fine.nil : Fine [] := fun i h => absurd h (by simp)
theorem Fine.snoc {xs : List S104} (h : Fine xs) {x : S104} (hx : FineAt xs.length x) : Fine (xs ++ [x]) := by
  intro i hi
  rw [List.length_append] at hi
  by_cases h1 : i < xs.length
  · rw [List.getElem_append_left h1]; exact h i h1
  · obtain rfl : i = xs.length := by simp at hi; omega
    rw [List.getElem_append_right (by omega)]
    simpa using hx
theorem Fine.good {xs : List S104} (h : Fine xs) : Good xs := by
  constructor
  · intro x hx
    obtain ⟨i, hi, rfl⟩ := List.getElem_of_mem hx
    exact (h i hi).kind
  · intro x hx
    obtain ⟨i, hi, rfl⟩ := List.getElem_of_mem hx
    exact (h i hi).num
theorem thereB_all1 {n : Nat} {a : Int} (h : [a].all (thereB n) ≠ false) : 1 ≤ a ∧ a ≤ n := thereB_no (by simpa using h)
theorem thereB_all2 {n : Nat} {a b : Int} (h : [a, b].all (thereB n) ≠ false) : (1 ≤ a ∧ a ≤ n) ∧ (1 ≤ b ∧ b ≤ n) := by
  have h2 : thereB n a = true ∧ thereB n b = true := by simpa using h
  exact ⟨thereB_no h2.1, thereB_no h2.2⟩
theorem Fine.found {xs : List S104} (h : Fine xs) (k : S104) (l : List Int) (hk : l.all (thereB xs.length) ≠ false → FineAt xs.length k) : Fine (foundR xs k l).1 ∧ xs.length ≤ (foundR xs k l).1.length ∧ (foundR xs k l).1.length ≤ xs.length + 1 := by
  unfold foundR
  by_cases h1 : l.all (thereB xs.length) = false
  · rw [if_pos h1]; exact ⟨h, Nat.le_refl _, Nat.le_succ _⟩
  · rw [if_neg h1]
    by_cases h2 : 0 < idOf k xs 0
    · rw [if_pos h2]; exact ⟨h, Nat.le_refl _, Nat.le_succ _⟩
    · rw [if_neg h2]; exact ⟨h.snoc (hk h1), by simp, by simp⟩
theorem Fine.doR {xs : List S104} (h : Fine xs) (x : S68) (hx : x.f3.size ≤ 40) : Fine (doR xs x).1 ∧ xs.length ≤ (doR xs x).1.length ∧ (doR xs x).1.length ≤ xs.length + 1 := by
  unfold T.doR
  have ha := atomsN_le xs
  by_cases h1 : x.f0 = 1
  · rw [if_pos h1]
    exact ⟨h.snoc ⟨⟨by simp, by simp⟩, fun e => absurd rfl e, fun _ => ha, fun _ => rfl, fun e => absurd e (by simp), fun e => absurd e (by simp), Nat.zero_le _⟩, by simp, by simp⟩
  rw [if_neg h1]
  by_cases h2 : x.f0 = 2
  · rw [if_pos h2]
    exact h.found _ _ fun _ => ⟨⟨by simp, by simp⟩, fun _ => rfl, fun e => absurd e (by simp), fun e => absurd e (by simp), fun e => absurd e (by simp), fun e => absurd e (by simp), hx⟩
  rw [if_neg h2]
  by_cases h3 : x.f0 = 3
  · rw [if_pos h3]
    exact h.found _ _ fun ht => ⟨⟨by simp, by simp⟩, fun _ => rfl, fun e => absurd e (by simp), fun e => absurd e (by simp), fun _ => thereB_all1 ht, fun e => absurd e (by simp), hx⟩
  rw [if_neg h3]
  by_cases h4 : x.f0 = 4
  · rw [if_pos h4]
    exact h.found _ _ fun ht => ⟨⟨by simp, by simp⟩, fun _ => rfl, fun e => absurd e (by simp), fun _ => rfl, fun _ => (thereB_all2 ht).1, fun _ => (thereB_all2 ht).2, Nat.zero_le _⟩
  rw [if_neg h4]
  exact h.found _ _ fun ht => ⟨⟨by simp, by simp⟩, fun _ => rfl, fun e => absurd e (by simp), fun _ => rfl, fun _ => (thereB_all2 ht).1, fun _ => (thereB_all2 ht).2, Nat.zero_le _⟩
end Go.Proofs.YtcaojgdnhmgmlaaDoor.T
end
section
namespace Go.Proofs.YtcaojgdnhmgmlaaDoor.T
open Go.RowKit Go.Proofs.YtcaojgdnhmgmlaaDoor.Q Go.Proofs.YtcaojgdnhmgmlaaDoor.PTermPlays Go.Proofs.YtcaojgdnhmgmlaaDoorW.PrintWords Go.Proofs.YtcaojgdnhmgmlaaDoorW.PrintLast
set_option linter.unusedVariables false
theorem wid {n : Nat} {id : Int} (hn : n < 100000) (h : thereB n id = true) : wrap64 (id - 1) = id - 1 ∧ 0 ≤ id - 1 ∧ id - 1 < (n : Int) := by
  have := thereB_no h
  unfold wrap64
  omega
theorem rkind_eq (xs : List S104) (hn : xs.length < 100000) (id : Int) : oublietteref15_Table_Kind.f xs id = some (if thereB xs.length id = true then (rdOf z104 xs (id - 1)).f0 else 0) := by
  unfold oublietteref15_Table_Kind.f
  rw [rthere_eq, Option.bind_some]
  by_cases h : thereB xs.length id = true
  · obtain ⟨h1, h2, h3⟩ := wid hn h
    rw [if_pos h, if_pos h, h1, if_pos h2, if_pos h3]; rfl
  · rw [if_neg h, if_neg h]
theorem rlabel_eq (xs : List S104) (hn : xs.length < 100000) (hf : Fine xs) (id : Int) : oublietteref15_Table_Label.f xs id = some (if thereB xs.length id = true then labelOf (rdOf z104 xs (id - 1)) else ⟨#[]⟩) := by
  unfold oublietteref15_Table_Label.f
  rw [rthere_eq, Option.bind_some]
  by_cases h : thereB xs.length id = true
  · obtain ⟨h1, h2, h3⟩ := wid hn h
    rw [if_pos h, if_pos h, h1, if_pos h2, if_pos h3]
    obtain ⟨i, hi⟩ := Int.eq_ofNat_of_zero_le h2
    have hil : i < xs.length := by omega
    have e : rdOf z104 xs (id - 1) = xs[i] := by rw [hi]; exact rdn xs i hil
    have e2 : rd_T104 xs (id - 1) = xs[i] := by rw [hi]; exact rdn xs i hil
    rw [e, e2]
    have hx := hf i hil
    unfold labelOf
    by_cases h4 : xs[i].f0 = 2 ∨ xs[i].f0 = 3
    · rw [if_pos h4]
    · rw [if_neg h4, hx.lab (by have := hx.kind; omega)]
  · rw [if_neg h, if_neg h]
theorem rparts_eq (xs : List S104) (hn : xs.length < 100000) (id : Int) (k : Nat) (hk : 1 ≤ k) : oublietteref15_Table_Parts.f k xs id = some (if thereB xs.length id = true then partsOf (rdOf z104 xs (id - 1)) else []) := by
  unfold oublietteref15_Table_Parts.f
  obtain ⟨e, rfl⟩ : ∃ e, k = e + 1 := ⟨k - 1, by omega⟩
  rw [rthere_eq, Option.bind_some]
  by_cases h : thereB xs.length id = true
  · obtain ⟨h1, h2, h3⟩ := wid hn h
    rw [if_pos h, if_pos h, h1, if_pos h2, if_pos h3, oublietteref15_Table_Parts.j0, h1, if_pos h2, if_pos h3]
    unfold partsOf
    rw [show rdOf z104 xs (id - 1) = rd_T104 xs (id - 1) from rfl]
    by_cases h5 : (rd_T104 xs (id - 1)).f0 < 3
    · rw [decide_eq_true h5, if_pos rfl, if_pos h5]
    · rw [decide_eq_false h5, if_neg (by decide), if_neg h5]
      by_cases h6 : (rd_T104 xs (id - 1)).f0 = 3
      · rw [if_pos h6, if_pos h6]
      · rw [if_neg h6, if_neg h6]
  · rw [if_neg h, if_neg h, oublietteref15_Table_Parts.j0, if_pos rfl]
theorem rints_go (l : List Int) (hl : l.length < 100000) : ∀ (j i e : Nat), i + j = l.length → oublietteref01_Ints.l0 (j + 1 + e) l l i = some true
  | 0, i, e, hi => by rw [show 0 + 1 + e = e + 1 by omega, oublietteref01_Ints.l0, if_neg (by omega)]
  | j + 1, i, e, hi => by
    rw [show j + 1 + 1 + e = (j + 1 + e) + 1 by omega, oublietteref01_Ints.l0, if_pos (by omega), if_pos (by omega), if_pos (by omega), if_pos rfl, show wrap64 ((i : Int) + 1) = ((i + 1 : Nat) : Int) by unfold wrap64; omega, rints_go l hl j (i + 1) e (by omega)]
theorem rints_eq (l : List Int) (hl : l.length < 100000) (k : Nat) (hk : l.length + 1 ≤ k) : oublietteref01_Ints.f k l l = some true := by
  unfold oublietteref01_Ints.f
  obtain ⟨e, rfl⟩ : ∃ e, k = l.length + 1 + e := ⟨k - l.length - 1, by omega⟩
  rw [if_pos rfl]
  exact rints_go l hl l.length 0 e (by omega)
end Go.Proofs.YtcaojgdnhmgmlaaDoor.T
end
section
namespace Go.Proofs.YtcaojgdnhmgmlaaDoor.T
open Go.RowKit Go.Proofs.YtcaojgdnhmgmlaaDoor.Q Go.Proofs.YtcaojgdnhmgmlaaDoor.PTermPlays Go.Proofs.YtcaojgdnhmgmlaaDoorW.PrintWords Go.Proofs.YtcaojgdnhmgmlaaDoorW.PrintLast
set_option linter.unusedVariables false
theorem mn_great (a : Int) : mn a 1073741824 = min a great := by
  unfold mn great; omega
theorem szNode_parts (ss : List Int) (x : S104) (h : 1 ≤ x.f0 ∧ x.f0 ≤ 5) : szNode ss x = szP ss (partsOf x) 1 := by
  unfold szNode partsOf
  by_cases h1 : x.f0 < 3
  · rw [if_pos (by omega), if_pos h1]; rfl
  · rw [if_neg (by omega), if_neg h1]
    by_cases h3 : x.f0 = 3
    · rw [if_pos h3, if_pos h3]; rfl
    · rw [if_neg h3, if_neg h3]; rfl
theorem szP_bounds {ss : List Int} (h : ∀ s ∈ ss, 0 ≤ s ∧ s ≤ great) : ∀ (l : List Int) (z : Int), 0 ≤ z ∧ z ≤ great → 0 ≤ szP ss l z ∧ szP ss l z ≤ great
  | [], z, hz => hz
  | a :: t, z, hz => by
    have := rd_bounds h (a - 1)
    exact szP_bounds h t (min (z + rdOf 0 ss (a - 1)) great) (by unfold great at *; omega)
theorem rl1_go (xs : List S104) (ss : List Int) (hss : ∀ s ∈ ss, 0 ≤ s ∧ s ≤ great) (hn : ss.length < 100000) (q : Int) (hq : wrap64 (q + 1) = q + 1) (p : List Int) (hp : ∀ a ∈ p, 1 ≤ a ∧ a ≤ (ss.length : Int)) (hpl : p.length < 10) : ∀ (j i e : Nat) (z : Int), i + j = p.length → 0 ≤ z ∧ z ≤ great →
    oublietteref15_Table_Sizes.l1 (j + 1 + e) xs ss q z p i = oublietteref15_Table_Sizes.l0 e xs (ss ++ [szP ss (p.drop i) z]) (q + 1)
  | 0, i, e, z, hi, hz => by
    rw [show 0 + 1 + e = e + 1 by omega, oublietteref15_Table_Sizes.l1, if_neg (by omega), if_pos (by omega), List.drop_of_length_le (by omega), hq]; rfl
  | j + 1, i, e, z, hi, hz => by
    have hil : i < p.length := by omega
    have hr : rd p (i : Int) = p[i] := by simp [rd, List.getD, hil]
    obtain ⟨a1, a2⟩ := hp p[i] (List.getElem_mem hil)
    have hb := rd_bounds hss (p[i] - 1)
    have hw : wrap64 (p[i] - 1) = p[i] - 1 := by unfold wrap64; omega
    have hgr : great = 1073741824 := rfl
    have hw2 : wrap64 (z + rd ss (p[i] - 1)) = z + rdOf 0 ss (p[i] - 1) := by
      rw [show rd ss (p[i] - 1) = rdOf 0 ss (p[i] - 1) from rfl]
      unfold wrap64; omega
    rw [show j + 1 + 1 + e = (j + 1 + e) + 1 by omega, oublietteref15_Table_Sizes.l1, if_pos (by omega), if_pos (by omega), hr, hw, if_pos (by omega), if_pos (by omega), hw2, mn_great, show wrap64 ((i : Int) + 1) = ((i + 1 : Nat) : Int) by unfold wrap64; omega,
      rl1_go xs ss hss hn q hq p hp hpl j (i + 1) e _ (by omega) (by omega), List.drop_eq_getElem_cons hil]
    rfl
theorem rsizes_go (xs : List S104) (hn : xs.length < 100000) (hf : Fine xs) : ∀ (j i e : Nat), i + j = xs.length → oublietteref15_Table_Sizes.l0 (4 * j + 1 + e) xs (szs (xs.take i)) i = some (szs xs)
  | 0, i, e, hi => by
    rw [show 4 * 0 + 1 + e = e + 1 by omega, oublietteref15_Table_Sizes.l0, if_neg (by omega), List.take_of_length_le (by omega)]
  | j + 1, i, e, hi => by
    have hil : i < xs.length := by omega
    have hx := hf i hil
    have hl : (szs (xs.take i)).length = i := by rw [szs_length, List.length_take]; omega
    have ht : thereB xs.length ((i : Int) + 1) = true := by unfold thereB; simp; omega
    have hsb := szs_bounds _ (xs.take i) rfl
    have hp : ∀ a ∈ partsOf xs[i], 1 ≤ a ∧ a ≤ ((szs (xs.take i)).length : Int) := by
      rw [hl]
      unfold partsOf
      intro a ha
      by_cases h1 : xs[i].f0 < 3
      · rw [if_pos h1] at ha; cases ha
      · rw [if_neg h1] at ha
        have h1' := hx.one (by omega)
        by_cases h3 : xs[i].f0 = 3
        · rw [if_pos h3] at ha
          rw [List.mem_singleton.1 ha]; exact h1'
        · rw [if_neg h3] at ha
          have h2' := hx.two (by omega)
          rcases List.mem_cons.1 ha with rfl | ha
          · exact h1'
          · rw [List.mem_singleton.1 ha]; exact h2'
    have hpl : (partsOf xs[i]).length ≤ 2 := by unfold partsOf; split; simp; split <;> simp
    obtain ⟨d, hd⟩ : ∃ d, 4 * (j + 1) + 1 + e = ((partsOf xs[i]).length + 1 + (4 * j + 1 + d)) + 1 := ⟨4 * (j + 1) + e - ((partsOf xs[i]).length + 1 + (4 * j + 1)), by omega⟩
    have hq : wrap64 ((i : Int) + 1) = (i : Int) + 1 := by unfold wrap64; omega
    have e3 : rdOf z104 xs ((i : Int) + 1 - 1) = xs[i] := by rw [Int.add_sub_cancel]; exact rdn xs i hil
    have hg := rl1_go xs (szs (xs.take i)) hsb (by omega) (i : Int) hq (partsOf xs[i]) hp (by omega) (partsOf xs[i]).length 0 (4 * j + 1 + d) 1 (by omega) (by decide)
    rw [List.drop_zero, ← szNode_parts _ _ hx.kind, ← szs_snoc, ← List.take_succ_eq_append_getElem hil] at hg
    rw [hd, oublietteref15_Table_Sizes.l0, if_pos (by omega), hq, rparts_eq xs hn _ _ (by omega), if_pos ht, e3, Option.bind_some]
    refine Eq.trans hg ?_
    exact rsizes_go xs hn hf j (i + 1) d (by omega)
theorem rsizes_eq (xs : List S104) (hn : xs.length < 100000) (hf : Fine xs) (k : Nat) (hk : 4 * xs.length + 1 ≤ k) : oublietteref15_Table_Sizes.f k xs = some (szs xs) := by
  obtain ⟨e, rfl⟩ : ∃ e, k = 4 * xs.length + 1 + e := ⟨k - (4 * xs.length + 1), by omega⟩
  exact rsizes_go xs hn hf xs.length 0 e (by omega)
theorem rsize_eq (xs : List S104) (hn : xs.length < 100000) (hf : Fine xs) (id : Int) (k : Nat) (hk : 4 * xs.length + 1 ≤ k) : oublietteref15_Table_Size.f k xs id = some (if thereB xs.length id = true then rdOf 0 (szs xs) (id - 1) else 0) := by
  unfold oublietteref15_Table_Size.f
  rw [rthere_eq, Option.bind_some]
  by_cases h : thereB xs.length id = true
  · obtain ⟨h1, h2, h3⟩ := wid hn h
    rw [if_pos h, if_pos h, rsizes_eq xs hn hf k hk, Option.bind_some, h1, if_pos h2, szs_length, if_pos h3]; rfl
  · rw [if_neg h, if_neg h]
end Go.Proofs.YtcaojgdnhmgmlaaDoor.T
end
section
namespace Go.Proofs.YtcaojgdnhmgmlaaDoor.T
open Go.RowKit Go.Proofs.YtcaojgdnhmgmlaaDoor.Q Go.Proofs.YtcaojgdnhmgmlaaDoor.PTermPlays Go.Proofs.YtcaojgdnhmgmlaaDoorW.PrintWords Go.Proofs.YtcaojgdnhmgmlaaDoorW.PrintLast
set_option linter.unusedVariables false
/-- The size of the i-th term out of the list's. -/
theorem szs_at : ∀ (n : Nat) (xs : List S104), xs.length = n → ∀ i (h : i < xs.length), (szs xs)[i]? = some (szNode (szs (xs.take i)) xs[i]) := by
  intro n
  induction n with
  | zero => intro xs h i hi; omega
  | succ n ih =>
    intro xs h i hi
    obtain ⟨q, c, rfl⟩ : ∃ q c, xs = q ++ [c] := ⟨xs.dropLast, xs.getLast (by intro e; subst e; simp at h), (List.dropLast_concat_getLast _).symm⟩
    have hq : q.length = n := by simpa using h
    rw [szs_snoc]
    by_cases h1 : i < q.length
    · rw [List.getElem?_append_left (by rw [szs_length]; exact h1), ih q hq i h1, List.take_append_of_le_length (by omega), List.getElem_append_left h1]
    · obtain rfl : i = q.length := by rw [List.length_append] at hi; simp at hi; omega
      rw [List.getElem?_append_right (by rw [szs_length]; exact Nat.le_refl _), szs_length, Nat.sub_self, List.take_left, List.getElem_append_right (by omega)]
      simp
theorem szs_take (xs : List S104) (i : Nat) (j : Nat) (hj : j < i) (hi : i ≤ xs.length) : rdOf 0 (szs (xs.take i)) (j : Int) = rdOf 0 (szs xs) (j : Int) := by
  have h1 := szs_at _ xs rfl j (by omega)
  have h2 := szs_at _ (xs.take i) rfl j (by rw [List.length_take]; omega)
  unfold rdOf
  rw [Int.toNat_natCast, List.getD_eq_getElem?_getD, List.getD_eq_getElem?_getD, h1, h2, List.take_take, Nat.min_eq_left (by omega), List.getElem_take]
end Go.Proofs.YtcaojgdnhmgmlaaDoor.T
end

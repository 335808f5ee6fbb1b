import Derived.Test.YtcaojgdnhmgmlaaDoorNb17
import Derived.Test.YtcaojgdnhmgmlaaDoorNb22
import Derived.Test.YtcaojgdnhmgmlaaDoorNb09
import Derived.Test.YtcaojgdnhmgmlaaDoorNb08
section
/- What the document says of names is what the program's functions say, plainly. -/
set_option linter.unusedVariables false
set_option linter.unusedSimpArgs false
namespace Go.Proofs.YtcaojgdnhmgmlaaDoor.Pure
open Go.RowKit Go.Proofs.YtcaojgdnhmgmlaaDoor.Q Go.Proofs.YtcaojgdnhmgmlaaDoorW.PrintWords Go.Proofs.YtcaojgdnhmgmlaaDoorW.PrintLast
open Go.Lib (validRune encodeRune encodeRuneZ)

theorem rletter_eq (a : Int) : oublietteref02_Letter.f a = some (ltr a) := by
  obtain ⟨x, h1, h2⟩ := letter_eq a
  rw [letter_eq1] at h1
  rw [h2, ← h1]
theorem rsmall_eq (a : Int) : oublietteref03_small.f a = some (smallR a) := by
  unfold oublietteref03_small.f smallR
  rw [rletter_eq, rupper_eq, Option.bind_some, Option.bind_some]
  by_cases h1 : 48 ≤ a <;> by_cases h2 : a ≤ 57 <;> cases hl : ltr a <;> cases hu : upr a <;> simp [h1, h2]
theorem rpart_go (l : List Int) (hl : l.length < 1000000) : ∀ (j i e : Nat), i + j = l.length → oublietteref03_Part.l0 (j + 1 + e) l i = some ((l.drop i).all smallR)
  | 0, i, e, hi => by
    rw [show 0 + 1 + e = e + 1 by omega, oublietteref03_Part.l0, if_neg (by omega), List.drop_of_length_le (by omega)]; rfl
  | j + 1, i, e, hi => by
    rw [show j + 1 + 1 + e = (j + 1 + e) + 1 by omega, oublietteref03_Part.l0, if_pos (by omega), if_pos (by omega), rsmall_eq, Option.bind_some, drop_rd l i (by omega), List.all_cons, show wrap64 ((i : Int) + 1) = ((i + 1 : Nat) : Int) by unfold wrap64; omega, rpart_go l hl j (i + 1) e (by omega)]
    cases smallR (rd l i) <;> simp
theorem rpart_eq (s : ByteArray) (hs : s.size < 900000) (k : Nat) (hk : s.size + 20 ≤ k) : oublietteref03_Part.f k s = some (partB s) := by
  obtain ⟨e, rfl⟩ : ∃ e, k = e + 1 := ⟨k - 1, by omega⟩
  unfold oublietteref03_Part.f
  rw [runes_eq s (by omega) _ (by omega), Option.bind_some]
  unfold partB partL
  have hq := runes_len s
  cases h2 : (runesOf s).2 with
  | some p => simp [runesR, h2, oublietteref03_Part.j0]
  | none =>
    simp only [runesR, h2, if_pos, Option.isNone_none, Bool.true_and]
    by_cases h1 : (runesOf s).1.length < 1
    · rw [if_pos (by omega), oublietteref03_Part.j0, if_pos rfl, decide_eq_false (fun h => by omega)]; simp
    · rw [if_neg (by omega)]
      by_cases h8 : 8 < (runesOf s).1.length
      · rw [decide_eq_true (show ((runesOf s).1.length : Int) > 8 by omega), oublietteref03_Part.j0, if_pos rfl, decide_eq_false (fun h => by omega)]; simp
      · rw [decide_eq_false (show ¬ ((runesOf s).1.length : Int) > 8 by omega), oublietteref03_Part.j0, if_neg (by decide), decide_eq_true (⟨by omega, by omega⟩ : 1 ≤ (runesOf s).1.length ∧ (runesOf s).1.length ≤ 8)]
        obtain ⟨e2, rfl⟩ : ∃ e2, e = (runesOf s).1.length + 1 + e2 := ⟨e - (runesOf s).1.length - 1, by omega⟩
        have := rpart_go (runesOf s).1 (by omega) (runesOf s).1.length 0 e2 (by omega)
        rw [List.drop_zero] at this
        rw [Bool.and_true]
        exact this
theorem foldl_add (l : List Nat) : ∀ a : Nat, l.foldl (· + ·) a = a + l.foldl (· + ·) 0 := by
  induction l with
  | nil => simp
  | cons x t ih => intro a; simp only [List.foldl_cons]; rw [ih (a + x), ih (0 + x)]; omega
theorem runesN_cons (p : ByteArray) (l : List ByteArray) : runesN (p :: l) = ((runesOf p).1.length + 1) + runesN l := by
  unfold runesN
  rw [List.map_cons, List.foldl_cons, foldl_add]; omega
/-- A text whose pieces all have runes has them, and a point between. -/
theorem pieces_runes : ∀ (n : Nat) (s : ByteArray), s.size = n → (∀ p ∈ pieces s, (runesOf p).2 = none) → (runesOf s).2 = none ∧ (runesOf s).1.length + 1 = runesN (pieces s) := by
  intro n
  induction n using Nat.strongRecOn with
  | ind n ih =>
    intro s hs hv
    have hge := Lib.indexByte_ge s.data.toList 46
    by_cases hi : Lib.indexByte s.data.toList 46 = -1
    · rw [pieces_miss s hi] at hv ⊢
      exact ⟨hv s (by simp), by rw [runesN_cons]; rfl⟩
    · obtain ⟨i, hi⟩ := Int.eq_ofNat_of_zero_le (show 0 ≤ Lib.indexByte s.data.toList 46 by omega)
      obtain ⟨h1, h2⟩ := pieces_hit s i hi
      rw [h2] at hv ⊢
      obtain ⟨q1, q2⟩ := ih (s.extract (i + 1) s.size).size (by simp; omega) _ rfl (fun p hp => hv p (List.mem_cons_of_mem _ hp))
      obtain ⟨a1, a2⟩ := runes_ok (s.extract 0 i) (hv _ List.mem_cons_self)
      obtain ⟨b1, b2⟩ := runes_ok (s.extract (i + 1) s.size) q1
      obtain ⟨_, hsp, _⟩ := pcs_hit s.data.toList i hi
      have he : encL ((runesOf (s.extract 0 i)).1 ++ 46 :: (runesOf (s.extract (i + 1) s.size)).1) = s.data.toList := by
        have e1 : encL ((runesOf (s.extract 0 i)).1 ++ 46 :: (runesOf (s.extract (i + 1) s.size)).1) = encL (runesOf (s.extract 0 i)).1 ++ (encodeRune 46 ++ encL (runesOf (s.extract (i + 1) s.size)).1) := by
          unfold encL; rw [List.flatMap_append, List.flatMap_cons]
        rw [e1, a1, b1, ext_list, show encodeRune 46 = [46] from by decide, ← str_take]
        exact hsp.symm
      have hr := runes_of ((runesOf (s.extract 0 i)).1 ++ 46 :: (runesOf (s.extract (i + 1) s.size)).1) (fun r hr => by
        rcases List.mem_append.1 hr with h | h
        · exact a2 r h
        · rcases List.mem_cons.1 h with rfl | h
          · decide
          · exact b2 r h)
      rw [he, str_of] at hr
      rw [hr]
      exact ⟨rfl, by rw [runesN_cons, ← q2]; simp; omega⟩
theorem rright_go (s : ByteArray) (hs : s.size < 900000) (l : List ByteArray) (hl : l.length < 1000000) (hps : ∀ p ∈ l, p.size ≤ s.size) : ∀ (j i e : Nat), i + j = l.length → s.size + 20 ≤ e →
    oublietteref03_Right.l0 (j + 1 + e) s l i = if (l.drop i).all partB = true then (if l.length ≤ 4 then (utf_Count.f s).bind fun t => some (decide (t ≤ 24)) else some false) else some false
  | 0, i, e, hi, he => by
    rw [show 0 + 1 + e = e + 1 by omega, oublietteref03_Right.l0, if_neg (by omega), List.drop_of_length_le (by omega), List.all_nil, if_pos rfl, rcount_eq s (by omega) e (by omega)]
    by_cases h4 : l.length ≤ 4
    · rw [if_pos h4, if_pos (by omega)]
    · rw [if_neg h4, if_neg (by omega)]
  | j + 1, i, e, hi, he => by
    have hil : i < l.length := by omega
    have hg : rdOf ByteArray.empty l (i : Int) = l[i] := by simp [rdOf, List.getD, hil]
    have hp := hps l[i] (List.getElem_mem hil)
    rw [show j + 1 + 1 + e = (j + 1 + e) + 1 by omega, oublietteref03_Right.l0, if_pos (by omega), if_pos (by omega), hg, rpart_eq _ (by omega) _ (by omega), Option.bind_some, List.drop_eq_getElem_cons hil, List.all_cons, show wrap64 ((i : Int) + 1) = ((i + 1 : Nat) : Int) by unfold wrap64; omega, rright_go s hs l hl hps j (i + 1) e (by omega) he]
    cases partB l[i] <;> simp
theorem rright_eq (s : ByteArray) (hs : s.size < 900000) (k : Nat) (hk : s.size + s.size + 30 ≤ k) : oublietteref03_Right.f k s = some (rightB s) := by
  unfold oublietteref03_Right.f oublietteref03_pieces.f
  rw [if_pos hs, Option.bind_some]
  have hpl := (pieces_len _ s rfl).2
  obtain ⟨e, rfl⟩ : ∃ e, k = (pieces s).length + 1 + e := ⟨k - (pieces s).length - 1, by omega⟩
  have h := rright_go s hs (pieces s) (by omega) (pieces_size _ s rfl) (pieces s).length 0 e (by omega) (by omega)
  rw [List.drop_zero] at h
  rw [show ((0 : Nat) : Int) = 0 from rfl] at h
  rw [h]
  unfold rightB
  cases ha : (pieces s).all partB
  · simp
  · have hv := pieces_runes _ s rfl (fun p hp => by have := (partB_len p (List.all_eq_true.1 ha p hp)).1; simpa using this)
    rw [if_pos rfl, Bool.true_and]
    by_cases h4 : (pieces s).length ≤ 4
    · rw [if_pos h4, decide_eq_true h4, Bool.true_and, utf_Count.f, if_pos (by omega), hv.1, Option.isNone_none, if_pos rfl, Option.bind_some]
      congr 1
      exact decide_eq_decide.2 (by rw [← hv.2]; omega)
    · rw [if_neg h4, decide_eq_false h4, Bool.false_and]
theorem rsplit_eq (s : ByteArray) (hs : s.size < 900000) (k : Nat) (hk : s.size + s.size + 30 ≤ k) : oublietteref03_Split.f k s = name_Split.f s := by
  unfold oublietteref03_Split.f name_Split.f oublietteref03_pieces.f
  rw [rright_eq s hs k hk, Option.bind_some, if_pos hs, if_pos hs]
  cases rightB s <;> simp
theorem words_go (l : List ByteArray) (hl : l.length < 1000000) : ∀ (j i e : Nat), i + j = l.length → oublietteref01_Words.l0 (j + 1 + e) l l i = some true
  | 0, i, e, hi => by rw [show 0 + 1 + e = e + 1 by omega, oublietteref01_Words.l0, if_neg (by omega)]
  | j + 1, i, e, hi => by
    rw [show j + 1 + 1 + e = (j + 1 + e) + 1 by omega, oublietteref01_Words.l0, if_pos (by omega), if_pos (by omega), if_pos (by omega), if_pos rfl, show wrap64 ((i : Int) + 1) = ((i + 1 : Nat) : Int) by unfold wrap64; omega, words_go l hl j (i + 1) e (by omega)]
theorem words_eq (l : List ByteArray) (hl : l.length < 1000000) (k : Nat) (hk : l.length + 1 ≤ k) : oublietteref01_Words.f k l l = some true := by
  unfold oublietteref01_Words.f
  rw [if_pos rfl]
  obtain ⟨e, rfl⟩ : ∃ e, k = l.length + 1 + e := ⟨k - l.length - 1, by omega⟩
  exact words_go l hl l.length 0 e (by omega)
theorem joinB_nil : joinB [] = ⟨#[]⟩ := rfl
theorem joinB_one (x : ByteArray) : joinB [x] = x := by
  rw [joinB, List.map_cons, List.map_nil, Lib.join_one, str_of]
theorem join_snoc (sep : List UInt8) (x : List UInt8) (l : List (List UInt8)) (y : List UInt8) : Lib.join (x :: (l ++ [y])) sep = Lib.join (x :: l) sep ++ sep ++ y := by
  rw [Lib.join_cons, Lib.join_cons]
  unfold Lib.joinTail
  simp
theorem joinB_snoc (x : ByteArray) (l : List ByteArray) (y : ByteArray) : joinB (x :: (l ++ [y])) = (joinB (x :: l) ++ ⟨#[46]⟩) ++ y := by
  apply ByteArray.ext
  rw [← Array.toList_inj, ByteArray.data_append, ByteArray.data_append, Array.toList_append, Array.toList_append]
  show (Lib.join ((x :: (l ++ [y])).map (·.data.toList)) [46]).toArray.toList = (Lib.join ((x :: l).map (·.data.toList)) [46]).toArray.toList ++ [46] ++ y.data.toList
  rw [List.map_cons, List.map_append, List.map_cons, List.map_nil, join_snoc]
  simp
theorem rjoin_go (l : List ByteArray) (h4 : l.length ≤ 4) (hne : l ≠ []) (hps : ∀ p ∈ l, p.size < 200000) : ∀ (j i e : Nat), i + j = l.length → 1900000 ≤ e →
    oublietteref03_Join.l0 (j + 1 + e) l (joinB (l.take i)) i = some (if (l.drop i).all partB = true then (if rightB (joinB l) = true then (joinB l, 0) else (⟨#[]⟩, 6)) else (⟨#[]⟩, 3))
  | 0, i, e, hi, he => by
    have hz : (joinB l).size < 900000 := by
      have := join_size l h4 hps
      show (Lib.join (l.map (·.data.toList)) [46]).toArray.size < _
      simpa using this
    rw [show 0 + 1 + e = e + 1 by omega, oublietteref03_Join.l0, if_neg (by omega), List.drop_of_length_le (by omega), List.take_of_length_le (by omega), rright_eq _ hz e (by omega), Option.bind_some, List.all_nil, if_pos rfl]
    cases rightB (joinB l) <;> simp
  | j + 1, i, e, hi, he => by
    have hil : i < l.length := by omega
    have hg : rdOf ByteArray.empty l (i : Int) = l[i] := by simp [rdOf, List.getD, hil]
    have hp := hps l[i] (List.getElem_mem hil)
    have hz : (joinB (l.take i)).size < 900000 := by
      have := join_size (l.take i) (by rw [List.length_take]; omega) (fun p hp => hps p (List.mem_of_mem_take hp))
      show (Lib.join ((l.take i).map (·.data.toList)) [46]).toArray.size < _
      simpa using this
    have ih := rjoin_go l h4 hne hps j (i + 1) e (by omega) he
    rw [show j + 1 + 1 + e = (j + 1 + e) + 1 by omega, oublietteref03_Join.l0, if_pos (by omega), if_pos (by omega), hg, rpart_eq _ (by omega) _ (by omega), Option.bind_some, List.drop_eq_getElem_cons hil, List.all_cons, show wrap64 ((i : Int) + 1) = ((i + 1 : Nat) : Int) by unfold wrap64; omega]
    cases hb : partB l[i]
    · simp
    · rw [if_pos rfl, Bool.true_and]
      by_cases h0 : i = 0
      · subst h0
        rw [if_neg (by omega), if_pos (by omega)]
        have e1 : joinB (l.take 0) ++ l[0] = joinB (l.take (0 + 1)) := by
          rw [List.take_zero, joinB_nil, List.take_succ_eq_append_getElem hil, List.take_zero, List.nil_append, joinB_one]
          apply ByteArray.ext
          rw [ByteArray.data_append]
          show #[] ++ l[0].data = l[0].data
          rw [Array.empty_append]
        rw [e1]
        exact ih
      · rw [if_pos (by omega)]
        have hz1 : (joinB (l.take i) ++ (⟨#[46]⟩ : ByteArray)).size = (joinB (l.take i)).size + 1 := by rw [ByteArray.size_append]; rfl
        rw [if_pos (show (joinB (l.take i)).size + 1 ≤ 9223372036854775807 by omega), if_pos (show (joinB (l.take i) ++ (⟨#[46]⟩ : ByteArray)).size + l[i].size ≤ 9223372036854775807 by omega)]
        have e1 : (joinB (l.take i) ++ ⟨#[46]⟩) ++ l[i] = joinB (l.take (i + 1)) := by
          rw [List.take_succ_eq_append_getElem hil]
          rcases hq : l.take i with _ | ⟨x, t⟩
          · have := congrArg List.length hq
            rw [List.length_take, Nat.min_eq_left (by omega), List.length_nil] at this
            exact absurd this h0
          · rw [List.cons_append, joinB_snoc]
        rw [e1]
        exact ih
theorem rjoin_eq (l : List ByteArray) (hl : l.length < 1000000) (hps : ∀ p ∈ l, p.size < 200000) (k : Nat) (hk : 2000000 ≤ k) : oublietteref03_Join.f k l = name_Join.f l := by
  have hj : name_Join.f l = some (joinR l) := by
    unfold name_Join.f
    rw [if_pos (show l.length < 1000000 ∧ ∀ p ∈ l, p.size < 200000 from ⟨hl, hps⟩)]
  rw [hj]
  obtain ⟨e, rfl⟩ : ∃ e, k = e + 1 := ⟨k - 1, by omega⟩
  unfold oublietteref03_Join.f joinR
  by_cases h0 : l.length = 0
  · rw [if_pos (by omega), oublietteref03_Join.j0, if_pos rfl, if_pos (Or.inl h0)]
  · rw [if_neg (by omega)]
    by_cases h4 : 4 < l.length
    · rw [decide_eq_true (show (l.length : Int) > 4 by omega), oublietteref03_Join.j0, if_pos rfl, if_pos (Or.inr (Or.inl h4))]
    · rw [decide_eq_false (show ¬ (l.length : Int) > 4 by omega), oublietteref03_Join.j0, if_neg (by decide)]
      obtain ⟨e2, rfl⟩ : ∃ e2, e = l.length + 1 + e2 := ⟨e - l.length - 1, by omega⟩
      have h := rjoin_go l (by omega) (fun h => h0 (by rw [h]; rfl)) hps l.length 0 e2 (by omega) (by omega)
      rw [List.take_zero, joinB_nil, List.drop_zero] at h
      refine h.trans ?_
      cases ha : l.all partB
      · rw [if_neg (by decide), if_pos (Or.inr (Or.inr rfl))]
      · rw [if_pos rfl, if_neg (show ¬ (l.length = 0 ∨ 4 < l.length ∨ true = false) from fun h => h.elim h0 (fun h => h.elim h4 (fun h => by cases h)))]
theorem nalive_eq : oubliettelaw03_alive.f = some true := by decide +kernel
end Go.Proofs.YtcaojgdnhmgmlaaDoor.Pure
end
section
/- NameBack, plainly. -/
set_option linter.unusedVariables false
namespace Go.Proofs.YtcaojgdnhmgmlaaDoor.Pure
open Go.RowKit Go.Proofs.YtcaojgdnhmgmlaaDoor.Q Go.Proofs.YtcaojgdnhmgmlaaDoorW.PrintWords Go.Proofs.YtcaojgdnhmgmlaaDoorW.PrintLast
theorem cmp_f (a b : ByteArray) (ha : a.size < 900000) (hb : b.size < 900000) : name_Cmp.f a b = some (cmpL (bothP a b).1 (bothP a b).2) := by
  unfold name_Cmp.f; rw [if_pos ⟨ha, hb⟩]
theorem below_f (a b : ByteArray) (ha : a.size < 900000) (hb : b.size < 900000) : name_Below.f a b = some (belowB a b) := by
  unfold name_Below.f; rw [if_pos ⟨ha, hb⟩]
theorem join_f (a : ByteArray) (ha : a.size < 200000) (i : Nat) : name_Join.f ((pieces a).take i) = some (joinR ((pieces a).take i)) := by
  unfold name_Join.f
  rw [if_pos (show ((pieces a).take i).length < 1000000 ∧ ∀ p ∈ (pieces a).take i, p.size < 200000 from ⟨by
    have := (pieces_len _ a rfl).2
    rw [List.length_take]; omega, fun p hp => by have := pieces_size _ a rfl p (List.mem_of_mem_take hp); omega⟩)]
theorem both_flip (a b : ByteArray) : bothP b a = ((bothP a b).2, (bothP a b).1) := by
  unfold bothP
  cases rightB a <;> cases rightB b <;> rfl
theorem NameBack_go (s : ByteArray) (hs : s.size ≤ 200) (hr : rightB s = true) : ∀ (j i e : Nat), 1 ≤ i → i + j = (pieces s).length →
    oubliettelaw03_NameBack.l0 (j + 1 + e) s (pieces s) i = some true
  | 0, i, e, h1, hi => by
    rw [show 0 + 1 + e = e + 1 by omega, oubliettelaw03_NameBack.l0, if_neg (by omega), below_f s s (by omega) (by omega), below_self, Option.bind_some, if_neg (by decide), nalive_eq, Option.bind_some]
  | j + 1, i, e, h1, hi => by
    obtain ⟨b1, b2, b3⟩ := below_take s hr i h1 (by omega)
    have hc : name_Cmp.f (joinB ((pieces s).take i)) s = some (-1) := by
      rw [cmp_f _ s (by omega) (by omega)]
      unfold bothP
      rw [if_pos ⟨right_take s hr i h1, hr⟩, pieces_take s i h1, cmpL_take _ i (by omega)]
    have hl := (right_split s hr).2.1
    rw [show j + 1 + 1 + e = (j + 1 + e) + 1 by omega, oubliettelaw03_NameBack.l0, if_pos (by omega), if_pos (by omega), if_pos (by omega), Int.toNat_natCast, join_f s (by omega) i, joinR_take s hr i h1, Option.bind_some, if_pos rfl,
      below_f s (joinB ((pieces s).take i)) (by omega) (by omega), b1, Option.bind_some, if_pos rfl, below_f (joinB ((pieces s).take i)) s (by omega) (by omega), b2, Option.bind_some, if_neg (by decide), hc, Option.bind_some, if_neg (by decide),
      show wrap64 ((i : Int) + 1) = ((i + 1 : Nat) : Int) by unfold wrap64; omega]
    exact NameBack_go s hs hr j (i + 1) e (by omega) (by omega)
theorem NameBack : oubliettelaw03_NameBack.Pure := by
  intro a b _ _
  unfold oubliettelaw03_NameBack.f
  by_cases h1 : (a.size : Int) > 200
  · exact ⟨1, by rw [if_pos h1, oubliettelaw03_NameBack.j0, if_pos rfl, nalive_eq, Option.bind_some]⟩
  simp only [if_neg h1]
  by_cases h2 : (b.size : Int) > 200
  · exact ⟨1, by rw [decide_eq_true h2, oubliettelaw03_NameBack.j0, if_pos rfl, nalive_eq, Option.bind_some]⟩
  rw [decide_eq_false h2]
  have hw : ∀ l r : List ByteArray, cmpL l r = wrap64 (-cmpL r l) := fun l r => by
    obtain ⟨q1, q2, q3⟩ := cmpL_flip l r
    rw [← q1]; unfold wrap64; omega
  have hsp : name_Split.f a = some (if rightB a = true then pieces a else []) := by unfold name_Split.f; rw [if_pos (by omega)]
  have hri : name_Right.f a = some (rightB a) := by unfold name_Right.f; rw [if_pos (by omega)]
  refine ⟨((pieces a).length - 1 + 1 + 0) + 1 + 1, ?_⟩
  rw [oubliettelaw03_NameBack.j0, if_neg (by decide), cmp_f a b (by omega) (by omega), cmp_f b a (by omega) (by omega), Option.bind_some, Option.bind_some, both_flip a b, if_pos (hw _ _)]
  cases hr : rightB a
  · rw [hr, if_neg (by decide)] at hsp
    rw [hr] at hri
    rw [hsp, Option.bind_some, hri, Option.bind_some, if_neg (by decide), if_pos (by rfl), below_f a b (by omega) (by omega), show belowB a b = false from by unfold belowB; rw [hr]; rfl, Option.bind_some, if_neg (by decide), nalive_eq, Option.bind_some]
  · rw [hr, if_pos rfl] at hsp
    rw [hr] at hri
    have hj := join_f a (by omega) (pieces a).length
    rw [List.take_length, joinR_pieces a hr] at hj
    have hp := pieces_pos a
    rw [hsp, Option.bind_some, hri, Option.bind_some, if_pos rfl, hj, Option.bind_some, if_pos rfl, show ((a, (0 : Int)).2 != 0) = false from rfl, oubliettelaw03_NameBack.j1, if_neg (by decide)]
    exact NameBack_go a (by omega) hr ((pieces a).length - 1) 1 0 (by omega) (by omega)
end Go.Proofs.YtcaojgdnhmgmlaaDoor.Pure
end

/- NumRows: any bytes filled up, held against others, and by turns put over others, are the document's; no condition. -/
import Derived.Test.YtbodefikbonjaaaQx4
import Derived.Test.YtbodefikbonjaaaNumPlain
set_option linter.unusedVariables false
namespace Go.Proofs.Ytbodefikbonjaaa.Pure
open Go.RowKit Go.Proofs.Ytbodefikbonjaaa.Q Go.Proofs.YtbodefikbonjaaaW.PrintWords Go.Proofs.YtbodefikbonjaaaW.PrintLast

theorem u8_inj : ∀ (a b : List Int), isU8 a → isU8 b → (strOfNums a).toList = (strOfNums b).toList → a = b := by
  intro a b ha hb h
  rw [ByteArray.toList_eq, ByteArray.toList_eq, strOfNums_data, strOfNums_data] at h
  induction a generalizing b with
  | nil => cases b with
    | nil => rfl
    | cons y b => simp at h
  | cons x a ih => cases b with
    | nil => simp at h
    | cons y b =>
      simp only [List.map_cons, List.cons.injEq] at h
      have hx := u8_of (ha x (by simp))
      have hy := u8_of (hb y (by simp))
      have e := congrArg UInt8.toNat h.1
      simp at e
      have : x = y := by omega
      rw [this, ih b (fun z hz => ha z (by simp [hz])) (fun z hz => hb z (by simp [hz])) h.2]
theorem num_same_some (a b : List Int) (ha : isU8 a) (hb : isU8 b) : num_Same.f a b = some (decide (a = b)) := by
  unfold num_Same.f bytes_Equal.f
  rw [Option.bind_some]
  congr 1
  by_cases h : a = b
  · subst h; simp
  · rw [decide_eq_false h]
    exact beq_eq_false_iff_ne.2 fun e => h (u8_inj a b ha hb e)

/-! Pad. -/
def padTo (l : List Int) (n i : Nat) : List Int := l.take i ++ List.replicate (n - i) 0
theorem padTo_len (l : List Int) (n i : Nat) (h : i ≤ n) (h2 : i ≤ l.length) : (padTo l n i).length = n := by simp [padTo]; omega
theorem padTo_set (l : List Int) (n i : Nat) (h : i < n) (h2 : i < l.length) : (padTo l n i).set i l[i] = padTo l n (i + 1) := by
  unfold padTo
  have hl : (l.take i).length = i := by rw [List.length_take]; omega
  rw [List.set_append_right _ _ (by omega), hl, Nat.sub_self]
  obtain ⟨d, hd⟩ : ∃ d, n - i = d + 1 := ⟨n - i - 1, by omega⟩
  rw [hd, List.replicate_succ, List.set_cons_zero, take_snoc_get l i h2, List.append_assoc, show n - (i + 1) = d from by omega]
  rfl
theorem padTo_end (l : List Int) (n i : Nat) (h : i = min l.length n) : padTo l n i = padL l n := by
  subst h
  simp [padTo, padL]
theorem pad_l0 (l : List Int) (n : Nat) (hn : n ≤ 65536) (d : Nat) : ∀ (k i : Nat), i + d = min l.length n → oublietteref01_Pad.l0 (k + d + 1) l (n : Int) (padTo l n i) (i : Int) = some (padL l n) := by
  induction d with
  | zero =>
    intro k i hi
    rw [oublietteref01_Pad.l0, padTo_end l n i (by omega)]
    by_cases h : (i : Int) < (n : Int)
    · rw [if_pos h, if_neg (by omega)]
    · rw [if_neg h]
  | succ d ih =>
    intro k i hi
    rw [show k + (d + 1) + 1 = (k + d + 1) + 1 from by omega, oublietteref01_Pad.l0, if_pos (by omega), if_pos (by omega), if_pos (by omega), padTo_len l n i (by omega) (by omega), if_pos (by omega), rd_get l i (by omega), Int.toNat_natCast,
      padTo_set l n i (by omega) (by omega), wrap_small _ (by omega) (by omega)]
    exact ih k (i + 1) (by omega)
theorem pad_ev (l : List Int) (size : Int) : ∃ K, ∀ k, K ≤ k → oublietteref01_Pad.f k l size = some (if size < 1 ∨ 65536 < size then [] else padL l size.toNat) := by
  refine ⟨70000, fun k hk => ?_⟩
  obtain ⟨k, rfl⟩ : ∃ m, k = m + 1 := ⟨k - 1, by omega⟩
  unfold oublietteref01_Pad.f
  by_cases hs : size < 1
  · rw [if_pos hs, if_pos (Or.inl hs), oublietteref01_Pad.j0, if_pos rfl]
  · rw [if_neg hs]
    by_cases hs8 : 65536 < size
    · rw [if_pos (Or.inr hs8), oublietteref01_Pad.j0, if_pos (decide_eq_true hs8)]
    · rw [if_neg (by omega), oublietteref01_Pad.j0, if_neg (by simp; omega)]
      obtain ⟨s, rfl⟩ := Int.eq_ofNat_of_zero_le (show 0 ≤ size by omega)
      rw [if_pos (by omega), Int.toNat_natCast, if_pos (by omega)]
      have := pad_l0 l s (by omega) (min l.length s) (k - min l.length s - 1) 0 (by omega)
      rw [show k - min l.length s - 1 + min l.length s + 1 = k from by omega] at this
      simpa [padTo] using this
theorem padL_len (l : List Int) (n : Nat) : (padL l n).length ≤ n := by simp [padL]; omega

/-! Xor. -/
theorem xor_l0 (a b : List Int) (hb : min a.length b.length ≤ 1000) (d : Nat) : ∀ (k i : Nat), i + d = min a.length b.length → oublietteref01_Xor.l0 (k + d + 1) a b ((List.range i).map (xorAt a b)) (i : Int) = some (xorL a b) := by
  induction d with
  | zero =>
    intro k i hi
    rw [oublietteref01_Xor.l0]
    have : i = min a.length b.length := by omega
    subst this
    by_cases h : ((min a.length b.length : Nat) : Int) < (a.length : Int)
    · rw [if_pos h, if_neg (by omega)]
      rfl
    · rw [if_neg h]
      rfl
  | succ d ih =>
    intro k i hi
    rw [show k + (d + 1) + 1 = (k + d + 1) + 1 from by omega, oublietteref01_Xor.l0, if_pos (by omega), if_pos (by omega), if_pos (by omega), if_pos (by simp; omega), wrap_small _ (by omega) (by omega)]
    have := ih k (i + 1) (by omega)
    rw [List.range_succ, List.map_append] at this
    exact this
theorem xor_ev (a b : List Int) (hb : min a.length b.length ≤ 1000) : ∃ K, ∀ k, K ≤ k → oublietteref01_Xor.f k a b = some (xorL a b) := by
  refine ⟨1001, fun k hk => ?_⟩
  unfold oublietteref01_Xor.f
  have := xor_l0 a b hb (min a.length b.length) (k - min a.length b.length - 1) 0 (by omega)
  rw [show k - min a.length b.length - 1 + min a.length b.length + 1 = k from by omega] at this
  exact this
theorem num_xor_some (a b : List Int) (h : a.length ≤ 1000) : num_Xor.f a b = some (xorL a b) := by
  unfold num_Xor.f
  rw [if_pos (by omega)]

theorem rows_rest (l0 l1 : List Int) (a2 : Int) (hw0 : isU8 l0) (hw1 : isU8 l1) (h0 : l0.length ≤ 300) (h1 : l1.length ≤ 300) : ∃ K, ∀ k, K ≤ k → oubliettelaw01_NumRows.j0 k l0 l1 a2 false = some true := by
  obtain ⟨p, hp⟩ : ∃ p, p = (if a2 < 1 ∨ 65536 < a2 then [] else padL l0 a2.toNat) := ⟨_, rfl⟩
  have hpl : p.length ≤ 65536 := by
    rw [hp]
    split
    · simp
    · have := padL_len l0 a2.toNat; omega
  obtain ⟨K1, g1⟩ := pad_ev l0 a2
  obtain ⟨K2, g2⟩ := same_ev p p (by omega)
  obtain ⟨K3, g3⟩ := same_ev l0 l1 (by omega)
  obtain ⟨K4, g4⟩ := xor_ev l0 l1 (by omega)
  obtain ⟨K5, g5⟩ := same_ev (xorL l0 l1) (xorL l0 l1) (by simp [xorL]; omega)
  refine ⟨K1 + K2 + K3 + K4 + K5 + 1, fun k hk => ?_⟩
  obtain ⟨k, rfl⟩ : ∃ m, k = m + 1 := ⟨k - 1, by omega⟩
  rw [oubliettelaw01_NumRows.j0, if_neg (by simp), show num_Pad.f l0 a2 = some p from by rw [hp]; rfl, Option.bind_some, g1 _ (by omega), Option.bind_some, ← hp, g2 _ (by omega), Option.bind_some, decide_eq_true rfl, if_pos rfl,
    num_same_some l0 l1 hw0 hw1, Option.bind_some, g3 _ (by omega), Option.bind_some, if_pos (beq_self_eq_true _), num_xor_some l0 l1 (by omega), Option.bind_some, g4 _ (by omega), Option.bind_some, g5 _ (by omega), Option.bind_some,
    decide_eq_true rfl, if_pos rfl, num_alive]
  rfl
theorem rows_alive (l0 l1 : List Int) (a2 : Int) (k : Nat) (hk : 1 ≤ k) : oubliettelaw01_NumRows.j0 k l0 l1 a2 true = some true := by
  obtain ⟨k, rfl⟩ : ∃ m, k = m + 1 := ⟨k - 1, by omega⟩
  rw [oubliettelaw01_NumRows.j0, if_pos rfl, num_alive]
  rfl

theorem NumRows : oubliettelaw01_NumRows.Pure := by
  intro l0 l1 a2 _ _ hw0 _ _ hw1 _
  by_cases h0 : (l0.length : Int) > 300
  · refine ⟨1, ?_⟩
    unfold oubliettelaw01_NumRows.f
    rw [if_pos h0]
    exact rows_alive l0 l1 a2 1 (by omega)
  by_cases h1 : (l1.length : Int) > 300
  · refine ⟨1, ?_⟩
    unfold oubliettelaw01_NumRows.f
    rw [if_neg h0, if_pos h1]
    exact rows_alive l0 l1 a2 1 (by omega)
  obtain ⟨K, g⟩ := rows_rest l0 l1 a2 hw0 hw1 (by omega) (by omega)
  refine ⟨K + 1, ?_⟩
  unfold oubliettelaw01_NumRows.f
  rw [if_neg h0, if_neg h1]
  by_cases h2 : a2 > 2000
  · rw [if_pos h2]
    by_cases h3 : a2 ≤ 65536
    · rw [decide_eq_true h3]
      exact rows_alive l0 l1 a2 _ (by omega)
    · rw [decide_eq_false h3]
      exact g _ (by omega)
  · rw [if_neg h2]
    exact g _ (by omega)
end Go.Proofs.Ytbodefikbonjaaa.Pure

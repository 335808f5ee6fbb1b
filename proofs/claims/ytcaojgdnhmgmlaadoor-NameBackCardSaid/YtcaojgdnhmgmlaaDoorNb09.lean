import Derived.Test.YtcaojgdnhmgmlaaDoorNb06
import Derived.Test.YtcaojgdnhmgmlaaDoorNb01
section
/- A name parted and joined again, and compared, plainly. -/
set_option linter.unusedVariables false
set_option linter.unusedSimpArgs false
namespace Go.Proofs.YtcaojgdnhmgmlaaDoor.Pure
open Go.RowKit Go.Proofs.YtcaojgdnhmgmlaaDoor.Q Go.Proofs.YtcaojgdnhmgmlaaDoorW.PrintWords Go.Proofs.YtcaojgdnhmgmlaaDoorW.PrintLast

theorem joinTail_cons (y : List UInt8) (r : List (List UInt8)) : Lib.joinTail [46] (y :: r) = 46 :: Lib.join (y :: r) [46] := by
  rw [Lib.join_cons]; simp [Lib.joinTail]
theorem pcs_join : ∀ l, Lib.join (pcs l) [46] = l
  | [] => by simp [pcs, Lib.join_one]
  | c :: t => by
    have ih := pcs_join t
    obtain ⟨q, qs, hq⟩ : ∃ q qs, pcs t = q :: qs := by
      rcases h : pcs t with _ | ⟨q, qs⟩
      · exact absurd h (pcs_ne t)
      · exact ⟨q, qs, rfl⟩
    by_cases hc : c = 46
    · subst hc
      rw [pcs_point, Lib.join_cons, hq, joinTail_cons, ← hq, ih]; rfl
    · obtain ⟨p, ps, h1, h2⟩ := pcs_other c t hc
      rw [h2, Lib.join_cons, List.cons_append, ← Lib.join_cons, ← h1, ih]
theorem pcs_no : ∀ l, ∀ p ∈ pcs l, (46 : UInt8) ∉ p
  | [], p, hp => by
    have : p = [] := by simpa [pcs] using hp
    subst this; simp
  | c :: t, p, hp => by
    by_cases hc : c = 46
    · subst hc
      rw [pcs_point] at hp
      rcases List.mem_cons.1 hp with rfl | hp
      · simp
      · exact pcs_no t p hp
    · obtain ⟨q, qs, h1, h2⟩ := pcs_other c t hc
      rw [h2] at hp
      rcases List.mem_cons.1 hp with rfl | hp
      · intro h
        rcases List.mem_cons.1 h with h | h
        · exact hc h.symm
        · exact pcs_no t q (by rw [h1]; exact List.mem_cons_self) h
      · exact pcs_no t p (by rw [h1]; exact List.mem_cons_of_mem _ hp)
theorem pcs_one : ∀ p : List UInt8, (46 : UInt8) ∉ p → pcs p = [p]
  | [], _ => rfl
  | c :: t, h => by
    obtain ⟨q, qs, h1, h2⟩ := pcs_other c t (fun e => h (by rw [e]; exact List.mem_cons_self))
    rw [pcs_one t (fun e => h (List.mem_cons_of_mem _ e))] at h1
    obtain ⟨rfl, rfl⟩ := List.cons.inj h1
    exact h2
theorem pcs_first : ∀ (p r : List UInt8), (46 : UInt8) ∉ p → pcs (p ++ 46 :: r) = p :: pcs r
  | [], r, _ => by rw [List.nil_append, pcs_point]
  | c :: t, r, h => by
    obtain ⟨q, qs, h1, h2⟩ := pcs_other c (t ++ 46 :: r) (fun e => h (by rw [e]; exact List.mem_cons_self))
    rw [pcs_first t r (fun e => h (List.mem_cons_of_mem _ e))] at h1
    obtain ⟨rfl, rfl⟩ := List.cons.inj h1
    rw [List.cons_append]; exact h2
theorem join_pcs : ∀ ps : List (List UInt8), ps ≠ [] → (∀ p ∈ ps, (46 : UInt8) ∉ p) → pcs (Lib.join ps [46]) = ps
  | [], h, _ => absurd rfl h
  | [p], _, h => by rw [Lib.join_one, pcs_one p (h p List.mem_cons_self)]
  | p :: q :: ps, _, h => by
    rw [Lib.join_cons, joinTail_cons, pcs_first p _ (h p List.mem_cons_self), join_pcs (q :: ps) (by simp) (fun x hx => h x (List.mem_cons_of_mem _ hx))]
theorem join_two (a : List (List UInt8)) (b : List (List UInt8)) (ha : a ≠ []) (hb : b ≠ []) : Lib.join (a ++ b) [46] = Lib.join a [46] ++ 46 :: Lib.join b [46] := by
  rcases a with _ | ⟨x, a⟩
  · exact absurd rfl ha
  rcases b with _ | ⟨y, b⟩
  · exact absurd rfl hb
  rw [List.cons_append, Lib.join_cons, Lib.join_cons, ← joinTail_cons]
  simp [Lib.joinTail]
theorem map_data (l : List (List UInt8)) : (l.map fun l => (⟨l.toArray⟩ : ByteArray)).map (·.data.toList) = l := by
  rw [List.map_map]
  exact List.map_id'' (fun x => rfl) l
theorem pieces_data (s : ByteArray) : (pieces s).map (·.data.toList) = pcs s.data.toList := by rw [pieces, map_data]
theorem joinB_data (l : List ByteArray) : (joinB l).data.toList = Lib.join (l.map (·.data.toList)) [46] := rfl
theorem joinB_pieces (s : ByteArray) : joinB (pieces s) = s := by
  rw [joinB, pieces_data, pcs_join, str_of]
theorem pieces_take (s : ByteArray) (i : Nat) (hi : 1 ≤ i) : pieces (joinB ((pieces s).take i)) = (pieces s).take i := by
  have h1 : ((pieces s).take i).map (·.data.toList) = (pcs s.data.toList).take i := by rw [List.map_take, pieces_data]
  rw [pieces, joinB_data, h1, join_pcs]
  · rw [pieces, List.map_take]
  · intro h
    have := congrArg List.length h
    rw [List.length_take, List.length_nil] at this
    have h2 := List.length_pos_iff.2 (pcs_ne s.data.toList)
    omega
  · exact fun p hp => pcs_no _ p (List.mem_of_mem_take hp)
theorem take_data (s : ByteArray) (i : Nat) (hi : 1 ≤ i) (hl : i < (pieces s).length) : ∃ r, s.data.toList = ((joinB ((pieces s).take i)).data.toList ++ [46]) ++ r := by
  have h1 : ((pieces s).take i).map (·.data.toList) = (pcs s.data.toList).take i := by rw [List.map_take, pieces_data]
  have h3 : (pieces s).length = (pcs s.data.toList).length := by rw [pieces, List.length_map]
  refine ⟨Lib.join ((pcs s.data.toList).drop i) [46], ?_⟩
  rw [joinB_data, h1]
  have h2 := pcs_join s.data.toList
  rw [← List.take_append_drop i (pcs s.data.toList), join_two] at h2
  · refine h2.symm.trans ?_; simp
  · intro h
    have := congrArg List.length h
    rw [List.length_take, List.length_nil] at this
    omega
  · intro h
    have := congrArg List.length h
    rw [List.length_drop, List.length_nil] at this
    omega
theorem less_tri : ∀ x y : List UInt8, (Op.bytesLess x y = true ∧ Op.bytesLess y x = false ∧ x ≠ y) ∨ (Op.bytesLess x y = false ∧ Op.bytesLess y x = true ∧ x ≠ y) ∨ (x = y ∧ Op.bytesLess x y = false)
  | [], [] => .inr (.inr ⟨rfl, rfl⟩)
  | [], _ :: _ => .inl ⟨rfl, rfl, by simp⟩
  | _ :: _, [] => .inr (.inl ⟨rfl, rfl, by simp⟩)
  | a :: x, b :: y => by
    have hab : a < b ∨ b < a ∨ a = b := by
      have : a.toNat < b.toNat ∨ b.toNat < a.toNat ∨ a.toNat = b.toNat := by omega
      rcases this with h | h | h
      · exact .inl (UInt8.lt_iff_toNat_lt.2 h)
      · exact .inr (.inl (UInt8.lt_iff_toNat_lt.2 h))
      · exact .inr (.inr (UInt8.toNat_inj.1 h))
    have hnn : ∀ {p q : UInt8}, p < q → ¬ q < p ∧ p ≠ q ∧ q ≠ p := fun {p q} h => by
      have h := UInt8.lt_iff_toNat_lt.1 h
      exact ⟨fun h2 => by have := UInt8.lt_iff_toNat_lt.1 h2; omega, fun e => by subst e; omega, fun e => by subst e; omega⟩
    rcases hab with h | h | h
    · obtain ⟨h1, h2, h3⟩ := hnn h
      exact .inl ⟨by simp [Op.bytesLess, h], by simp [Op.bytesLess, h1, h2, h3], by simp [h2]⟩
    · obtain ⟨h1, h2, h3⟩ := hnn h
      exact .inr (.inl ⟨by simp [Op.bytesLess, h1, h2, h3], by simp [Op.bytesLess, h], by simp [h3]⟩)
    · subst h
      have hi : ¬ a < a := fun h => (hnn h).2.1 rfl
      rcases less_tri x y with ⟨h1, h2, h3⟩ | ⟨h1, h2, h3⟩ | ⟨h1, h2⟩
      · exact .inl ⟨by simp [Op.bytesLess, hi, h1], by simp [Op.bytesLess, hi, h2], by simp [h3]⟩
      · exact .inr (.inl ⟨by simp [Op.bytesLess, hi, h1], by simp [Op.bytesLess, hi, h2], by simp [h3]⟩)
      · exact .inr (.inr ⟨by rw [h1], by simp [Op.bytesLess, hi, h2]⟩)
theorem cmpS_flip (a b : ByteArray) : cmpS a b = -cmpS b a ∧ -1 ≤ cmpS a b ∧ cmpS a b ≤ 1 := by
  unfold cmpS
  rcases less_tri a.toList b.toList with ⟨h1, h2, h3⟩ | ⟨h1, h2, h3⟩ | ⟨h1, h2⟩
  · have : ¬ b.toList = a.toList := fun e => h3 e.symm
    simp [h1, h2, h3, this]
  · have : ¬ b.toList = a.toList := fun e => h3 e.symm
    simp [h1, h2, h3, this]
  · rw [h1] at h2 ⊢
    simp [h2]
theorem cmpS_self (a : ByteArray) : cmpS a a = 0 := by
  have := (cmpS_flip a a).1; omega
theorem cmpL_flip : ∀ l r : List ByteArray, cmpL l r = -cmpL r l ∧ -1 ≤ cmpL l r ∧ cmpL l r ≤ 1
  | [], [] => by simp [cmpL]
  | [], _ :: _ => by simp [cmpL]
  | _ :: _, [] => by simp [cmpL]
  | x :: xs, y :: ys => by
    have h := cmpS_flip x y
    have ih := cmpL_flip xs ys
    unfold cmpL
    by_cases h0 : cmpS x y = 0
    · rw [if_pos h0, if_pos (by omega)]; exact ih
    · rw [if_neg h0, if_neg (by omega)]; exact h
theorem cmpL_take : ∀ (l : List ByteArray) (i : Nat), i < l.length → cmpL (l.take i) l = -1
  | [], i, h => absurd h (by simp)
  | x :: xs, 0, h => by simp [cmpL]
  | x :: xs, i + 1, h => by
    rw [List.take_succ_cons, cmpL, if_pos (cmpS_self x)]
    exact cmpL_take xs i (by simpa using h)
theorem foldl_add' (l : List Nat) : ∀ a : Nat, l.foldl (· + ·) a = a + l.foldl (· + ·) 0 := by
  induction l with
  | nil => simp
  | cons x t ih => intro a; simp only [List.foldl_cons]; rw [ih (a + x), ih (0 + x)]; omega
theorem runesN_cons' (p : ByteArray) (l : List ByteArray) : runesN (p :: l) = ((runesOf p).1.length + 1) + runesN l := by
  unfold runesN
  rw [List.map_cons, List.foldl_cons, foldl_add']; omega
theorem runesN_take : ∀ (l : List ByteArray) (i : Nat), runesN (l.take i) ≤ runesN l
  | [], i => by simp
  | x :: xs, 0 => by simp [runesN]
  | x :: xs, i + 1 => by
    rw [List.take_succ_cons, runesN_cons', runesN_cons']
    have := runesN_take xs i
    omega
theorem right_split (s : ByteArray) (h : rightB s = true) : (pieces s).all partB = true ∧ (pieces s).length ≤ 4 ∧ runesN (pieces s) ≤ 25 := by
  unfold rightB at h
  simp only [Bool.and_eq_true, decide_eq_true_eq] at h
  exact ⟨h.1.1, h.1.2, h.2⟩
theorem right_take (s : ByteArray) (h : rightB s = true) (i : Nat) (hi : 1 ≤ i) : rightB (joinB ((pieces s).take i)) = true := by
  obtain ⟨h1, h2, h3⟩ := right_split s h
  unfold rightB
  rw [pieces_take s i hi]
  have h4 := runesN_take (pieces s) i
  simp only [Bool.and_eq_true, decide_eq_true_eq]
  refine ⟨⟨List.all_eq_true.2 fun p hp => List.all_eq_true.1 h1 p (List.mem_of_mem_take hp), ?_⟩, by omega⟩
  rw [List.length_take]; omega
theorem joinR_take (s : ByteArray) (h : rightB s = true) (i : Nat) (hi : 1 ≤ i) : joinR ((pieces s).take i) = (joinB ((pieces s).take i), 0) := by
  obtain ⟨h1, h2, h3⟩ := right_split s h
  have h5 := pieces_pos s
  have h6 : ((pieces s).take i).length = min i (pieces s).length := List.length_take
  unfold joinR
  rw [if_neg, if_pos (right_take s h i hi)]
  rintro (h4 | h4 | h4)
  · omega
  · omega
  · rw [List.all_eq_true.2 fun p hp => List.all_eq_true.1 h1 p (List.mem_of_mem_take hp)] at h4
    cases h4
theorem joinR_pieces (s : ByteArray) (h : rightB s = true) : joinR (pieces s) = (s, 0) := by
  have := joinR_take s h (pieces s).length (pieces_pos s)
  rw [List.take_length, joinB_pieces] at this
  exact this
theorem below_take (s : ByteArray) (h : rightB s = true) (i : Nat) (hi : 1 ≤ i) (hl : i < (pieces s).length) : belowB s (joinB ((pieces s).take i)) = true ∧ belowB (joinB ((pieces s).take i)) s = false ∧ (joinB ((pieces s).take i)).size < s.size := by
  obtain ⟨r, hr⟩ := take_data s i hi hl
  have hlen := congrArg List.length hr
  rw [List.length_append, List.length_append, Array.length_toList, Array.length_toList] at hlen
  have hz : (joinB ((pieces s).take i)).size < s.size := by
    have e1 : (joinB ((pieces s).take i)).data.size = (joinB ((pieces s).take i)).size := rfl
    have e2 : s.data.size = s.size := rfl
    simp at hlen
    omega
  refine ⟨?_, ?_, hz⟩
  · unfold belowB
    rw [h, right_take s h i hi, Bool.true_and, Bool.true_and, Lib.hasPrefix, hr]
    exact List.isPrefixOf_iff_prefix.2 ⟨r, rfl⟩
  · unfold belowB Lib.hasPrefix
    rw [Bool.and_eq_false_iff, Bool.and_eq_false_iff]
    refine .inr (.inr ?_)
    rw [Bool.eq_false_iff]
    intro h2
    have := (List.isPrefixOf_iff_prefix.1 h2).length_le
    rw [List.length_append, Array.length_toList, Array.length_toList] at this
    have e1 : (joinB ((pieces s).take i)).data.size = (joinB ((pieces s).take i)).size := rfl
    have e2 : s.data.size = s.size := rfl
    simp at this
    omega
theorem below_self (s : ByteArray) : belowB s s = false := by
  unfold belowB Lib.hasPrefix
  rw [Bool.and_eq_false_iff, Bool.and_eq_false_iff]
  refine .inr (.inr ?_)
  rw [Bool.eq_false_iff]
  intro h2
  have := (List.isPrefixOf_iff_prefix.1 h2).length_le
  rw [List.length_append] at this
  simp at this
  omega
end Go.Proofs.YtcaojgdnhmgmlaaDoor.Pure
end
section
/- Functions of the seat as plain Lean functions, and that the calls do what these say; conditions stand in each theorem. (Written by a program of this seat's prover, by the kit's printer; Lean checks it.) -/
namespace Go.Proofs.YtcaojgdnhmgmlaaDoor.Q
open Go.RowKit Go.Proofs.YtcaojgdnhmgmlaaDoorW.PrintWords Go.Proofs.YtcaojgdnhmgmlaaDoorW.PrintLast Go.Proofs.YtcaojgdnhmgmlaaDoorW.PrintMore
attribute [local go_sem] max2_int min2_int max_two min_two max_three min_three max_four min_four   -- for this text's walks alone
set_option linter.unusedVariables false
set_option linter.unusedSimpArgs false

/-! ### oublietteref02_Right: function 69 -/
def oublietteref02_Right.f (a0 : Int) : Option (Bool) := if a0 ≥ 0 then (if a0 ≤ 1114111 then (if a0 < 55296 then (some true) else (some (decide (a0 > 57343)))) else (some false)) else (some false)
set_option maxHeartbeats 8000000 in
set_option maxRecDepth 100000 in
theorem oublietteref02_Right.calls (a0 : Int) (r : Bool) (w : World) (h : oublietteref02_Right.f a0 = some r) :
    Calls Tryd.prog 69 #[.int .i32 a0] w fun e w' => e = .returned (.bool r) ∧ Drawn0 w w' := by
  have H : (if a0 ≥ 0 then (if a0 ≤ 1114111 then (if a0 < 55296 then (some true) else (some (decide (a0 > 57343)))) else (some false)) else (some false)) = some r := h
  clear h
  by_cases c2 : a0 ≥ 0
  · rw [if_pos c2] at H
    have c2b0 : decide (0 ≤ a0) = true := decide_eq_true c2
    clear c2
    by_cases c3 : a0 ≤ 1114111
    · rw [if_pos c3] at H
      have c3b0 : decide (a0 ≤ 1114111) = true := decide_eq_true c3
      clear c3
      by_cases c4 : a0 < 55296
      · rw [if_pos c4] at H
        have c4b0 : decide (a0 < 55296) = true := decide_eq_true c4
        clear c4
        obtain rfl := Option.some.inj H
        go_enter Tryd.func69, Tryd.ntmps69
        go_wp2
        go_ret
        exact ⟨by first | rfl | (simp; done) | (simp [*]; done), by repeat (first | exact Drawn0.refl _ | apply Drawn0.step)⟩
      · rw [if_neg c4] at H
        have c4b0 : decide (a0 < 55296) = false := decide_eq_false c4
        clear c4
        obtain rfl := Option.some.inj H
        go_enter Tryd.func69, Tryd.ntmps69
        go_wp2
        go_ret
        exact ⟨by first | rfl | (simp; done) | (simp [*]; done), by repeat (first | exact Drawn0.refl _ | apply Drawn0.step)⟩
    · rw [if_neg c3] at H
      have c3b0 : decide (a0 ≤ 1114111) = false := decide_eq_false c3
      clear c3
      obtain rfl := Option.some.inj H
      go_enter Tryd.func69, Tryd.ntmps69
      go_wp2
      go_ret
      exact ⟨by first | rfl | (simp; done) | (simp [*]; done), by repeat (first | exact Drawn0.refl _ | apply Drawn0.step)⟩
  · rw [if_neg c2] at H
    have c2b0 : decide (0 ≤ a0) = false := decide_eq_false c2
    clear c2
    obtain rfl := Option.some.inj H
    go_enter Tryd.func69, Tryd.ntmps69
    go_wp2
    go_ret
    exact ⟨by first | rfl | (simp; done) | (simp [*]; done), by repeat (first | exact Drawn0.refl _ | apply Drawn0.step)⟩

end Go.Proofs.YtcaojgdnhmgmlaaDoor.Q
end
section
/- Functions of the seat as plain Lean functions, and that the calls do what these say; conditions stand in each theorem. (Written by a program of this seat's prover, by the kit's printer; Lean checks it.) -/
namespace Go.Proofs.YtcaojgdnhmgmlaaDoor.Q
open Go.RowKit Go.Proofs.YtcaojgdnhmgmlaaDoorW.PrintWords Go.Proofs.YtcaojgdnhmgmlaaDoorW.PrintLast Go.Proofs.YtcaojgdnhmgmlaaDoorW.PrintMore
attribute [local go_sem] max2_int min2_int max_two min_two max_three min_three max_four min_four   -- for this text's walks alone
set_option linter.unusedVariables false
set_option linter.unusedSimpArgs false

/-! ### oublietteref02_Bytes: function 70 -/
def oublietteref02_Bytes.f (a0 : Int) : Option (List Int) := if a0 < 128 then (some (([(a0) % 256] : List Int))) else (if a0 < 2048 then (some (([(wrap32 (192 + (wrap32 (Int.tdiv a0 64)))) % 256, (wrap32 (128 + (Int.tmod a0 64))) % 256] : List Int))) else (if a0 < 65536 then (some (([(wrap32 (224 + (wrap32 (Int.tdiv a0 4096)))) % 256, (wrap32 (128 + (Int.tmod (wrap32 (Int.tdiv a0 64)) 64))) % 256, (wrap32 (128 + (Int.tmod a0 64))) % 256] : List Int))) else (some (([(wrap32 (240 + (wrap32 (Int.tdiv a0 262144)))) % 256, (wrap32 (128 + (Int.tmod (wrap32 (Int.tdiv a0 4096)) 64))) % 256, (wrap32 (128 + (Int.tmod (wrap32 (Int.tdiv a0 64)) 64))) % 256, (wrap32 (128 + (Int.tmod a0 64))) % 256] : List Int)))))
set_option maxHeartbeats 8000000 in
set_option maxRecDepth 100000 in
theorem oublietteref02_Bytes.calls (a0 : Int) (r : List Int) (w : World) (h : oublietteref02_Bytes.f a0 = some r) :
    Calls Tryd.prog 70 #[.int .i32 a0] w fun e w' => ∃ v0_ : Value, e = .returned (v0_) ∧ Kd.R (Kd.int .u8) 5 w' w.heap.size (fun _ => True) v0_ r ∧ Below w.heap.size w w' := by
  have HB := Aside0.mk (Below.refl w.heap.size w)
  have H : (if a0 < 128 then (some (([(a0) % 256] : List Int))) else (if a0 < 2048 then (some (([(wrap32 (192 + (wrap32 (Int.tdiv a0 64)))) % 256, (wrap32 (128 + (Int.tmod a0 64))) % 256] : List Int))) else (if a0 < 65536 then (some (([(wrap32 (224 + (wrap32 (Int.tdiv a0 4096)))) % 256, (wrap32 (128 + (Int.tmod (wrap32 (Int.tdiv a0 64)) 64))) % 256, (wrap32 (128 + (Int.tmod a0 64))) % 256] : List Int))) else (some (([(wrap32 (240 + (wrap32 (Int.tdiv a0 262144)))) % 256, (wrap32 (128 + (Int.tmod (wrap32 (Int.tdiv a0 4096)) 64))) % 256, (wrap32 (128 + (Int.tmod (wrap32 (Int.tdiv a0 64)) 64))) % 256, (wrap32 (128 + (Int.tmod a0 64))) % 256] : List Int)))))) = some r := h
  clear h
  by_cases c2 : a0 < 128
  · rw [if_pos c2] at H
    have c2b0 : decide (a0 < 128) = true := decide_eq_true c2
    clear c2
    obtain ⟨y166, hy166⟩ : ∃ y_ : List Int, y_ = (([(a0) % 256] : List Int)) := ⟨_, rfl⟩
    replace H : (some y166) = some r := by first | (rw [hy166]; with_reducible exact H) | (have H2_ := (Option.bind_some _ _).symm.trans H; rw [hy166]; with_reducible exact H2_) | (have H2_ := (Option.bind_some _ _).symm.trans H; with_reducible exact H2_) | with_reducible exact H | (rw [hy166]; exact H) | exact H
    have Ny166 := Aside0.mk hy166
    clear hy166
    obtain rfl := Option.some.inj H
    go_enter Tryd.func70, Tryd.ntmps70
    go_wp2_with (first | ((with_reducible refine gate_dst (N := 7) rfl ?_); refine Kd.R_lit (Kd.int .u8) _ 5 ?hg (N := 7) ?hd (xs := ([(a0) % 256] : List Int)) (inner := [.int .u8 ((a0) % 256)]) (ok := fun _ => True) (okp := fun _ => True) ?hr ?hp (fun _ hk => hk) trivial (Below.refl _ _) (Nat.le_refl _) (by simp) ?_; (case hd => rfl); (case hg => rfl); (case hr => first | (go_simp; done) | (go_simp; rfl)); (case hp => exact (Reps.one (show Kd.M (Kd.int .u8) _ _ _ ((a0) % 256) [.int .u8 ((a0) % 256)] from rfl) (Reps.none _ _))); intro v167 w3 ho4 hb hg_ hnew_; clear hg_ hnew_; (first | rw [← Ny166.out] at ho4 | (simp only [Int.reduceToNat] at ho4; rw [← Ny166.out] at ho4)); have n0_ := Aside0.mk (Kd.R_lower ho4 (below_size (by repeat (first | (with_reducible first | exact HB.out | apply below_alloc | apply pw_below_drewN | apply below_drew1) | exact HB.out)))); have n1_ := Aside0.mk (below_step (by repeat (first | (with_reducible first | exact HB.out | apply below_alloc | apply pw_below_drewN | apply below_drew1) | exact HB.out)) hb); clear HB; have HO168 := n0_; have HB := n1_; clear n0_ n1_; clear hb ho4))
    go_ret
    exact ⟨_, by first | rfl | (simp [errW_none, errW_some] <;> rfl) | (simp [*, errW_none, errW_some] <;> rfl), by (with_reducible repeat (first | apply Kd.R_alloc | apply Kd.R_drewN | apply Kd.R_drew)); exact HO168.out, by repeat (first | (with_reducible first | exact HB.out | apply below_alloc | apply pw_below_drewN | apply below_drew1) | exact HB.out)⟩
  · rw [if_neg c2] at H
    have c2b0 : decide (a0 < 128) = false := decide_eq_false c2
    clear c2
    by_cases c5 : a0 < 2048
    · rw [if_pos c5] at H
      have c5b0 : decide (a0 < 2048) = true := decide_eq_true c5
      clear c5
      obtain ⟨y169, hy169⟩ : ∃ y_ : List Int, y_ = (([(wrap32 (192 + (wrap32 (Int.tdiv a0 64)))) % 256, (wrap32 (128 + (Int.tmod a0 64))) % 256] : List Int)) := ⟨_, rfl⟩
      replace H : (some y169) = some r := by first | (rw [hy169]; with_reducible exact H) | (have H2_ := (Option.bind_some _ _).symm.trans H; rw [hy169]; with_reducible exact H2_) | (have H2_ := (Option.bind_some _ _).symm.trans H; with_reducible exact H2_) | with_reducible exact H | (rw [hy169]; exact H) | exact H
      have Ny169 := Aside0.mk hy169
      clear hy169
      obtain rfl := Option.some.inj H
      go_enter Tryd.func70, Tryd.ntmps70
      go_wp2_with (first | ((with_reducible refine gate_dst (N := 18) rfl ?_); refine Kd.R_lit (Kd.int .u8) _ 5 ?hg (N := 18) ?hd (xs := ([(wrap32 (192 + (wrap32 (Int.tdiv a0 64)))) % 256, (wrap32 (128 + (Int.tmod a0 64))) % 256] : List Int)) (inner := [.int .u8 ((wrap32 (192 + (wrap32 (Int.tdiv a0 64)))) % 256), .int .u8 ((wrap32 (128 + (Int.tmod a0 64))) % 256)]) (ok := fun _ => True) (okp := fun _ => True) ?hr ?hp (fun _ hk => hk) trivial (Below.refl _ _) (Nat.le_refl _) (by simp) ?_; (case hd => rfl); (case hg => rfl); (case hr => first | (go_simp; done) | (go_simp; rfl)); (case hp => exact (Reps.one (show Kd.M (Kd.int .u8) _ _ _ ((wrap32 (192 + (wrap32 (Int.tdiv a0 64)))) % 256) [.int .u8 ((wrap32 (192 + (wrap32 (Int.tdiv a0 64)))) % 256)] from rfl) (Reps.one (show Kd.M (Kd.int .u8) _ _ _ ((wrap32 (128 + (Int.tmod a0 64))) % 256) [.int .u8 ((wrap32 (128 + (Int.tmod a0 64))) % 256)] from rfl) (Reps.none _ _)))); intro v170 w6 ho7 hb hg_ hnew_; clear hg_ hnew_; (first | rw [← Ny169.out] at ho7 | (simp only [Int.reduceToNat] at ho7; rw [← Ny169.out] at ho7)); have n0_ := Aside0.mk (Kd.R_lower ho7 (below_size (by repeat (first | (with_reducible first | exact HB.out | apply below_alloc | apply pw_below_drewN | apply below_drew1) | exact HB.out)))); have n1_ := Aside0.mk (below_step (by repeat (first | (with_reducible first | exact HB.out | apply below_alloc | apply pw_below_drewN | apply below_drew1) | exact HB.out)) hb); clear HB; have HO171 := n0_; have HB := n1_; clear n0_ n1_; clear hb ho7))
      go_ret
      exact ⟨_, by first | rfl | (simp [errW_none, errW_some] <;> rfl) | (simp [*, errW_none, errW_some] <;> rfl), by (with_reducible repeat (first | apply Kd.R_alloc | apply Kd.R_drewN | apply Kd.R_drew)); exact HO171.out, by repeat (first | (with_reducible first | exact HB.out | apply below_alloc | apply pw_below_drewN | apply below_drew1) | exact HB.out)⟩
    · rw [if_neg c5] at H
      have c5b0 : decide (a0 < 2048) = false := decide_eq_false c5
      clear c5
      by_cases c8 : a0 < 65536
      · rw [if_pos c8] at H
        have c8b0 : decide (a0 < 65536) = true := decide_eq_true c8
        clear c8
        obtain ⟨y172, hy172⟩ : ∃ y_ : List Int, y_ = (([(wrap32 (224 + (wrap32 (Int.tdiv a0 4096)))) % 256, (wrap32 (128 + (Int.tmod (wrap32 (Int.tdiv a0 64)) 64))) % 256, (wrap32 (128 + (Int.tmod a0 64))) % 256] : List Int)) := ⟨_, rfl⟩
        replace H : (some y172) = some r := by first | (rw [hy172]; with_reducible exact H) | (have H2_ := (Option.bind_some _ _).symm.trans H; rw [hy172]; with_reducible exact H2_) | (have H2_ := (Option.bind_some _ _).symm.trans H; with_reducible exact H2_) | with_reducible exact H | (rw [hy172]; exact H) | exact H
        have Ny172 := Aside0.mk hy172
        clear hy172
        obtain rfl := Option.some.inj H
        go_enter Tryd.func70, Tryd.ntmps70
        go_wp2_with (first | ((with_reducible refine gate_dst (N := 34) rfl ?_); refine Kd.R_lit (Kd.int .u8) _ 5 ?hg (N := 34) ?hd (xs := ([(wrap32 (224 + (wrap32 (Int.tdiv a0 4096)))) % 256, (wrap32 (128 + (Int.tmod (wrap32 (Int.tdiv a0 64)) 64))) % 256, (wrap32 (128 + (Int.tmod a0 64))) % 256] : List Int)) (inner := [.int .u8 ((wrap32 (224 + (wrap32 (Int.tdiv a0 4096)))) % 256), .int .u8 ((wrap32 (128 + (Int.tmod (wrap32 (Int.tdiv a0 64)) 64))) % 256), .int .u8 ((wrap32 (128 + (Int.tmod a0 64))) % 256)]) (ok := fun _ => True) (okp := fun _ => True) ?hr ?hp (fun _ hk => hk) trivial (Below.refl _ _) (Nat.le_refl _) (by simp) ?_; (case hd => rfl); (case hg => rfl); (case hr => first | (go_simp; done) | (go_simp; rfl)); (case hp => exact (Reps.one (show Kd.M (Kd.int .u8) _ _ _ ((wrap32 (224 + (wrap32 (Int.tdiv a0 4096)))) % 256) [.int .u8 ((wrap32 (224 + (wrap32 (Int.tdiv a0 4096)))) % 256)] from rfl) (Reps.one (show Kd.M (Kd.int .u8) _ _ _ ((wrap32 (128 + (Int.tmod (wrap32 (Int.tdiv a0 64)) 64))) % 256) [.int .u8 ((wrap32 (128 + (Int.tmod (wrap32 (Int.tdiv a0 64)) 64))) % 256)] from rfl) (Reps.one (show Kd.M (Kd.int .u8) _ _ _ ((wrap32 (128 + (Int.tmod a0 64))) % 256) [.int .u8 ((wrap32 (128 + (Int.tmod a0 64))) % 256)] from rfl) (Reps.none _ _))))); intro v173 w9 ho10 hb hg_ hnew_; clear hg_ hnew_; (first | rw [← Ny172.out] at ho10 | (simp only [Int.reduceToNat] at ho10; rw [← Ny172.out] at ho10)); have n0_ := Aside0.mk (Kd.R_lower ho10 (below_size (by repeat (first | (with_reducible first | exact HB.out | apply below_alloc | apply pw_below_drewN | apply below_drew1) | exact HB.out)))); have n1_ := Aside0.mk (below_step (by repeat (first | (with_reducible first | exact HB.out | apply below_alloc | apply pw_below_drewN | apply below_drew1) | exact HB.out)) hb); clear HB; have HO174 := n0_; have HB := n1_; clear n0_ n1_; clear hb ho10))
        go_ret
        exact ⟨_, by first | rfl | (simp [errW_none, errW_some] <;> rfl) | (simp [*, errW_none, errW_some] <;> rfl), by (with_reducible repeat (first | apply Kd.R_alloc | apply Kd.R_drewN | apply Kd.R_drew)); exact HO174.out, by repeat (first | (with_reducible first | exact HB.out | apply below_alloc | apply pw_below_drewN | apply below_drew1) | exact HB.out)⟩
      · rw [if_neg c8] at H
        have c8b0 : decide (a0 < 65536) = false := decide_eq_false c8
        clear c8
        obtain ⟨y175, hy175⟩ : ∃ y_ : List Int, y_ = (([(wrap32 (240 + (wrap32 (Int.tdiv a0 262144)))) % 256, (wrap32 (128 + (Int.tmod (wrap32 (Int.tdiv a0 4096)) 64))) % 256, (wrap32 (128 + (Int.tmod (wrap32 (Int.tdiv a0 64)) 64))) % 256, (wrap32 (128 + (Int.tmod a0 64))) % 256] : List Int)) := ⟨_, rfl⟩
        replace H : (some y175) = some r := by first | (rw [hy175]; with_reducible exact H) | (have H2_ := (Option.bind_some _ _).symm.trans H; rw [hy175]; with_reducible exact H2_) | (have H2_ := (Option.bind_some _ _).symm.trans H; with_reducible exact H2_) | with_reducible exact H | (rw [hy175]; exact H) | exact H
        have Ny175 := Aside0.mk hy175
        clear hy175
        obtain rfl := Option.some.inj H
        go_enter Tryd.func70, Tryd.ntmps70
        go_wp2_with (first | ((with_reducible refine gate_dst (N := 53) rfl ?_); refine Kd.R_lit (Kd.int .u8) _ 5 ?hg (N := 53) ?hd (xs := ([(wrap32 (240 + (wrap32 (Int.tdiv a0 262144)))) % 256, (wrap32 (128 + (Int.tmod (wrap32 (Int.tdiv a0 4096)) 64))) % 256, (wrap32 (128 + (Int.tmod (wrap32 (Int.tdiv a0 64)) 64))) % 256, (wrap32 (128 + (Int.tmod a0 64))) % 256] : List Int)) (inner := [.int .u8 ((wrap32 (240 + (wrap32 (Int.tdiv a0 262144)))) % 256), .int .u8 ((wrap32 (128 + (Int.tmod (wrap32 (Int.tdiv a0 4096)) 64))) % 256), .int .u8 ((wrap32 (128 + (Int.tmod (wrap32 (Int.tdiv a0 64)) 64))) % 256), .int .u8 ((wrap32 (128 + (Int.tmod a0 64))) % 256)]) (ok := fun _ => True) (okp := fun _ => True) ?hr ?hp (fun _ hk => hk) trivial (Below.refl _ _) (Nat.le_refl _) (by simp) ?_; (case hd => rfl); (case hg => rfl); (case hr => first | (go_simp; done) | (go_simp; rfl)); (case hp => exact (Reps.one (show Kd.M (Kd.int .u8) _ _ _ ((wrap32 (240 + (wrap32 (Int.tdiv a0 262144)))) % 256) [.int .u8 ((wrap32 (240 + (wrap32 (Int.tdiv a0 262144)))) % 256)] from rfl) (Reps.one (show Kd.M (Kd.int .u8) _ _ _ ((wrap32 (128 + (Int.tmod (wrap32 (Int.tdiv a0 4096)) 64))) % 256) [.int .u8 ((wrap32 (128 + (Int.tmod (wrap32 (Int.tdiv a0 4096)) 64))) % 256)] from rfl) (Reps.one (show Kd.M (Kd.int .u8) _ _ _ ((wrap32 (128 + (Int.tmod (wrap32 (Int.tdiv a0 64)) 64))) % 256) [.int .u8 ((wrap32 (128 + (Int.tmod (wrap32 (Int.tdiv a0 64)) 64))) % 256)] from rfl) (Reps.one (show Kd.M (Kd.int .u8) _ _ _ ((wrap32 (128 + (Int.tmod a0 64))) % 256) [.int .u8 ((wrap32 (128 + (Int.tmod a0 64))) % 256)] from rfl) (Reps.none _ _)))))); intro v176 w11 ho12 hb hg_ hnew_; clear hg_ hnew_; (first | rw [← Ny175.out] at ho12 | (simp only [Int.reduceToNat] at ho12; rw [← Ny175.out] at ho12)); have n0_ := Aside0.mk (Kd.R_lower ho12 (below_size (by repeat (first | (with_reducible first | exact HB.out | apply below_alloc | apply pw_below_drewN | apply below_drew1) | exact HB.out)))); have n1_ := Aside0.mk (below_step (by repeat (first | (with_reducible first | exact HB.out | apply below_alloc | apply pw_below_drewN | apply below_drew1) | exact HB.out)) hb); clear HB; have HO177 := n0_; have HB := n1_; clear n0_ n1_; clear hb ho12))
        go_ret
        exact ⟨_, by first | rfl | (simp [errW_none, errW_some] <;> rfl) | (simp [*, errW_none, errW_some] <;> rfl), by (with_reducible repeat (first | apply Kd.R_alloc | apply Kd.R_drewN | apply Kd.R_drew)); exact HO177.out, by repeat (first | (with_reducible first | exact HB.out | apply below_alloc | apply pw_below_drewN | apply below_drew1) | exact HB.out)⟩

end Go.Proofs.YtcaojgdnhmgmlaaDoor.Q
end

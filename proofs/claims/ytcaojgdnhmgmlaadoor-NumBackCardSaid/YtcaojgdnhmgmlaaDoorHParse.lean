/- num.Parse, by hand. -/
import Derived.Test.YtcaojgdnhmgmlaaDoorQx0
namespace Go.Proofs.YtcaojgdnhmgmlaaDoor.Q
open Go.RowKit Go.Proofs.YtcaojgdnhmgmlaaDoorW.PrintWords Go.Proofs.YtcaojgdnhmgmlaaDoorW.PrintLast Go.Proofs.YtcaojgdnhmgmlaaDoorW.PrintMore
set_option linter.unusedVariables false

def isDig (c : Int) : Bool := decide (48 ≤ c) && decide (c ≤ 57)

theorem digit_calls (c : Int) (w : World) : Calls Tryd.prog 73 #[.int .u8 c] w fun e w' => e = .returned (.bool (isDig c)) ∧ w = w' := by
  by_cases h : 48 ≤ c
  · have e1 : decide (48 ≤ c) = true := decide_eq_true h
    go_enter Tryd.func73, Tryd.ntmps73
    go_wp2
    go_ret
    exact ⟨by simp [isDig, e1], rfl⟩
  · have e1 : decide (48 ≤ c) = false := decide_eq_false h
    go_enter Tryd.func73, Tryd.ntmps73
    go_wp2
    go_ret
    exact ⟨by simp [isDig, e1], rfl⟩

/-- The number of digits. -/
def decV (l : List Int) : Int := l.foldl (fun n c => n * 10 + (c - 48)) 0
def parseV (l : List Int) (most : Int) : Int × Int :=
  if l = [] ∨ 18 < l.length ∨ (rd l 0 = 48 ∧ l.length ≠ 1) then (0, 3)
  else if l.all isDig = true then (if most < decV l then (0, 2) else (decV l, 0)) else (0, 3)

theorem decV_snoc (l : List Int) (c : Int) : decV (l ++ [c]) = decV l * 10 + (c - 48) := by simp [decV]
theorem take_snoc_rd (l : List Int) (k : Nat) (h : k < l.length) : l.take (k + 1) = l.take k ++ [rd l k] := by
  rw [List.take_succ_eq_append_getElem h]
  simp [rd, List.getD_eq_getElem?_getD, h]
theorem decV_nonneg (l : List Int) (h : l.all isDig = true) : 0 ≤ decV l ∧ decV l < 10 ^ l.length := by
  induction hn : l.length generalizing l with
  | zero =>
    have : l = [] := List.eq_nil_of_length_eq_zero hn
    subst this
    simp [decV]
  | succ n ih =>
    obtain ⟨q, c, rfl⟩ : ∃ q c, l = q ++ [c] := ⟨l.dropLast, l.getLast (by intro e; subst e; simp at hn), (List.dropLast_concat_getLast _).symm⟩
    rw [List.all_append] at h
    simp [isDig] at h hn
    obtain ⟨h1, h2⟩ := ih q (by simp [isDig]; exact h.1) hn
    rw [decV_snoc, Int.pow_succ]
    omega
theorem decV_lt (l : List Int) (h : l.all isDig = true) (hl : l.length ≤ 17) : 0 ≤ decV l ∧ decV l ≤ 99999999999999999 := by
  obtain ⟨h1, h2⟩ := decV_nonneg l h
  have : (10 : Int) ^ l.length ≤ 10 ^ 17 := by exact_mod_cast Nat.pow_le_pow_right (n := 10) (by omega) hl
  have h3 : (10 : Int) ^ 17 = 100000000000000000 := by decide
  omega
theorem bt_u8 (s : ByteArray) (i : Int) : 0 ≤ bt s i ∧ bt s i ≤ 255 := bt_range s i
theorem bytesOf_nil (s : ByteArray) : bytesOf s = [] ↔ s.size = 0 := by rw [← List.length_eq_zero_iff, bytesOf_length]
theorem toList_is (s : ByteArray) : s.toList = s.data.toList := by
  rw [ByteArray.toList_eq]
theorem toList_len (s : ByteArray) : s.toList.length = s.size := by rw [toList_is, data_length]
theorem one_zero (s : ByteArray) (h : bt s 0 = 48) (h1 : 0 < s.size) : (!s.toList == [48]) = decide (s.size ≠ 1) := by
  by_cases hs : s.size = 1
  · have hl := toList_len s
    have h48 : s.toList = [48] := by
      have hl1 : s.toList.length = 1 := by omega
      obtain ⟨x, hx⟩ := List.length_eq_one_iff.1 hl1
      rw [hx]
      have hb := bt_at s 0 h1
      have : s[0]'h1 = x := by
        have e : s.data.toList = [x] := by rw [← toList_is, hx]
        have : s[0]'h1 = s.data.toList[0]'(by rw [e]; simp) := rfl
        rw [this]; simp [e]
      rw [h] at hb
      rw [show (s[(0 : Int).toNat]'h1) = x from this] at hb
      have : x.toNat = 48 := by omega
      rw [show x = 48 from UInt8.toNat_inj.1 this]
    simp [h48, hs]
  · have : ¬ s.toList = [48] := fun e => hs (by rw [← toList_len, e]; rfl)
    simp [this, hs]

def num_Parse.f (a0 : ByteArray) (a1 : Int) : Option (Int × Int) := some (parseV (bytesOf a0) a1)

theorem parse_empty (a0 : ByteArray) (a1 : Int) (w : World) (h : a0.size = 0) :
    Calls Tryd.prog 37 #[.string a0, .int .i64 a1] w fun e w' => e = .returned (.tuple #[.int .i64 0, .int .i64 3]) ∧ Below w.heap.size w w' := by
  have h1 : a0.toList = [] := List.eq_nil_of_length_eq_zero (by rw [toList_len, h])
  clear h
  go_enter Tryd.func37, Tryd.ntmps37
  go_wp2_with fail
  go_ret2
  exact ⟨rfl, Below.refl _ _⟩
theorem parse_long (a0 : ByteArray) (a1 : Int) (w : World) (h : 18 < a0.size) :
    Calls Tryd.prog 37 #[.string a0, .int .i64 a1] w fun e w' => e = .returned (.tuple #[.int .i64 0, .int .i64 3]) ∧ Below w.heap.size w w' := by
  have e1 : a0.toList.isEmpty = false := by
    cases hq : a0.toList with
    | nil => have := toList_len a0; rw [hq] at this; simp at this; omega
    | cons => rfl
  have e2 : decide ((18 : Int) < (a0.size : Int)) = true := decide_eq_true (by omega)
  clear h
  go_enter Tryd.func37, Tryd.ntmps37
  go_wp2_with fail
  go_ret2
  exact ⟨rfl, Below.refl _ _⟩
theorem parse_zero (a0 : ByteArray) (a1 : Int) (w : World) (h : 0 < a0.size) (h18 : a0.size ≤ 18) (hc : bt a0 0 = 48) (hne : a0.size ≠ 1) :
    Calls Tryd.prog 37 #[.string a0, .int .i64 a1] w fun e w' => e = .returned (.tuple #[.int .i64 0, .int .i64 3]) ∧ Below w.heap.size w w' := by
  have e1 : a0.toList.isEmpty = false := by
    cases hq : a0.toList with
    | nil => have := toList_len a0; rw [hq] at this; simp at this; omega
    | cons => rfl
  have e2 : decide ((18 : Int) < (a0.size : Int)) = false := decide_eq_false (by omega)
  have e3 : (!a0.toList == [48]) = true := by rw [one_zero a0 hc h]; simpa using hne
  have hb : ∀ h : 0 < a0.size, ((a0[0]'h).toNat : Int) = bt a0 0 := bt_at a0 0
  have hc1 : (bt a0 0 == 48) = true := beq_iff_eq.2 hc
  clear hc hne
  go_enter Tryd.func37, Tryd.ntmps37
  go_wp2_with fail
  go_ret2
  exact ⟨rfl, Below.refl _ _⟩

def restV (l : List Int) (most : Int) : Int × Int := if l.all isDig = true then (if most < decV l then (0, 2) else (decV l, 0)) else (0, 3)
set_option maxHeartbeats 2000000 in
theorem parse_rest (a0 : ByteArray) (a1 : Int) (w : World) (h : 0 < a0.size) (h18 : a0.size ≤ 18) (hc : bt a0 0 = 48 → a0.size = 1) (r1 r2 : Int) (HV : Aside0 (restV (bytesOf a0) a1 = (r1, r2))) :
    Calls Tryd.prog 37 #[.string a0, .int .i64 a1] w fun e w' => e = .returned (.tuple #[.int .i64 r1, .int .i64 r2]) ∧ Below w.heap.size w w' := by
  have e1 : a0.toList.isEmpty = false := by
    cases hq : a0.toList with
    | nil => have := toList_len a0; rw [hq] at this; simp at this; omega
    | cons => rfl
  have e2 : decide ((18 : Int) < (a0.size : Int)) = false := decide_eq_false (by omega)
  have hb : ∀ h : 0 < a0.size, ((a0[0]'h).toNat : Int) = bt a0 0 := bt_at a0 0
  have hcases : ((bt a0 0 == 48) = true ∧ (!a0.toList == [48]) = false) ∨ (bt a0 0 == 48) = false := by
    by_cases hz : bt a0 0 = 48
    · left; exact ⟨beq_iff_eq.2 hz, by rw [one_zero a0 hz h]; simpa using hc hz⟩
    · right; exact beq_eq_false_iff_ne.2 hz
  clear hc
  have kb := fun W => print_bytes (P := Tryd.prog) 9 52 5 Tryd.underlying9 Tryd.underlying52 Tryd.underlying5 a0 W
  have hR := Aside0.mk (bytes_reads w 5 a0 (by omega))
  have hBW := Aside0.mk (bytes_below (Below.refl w.heap.size w) (Nat.le_refl _) 5 a0)
  obtain ⟨W1, hW1⟩ : ∃ W1, W1 = Lib.bytesWorld w 5 a0 := ⟨_, rfl⟩
  have kb1 := kb w
  rw [← hW1] at hR hBW kb1
  clear hW1 kb
  rcases hcases with ⟨hc1, hc2⟩ | hc1
  all_goals
    go_enter Tryd.func37, Tryd.ntmps37
    go_wp2_with fail
    go_loopw [4, 28] (fun n i wr => ∃ k : Nat, k ≤ a0.size ∧ i = .int .i64 k ∧ n = .int .i64 (decV ((bytesOf a0).take k)) ∧ Aside0 (((bytesOf a0).take k).all isDig = true) ∧ Aside0 (W1 = wr)) (fun _ i _ => a0.size - (intOf i).toNat)
    case atStart => exact ⟨0, by omega, rfl, rfl, ⟨rfl⟩, ⟨rfl⟩⟩
    case round =>
      obtain ⟨k, hk, rfl, rfl, hd, ⟨rfl⟩⟩ := hrel
      have hlen := bytesOf_length a0
      have hbd := decV_lt ((bytesOf a0).take k)
      by_cases hlt : k < a0.size
      · have hbd := decV_lt ((bytesOf a0).take k) hd.out (by rw [List.length_take]; omega)
        obtain ⟨ad, e, hcell⟩ := hR.out.at_ (k : Int) (by omega) (by omega)
        cases e
        rw [Int.toNat_natCast, add_plain] at hcell
        have hu : 0 ≤ rd (bytesOf a0) k ∧ rd (bytesOf a0) k ≤ 255 := by rw [rd_bytesOf]; exact bt_u8 a0 k
        obtain ⟨c, hcc⟩ : ∃ c, c = rd (bytesOf a0) k := ⟨_, rfl⟩
        rw [← hcc] at hcell hu
        have HC := Aside0.mk hcc
        have HT := Aside0.mk (take_snoc_rd (bytesOf a0) k (by omega))
        obtain ⟨n, hn⟩ : ∃ n, n = decV ((bytesOf a0).take k) := ⟨_, rfl⟩
        rw [← hn] at hbd ⊢
        have HN := Aside0.mk hn
        clear hcc hn hlen
        obtain ⟨hu1, hu2⟩ := hu
        obtain ⟨hn1, hn2⟩ := hbd
        by_cases hdig : 48 ≤ c ∧ c ≤ 57
        · have hq : isDig c = true := by simp [isDig, hdig.1, hdig.2]
          obtain ⟨hd1, hd2⟩ := hdig
          go_wp2_with (first | (go_at_call 73; refine (digit_calls _ _).mono ?_; rintro e w' ⟨rfl, rfl⟩))
          go_roundw
          case rel => exact ⟨k + 1, by omega, by go_num, by rw [HT.out, decV_snoc, ← HN.out, ← HC.out], ⟨by rw [HT.out, List.all_append, hd.out, ← HC.out]; simp [hq]⟩, ⟨by first | rfl | trivial⟩⟩
          case measure => simp [intOf]; omega
        · have hq : isDig c = false := by simp only [isDig, Bool.and_eq_false_iff, decide_eq_false_iff_not]; omega
          have hno : ¬ (bytesOf a0).all isDig = true := by
            intro hall
            have := List.all_eq_true.1 hall c (by rw [HC.out]; unfold rd; rw [List.getD_eq_getElem?_getD, List.getElem?_eq_getElem (by rw [bytesOf_length]; simpa using hlt)]; simp)
            rw [hq] at this; cases this
          have HNO := Aside0.mk hno
          clear hdig hno
          go_wp2_with (first | (go_at_call 73; refine (digit_calls _ _).mono ?_; rintro e w' ⟨rfl, rfl⟩))
          go_ret2
          have hv := HV.out
          rw [restV, if_neg HNO.out] at hv
          cases hv
          exact ⟨rfl, hBW.out⟩
      · have hk8 : k = a0.size := by omega
        subst hk8
        have hall : (bytesOf a0).take a0.size = bytesOf a0 := List.take_of_length_le (by omega)
        rw [hall] at hd ⊢
        obtain ⟨n, hn⟩ : ∃ n, n = decV (bytesOf a0) := ⟨_, rfl⟩
        have HN := Aside0.mk hn
        rw [← hn]
        clear hall hbd hn hlen
        by_cases hm : a1 < n
        · have hm1 : decide (a1 < n) = true := decide_eq_true hm
          go_wp2_with fail
          go_ret2
          have hv := HV.out
          rw [restV, if_pos hd.out, ← HN.out, if_pos hm] at hv
          cases hv
          exact ⟨rfl, hBW.out⟩
        · have hm1 : decide (a1 < n) = false := decide_eq_false hm
          go_wp2_with fail
          go_ret2
          have hv := HV.out
          rw [restV, if_pos hd.out, ← HN.out, if_neg (by omega)] at hv
          obtain ⟨rfl, rfl⟩ := Prod.mk.inj hv
          exact ⟨rfl, hBW.out⟩

theorem num_Parse.calls (a0 : ByteArray) (a1 : Int) (r1 : Int) (r2 : Int) (w : World) (h : num_Parse.f a0 a1 = some (r1, r2)) :
    Calls Tryd.prog 37 #[.string a0, .int .i64 a1] w fun e w' => e = .returned (.tuple #[.int .i64 r1, .int .i64 r2]) ∧ Below w.heap.size w w' := by
  have h := Option.some.inj h
  have e1 : r1 = (parseV (bytesOf a0) a1).1 := by rw [h]
  have e2 : r2 = (parseV (bytesOf a0) a1).2 := by rw [h]
  rw [e1, e2]
  clear h e1 e2
  have hl := bytesOf_length a0
  have hr : rd (bytesOf a0) 0 = bt a0 0 := rd_bytesOf a0 0
  unfold parseV
  rw [hl, hr]
  by_cases h0 : a0.size = 0
  · rw [if_pos (Or.inl ((bytesOf_nil a0).2 h0))]
    exact parse_empty a0 a1 w h0
  by_cases h18 : 18 < a0.size
  · rw [if_pos (Or.inr (Or.inl h18))]
    exact parse_long a0 a1 w h18
  by_cases hz : bt a0 0 = 48 ∧ a0.size ≠ 1
  · rw [if_pos (Or.inr (Or.inr hz))]
    exact parse_zero a0 a1 w (by omega) (by omega) hz.1 hz.2
  · rw [if_neg (by rw [bytesOf_nil]; rintro (h | h | h); exact h0 h; exact h18 h; exact hz h)]
    exact parse_rest a0 a1 w (by omega) (by omega) (fun hb => Classical.byContradiction fun hn => hz ⟨hb, hn⟩) _ _ ⟨rfl⟩
end Go.Proofs.YtcaojgdnhmgmlaaDoor.Q

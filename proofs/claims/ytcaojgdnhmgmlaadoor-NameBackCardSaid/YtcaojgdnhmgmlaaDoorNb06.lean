import Derived.Test.YtcaojgdnhmgmlaaDoorNb05
import Derived.Lib.SliceRun
import Derived.WalkLawsBesides
import Derived.Lib.Join
section
/- name.Cmp, by hand: which of two names stands first. -/
namespace Go.Proofs.YtcaojgdnhmgmlaaDoor.Q
open Go.RowKit Go.Proofs.YtcaojgdnhmgmlaaDoorW.PrintWords Go.Proofs.YtcaojgdnhmgmlaaDoorW.PrintLast Go.Proofs.YtcaojgdnhmgmlaaDoorW.PrintMore
set_option linter.unusedVariables false

/-- Of two texts: -1, 0, 1. -/
def cmpS (a b : ByteArray) : Int := if Op.bytesLess a.toList b.toList = true then -1 else if (a.toList == b.toList) = true then 0 else 1
def cmpL : List ByteArray → List ByteArray → Int
  | [], [] => 0
  | [], _ :: _ => -1
  | _ :: _, [] => 1
  | x :: xs, y :: ys => if cmpS x y = 0 then cmpL xs ys else cmpS x y
theorem nan_calls (a : ByteArray) (w : World) : Calls Tryd.prog 119 #[.string a] w fun e w' => e = .returned (.bool false) ∧ w = w' := by
  have e1 : (a.toList == a.toList) = true := by simp
  have e2 : (a.toList != a.toList) = false := by simp
  go_enter Tryd.func119, Tryd.ntmps119
  go_wp2_with fail
  go_ret
  exact ⟨rfl, rfl⟩
theorem cmp_calls (a b : ByteArray) (w : World) : Calls Tryd.prog 100 #[.string a, .string b] w fun e w' => e = .returned (.int .i64 (cmpS a b)) ∧ w = w' := by
  have HN := Aside0.mk (fun (x : ByteArray) (w : World) => nan_calls x w)
  cases h1 : Op.bytesLess a.toList b.toList
  · cases h2 : (a.toList == b.toList)
    · have hr : cmpS a b = 1 := by simp [cmpS, h1, h2]
      rw [hr]
      clear hr
      go_enter Tryd.func100, Tryd.ntmps100
      go_wp2_with fail
      refine (HN.out _ _).mono ?_
      rintro e w1 ⟨rfl, rfl⟩
      go_wp2_with fail
      refine (HN.out _ _).mono ?_
      rintro e w1 ⟨rfl, rfl⟩
      go_wp2_with fail
      go_ret
      exact ⟨rfl, rfl⟩
    · have hr : cmpS a b = 0 := by simp [cmpS, h1, h2]
      rw [hr]
      clear hr
      go_enter Tryd.func100, Tryd.ntmps100
      go_wp2_with fail
      refine (HN.out _ _).mono ?_
      rintro e w1 ⟨rfl, rfl⟩
      go_wp2_with fail
      refine (HN.out _ _).mono ?_
      rintro e w1 ⟨rfl, rfl⟩
      go_wp2_with fail
      go_ret
      exact ⟨rfl, rfl⟩
  · have hr : cmpS a b = -1 := by simp [cmpS, h1]
    rw [hr]
    clear hr
    go_enter Tryd.func100, Tryd.ntmps100
    go_wp2_with fail
    refine (HN.out _ _).mono ?_
    rintro e w1 ⟨rfl, rfl⟩
    go_wp2_with fail
    refine (HN.out _ _).mono ?_
    rintro e w1 ⟨rfl, rfl⟩
    go_wp2_with fail
    go_ret
    exact ⟨rfl, rfl⟩

theorem rdOf_get (l : List ByteArray) (k : Nat) (h : k < l.length) : rdOf ByteArray.empty l (k : Int) = l[k] := by simp [rdOf, List.getD, h]
theorem cmpL_step (l0 l1 : List ByteArray) (k : Nat) (h0 : k < l0.length) (h1 : k < l1.length) :
    cmpL (l0.drop k) (l1.drop k) = if cmpS (rdOf ByteArray.empty l0 (k : Int)) (rdOf ByteArray.empty l1 (k : Int)) = 0 then cmpL (l0.drop (k + 1)) (l1.drop (k + 1)) else cmpS (rdOf ByteArray.empty l0 (k : Int)) (rdOf ByteArray.empty l1 (k : Int)) := by
  rw [rdOf_get l0 k h0, rdOf_get l1 k h1, List.drop_eq_getElem_cons h0, List.drop_eq_getElem_cons h1]
  rfl
theorem cmpL_more (l0 l1 : List ByteArray) (k : Nat) (h0 : k < l0.length) (h1 : l1.length ≤ k) : cmpL (l0.drop k) (l1.drop k) = 1 := by
  rw [List.drop_eq_getElem_cons h0, List.drop_of_length_le h1]
  rfl
theorem cmpL_done (l0 l1 : List ByteArray) (k : Nat) (h0 : l0.length ≤ k) (hk : k ≤ l0.length) (hkl : k ≤ l1.length ∨ True) : cmpL (l0.drop k) (l1.drop k) = if l0.length < l1.length then -1 else 0 := by
  obtain rfl : k = l0.length := by omega
  rw [List.drop_of_length_le (Nat.le_refl _)]
  by_cases h : l0.length < l1.length
  · rw [List.drop_eq_getElem_cons h, if_pos h]; rfl
  · rw [List.drop_of_length_le (by omega), if_neg h]; rfl
set_option maxRecDepth 100000 in
set_option maxHeartbeats 1000000 in
theorem compare_calls (A0 : Option Addr) (c0 : Nat) (l0 : List ByteArray) (A1 : Option Addr) (c1 : Nat) (l1 : List ByteArray) (w : World) (hr0 : Kd.C Kd.string w A0 l0.length l0) (hr1 : Kd.C Kd.string w A1 l1.length l1) (hl0 : l0.length < 1000000) :
    Calls Tryd.prog 60 #[.slice A0 l0.length c0, .slice A1 l1.length c1] w fun e w' => e = .returned (.int .i64 (cmpL l0 l1)) ∧ w = w' := by
  have HR0 := Aside0.mk hr0
  have HR1 := Aside0.mk hr1
  have HL0 := Aside0.mk hl0
  obtain ⟨r, hr⟩ : ∃ r, cmpL l0 l1 = r := ⟨_, rfl⟩
  have HR := Aside0.mk hr
  rw [hr]
  clear hr0 hr1 hr hl0
  go_enter Tryd.func60, Tryd.ntmps60
  go_wp2_with fail
  go_loopg [11] l0.length (fun kq v w' => ∃ k : Nat, v = .int .i64 (k : Int) ∧ w = w' ∧ Aside0 (k + kq = l0.length) ∧ Aside0 (cmpL (l0.drop k) (l1.drop k) = r))
  case atStart => exact ⟨0, rfl, rfl, ⟨by omega⟩, ⟨by simpa using HR.out⟩⟩
  case round =>
    clear HR
    obtain ⟨k, rfl, rfl, HK, HC⟩ := hrel
    have hwk : wrap64 ((k : Int) + 1) = ((k + 1 : Nat) : Int) := by have := HL0.out; have := HK.out; unfold wrap64; omega
    by_cases hlt : k < l0.length
    · have e1 : decide ((k : Int) < l0.length) = true := decide_eq_true (by omega)
      have p0 : (0 : Int) ≤ k := by omega
      have p1 : (k : Int) < l0.length := by omega
      obtain ⟨ad, ea, hx⟩ := Kd.at_string HR0.out (k : Int) p0 p1
      cases ea
      rw [Int.toNat_natCast] at hx
      by_cases hl1 : k < l1.length
      · have e2 : (l1.length ≤ k) = False := eq_false (by omega)
        have p2 : (k : Int) < l1.length := by omega
        obtain ⟨ad1, ea1, hx1⟩ := Kd.at_string HR1.out (k : Int) p0 p2
        cases ea1
        rw [Int.toNat_natCast] at hx1
        have hst := cmpL_step l0 l1 k hlt hl1
        rw [HC.out] at hst
        have HCM := Aside0.mk (cmp_calls (rdOf ByteArray.empty l0 (k : Int)) (rdOf ByteArray.empty l1 (k : Int)) w)
        obtain ⟨kq', rfl⟩ : ∃ m, gk = m + 1 := ⟨gk - 1, by have := HK.out; omega⟩
        generalize cmpS (rdOf ByteArray.empty l0 (k : Int)) (rdOf ByteArray.empty l1 (k : Int)) = q at hst HCM
        by_cases hq : q = 0
        · rw [if_pos hq] at hst
          subst hq
          have HST := Aside0.mk hst
          clear hst
          go_wp2_with fail
          refine HCM.out.mono ?_
          rintro e w1 ⟨rfl, rfl⟩
          go_wp2_with fail
          go_roundg kq'
          case measure => omega
          case rel => exact ⟨k + 1, by rw [hwk], rfl, ⟨by have := HK.out; omega⟩, ⟨HST.out.symm⟩⟩
        · rw [if_neg hq] at hst
          have e3 : (q != 0) = true := bne_iff_ne.mpr hq
          have HST := Aside0.mk hst
          clear hst hq
          go_wp2_with fail
          refine HCM.out.mono ?_
          rintro e w1 ⟨rfl, rfl⟩
          go_wp2_with fail
          go_ret
          exact ⟨by rw [HST.out]; rfl, rfl⟩
      · have e2 : (l1.length ≤ k) = True := eq_true (by omega)
        have hmo := cmpL_more l0 l1 k hlt (by omega)
        rw [HC.out] at hmo
        have HMO := Aside0.mk hmo
        clear hmo hl1
        go_wp2_with fail
        go_ret
        exact ⟨by rw [HMO.out]; rfl, rfl⟩
    · have e1 : decide ((k : Int) < l0.length) = false := decide_eq_false (by omega)
      have hdo := cmpL_done l0 l1 k (by omega) (by have := HK.out; omega) (.inr trivial)
      rw [HC.out] at hdo
      by_cases hl : l0.length < l1.length
      · have e2 : (l0.length < l1.length) = True := eq_true hl
        rw [if_pos hl] at hdo
        have HDO := Aside0.mk hdo
        clear hdo hl
        go_wp2_with fail
        go_ret
        exact ⟨by rw [HDO.out]; rfl, rfl⟩
      · have e2 : (l0.length < l1.length) = False := eq_false hl
        rw [if_neg hl] at hdo
        have HDO := Aside0.mk hdo
        clear hdo hl
        go_wp2_with fail
        go_ret
        exact ⟨by rw [HDO.out]; rfl, rfl⟩

/-- The parts of two names; of what is none nothing of both. -/
def bothP (a b : ByteArray) : List ByteArray × List ByteArray := if rightB a = true ∧ rightB b = true then (pieces a, pieces b) else ([], [])
theorem pieces_pos (s : ByteArray) : 0 < (pieces s).length := (pieces_len _ s rfl).1
set_option maxRecDepth 100000 in
set_option maxHeartbeats 1000000 in
theorem both_calls (a b : ByteArray) (w : World) (hlaidS : LaidS w) (ha : a.size < 900000) (hb : b.size < 900000) :
    Calls Tryd.prog 61 #[.string a, .string b] w fun e w' => ∃ A0 c0 A1 c1, e = .returned (.tuple #[.slice A0 (bothP a b).1.length c0, .slice A1 (bothP a b).2.length c1]) ∧ Kd.C Kd.string w' A0 (bothP a b).1.length (bothP a b).1 ∧ Kd.C Kd.string w' A1 (bothP a b).2.length (bothP a b).2 ∧ Below w.heap.size w w' := by
  have HN := Aside0.mk (fun (w : World) (A : Option Addr) (n c : Nat) => Lib.run_eql_slice_nil (P := Tryd.prog) w 22 9 A n c 0 0 Tryd.underlying22)
  cases ra : rightB a
  · have hp : bothP a b = ([], []) := by simp [bothP, ra]
    rw [hp]
    have HA := Aside0.mk (split_no a w hlaidS ha ra)
    cases rb : rightB b
    · have HB := Aside0.mk (fun (w1 : World) (h : Below w.heap.size w w1) => split_no b w1 (hlaidS.below h) hb rb)
      clear hp hlaidS ha hb ra rb
      have hn1 := fun w => HN.out w none 0 0
      go_enter Tryd.func61, Tryd.ntmps61
      go_wp2_with fail
      refine HA.out.mono ?_
      rintro e w1 ⟨rfl, hb1⟩
      have HB1 := Aside0.mk hb1
      clear hb1
      go_wp2_with fail
      refine (HB.out w1 HB1.out).mono ?_
      rintro e w2 ⟨rfl, hb2⟩
      have HB2 := Aside0.mk (below_step HB1.out hb2)
      clear hb2
      go_wp2_with fail
      go_ret2
      exact ⟨none, 0, none, 0, rfl, Kd.C_nil _ _, Kd.C_nil _ _, HB2.out⟩
    · have HB := Aside0.mk (fun (w1 : World) (h : Below w.heap.size w w1) => split_yes b w1 (hlaidS.below h) hb rb)
      clear hp hlaidS ha hb ra rb
      have hn1 := fun w => HN.out w none 0 0
      go_enter Tryd.func61, Tryd.ntmps61
      go_wp2_with fail
      refine HA.out.mono ?_
      rintro e w1 ⟨rfl, hb1⟩
      have HB1 := Aside0.mk hb1
      clear hb1
      go_wp2_with fail
      refine (HB.out w1 HB1.out).mono ?_
      rintro e w2 ⟨ad, rfl, hR, hb2⟩
      have HB2 := Aside0.mk (below_step HB1.out hb2)
      clear hb2 hR
      go_wp2_with fail
      go_ret2
      exact ⟨none, 0, none, 0, rfl, Kd.C_nil _ _, Kd.C_nil _ _, HB2.out⟩
  · have HA := Aside0.mk (split_yes a w hlaidS ha ra)
    cases rb : rightB b
    · have hp : bothP a b = ([], []) := by simp [bothP, rb]
      rw [hp]
      have HB := Aside0.mk (fun (w1 : World) (h : Below w.heap.size w w1) => split_no b w1 (hlaidS.below h) hb rb)
      clear hp hlaidS ha hb ra rb
      go_enter Tryd.func61, Tryd.ntmps61
      go_wp2_with fail
      refine HA.out.mono ?_
      rintro e w1 ⟨ad, rfl, hR, hb1⟩
      have HB1 := Aside0.mk hb1
      clear hb1 hR
      have hn1 := fun w => HN.out w none 0 0
      have hn2 := fun w => HN.out w (some ad) (pieces a).length (pieces a).length
      go_wp2_with fail
      refine (HB.out w1 HB1.out).mono ?_
      rintro e w2 ⟨rfl, hb2⟩
      have HB2 := Aside0.mk (below_step HB1.out hb2)
      clear hb2
      go_wp2_with fail
      go_ret2
      exact ⟨none, 0, none, 0, rfl, Kd.C_nil _ _, Kd.C_nil _ _, HB2.out⟩
    · have hp : bothP a b = (pieces a, pieces b) := by simp [bothP, ra, rb]
      rw [hp]
      have HB := Aside0.mk (fun (w1 : World) (h : Below w.heap.size w w1) => split_yes b w1 (hlaidS.below h) hb rb)
      clear hp hlaidS ha hb ra rb
      go_enter Tryd.func61, Tryd.ntmps61
      go_wp2_with fail
      refine HA.out.mono ?_
      rintro e w1 ⟨ad, rfl, hR, hb1⟩
      have HB1 := Aside0.mk hb1
      have HR1 := Aside0.mk (Kd.R_reads' hR).2.2
      clear hb1 hR
      have hn2 := fun w => HN.out w (some ad) (pieces a).length (pieces a).length
      go_wp2_with fail
      refine (HB.out w1 HB1.out).mono ?_
      rintro e w2 ⟨ad2, rfl, hR, hb2⟩
      have HB2 := Aside0.mk (below_step HB1.out hb2)
      have HR2 := Aside0.mk (Kd.R_reads' hR).2.2
      have HR3 := Aside0.mk (Kd.C_below HR1.out hb2)
      clear hb2 hR
      have hn3 := fun w => HN.out w (some ad2) (pieces b).length (pieces b).length
      go_wp2_with fail
      go_ret2
      exact ⟨_, _, _, _, rfl, HR3.out, HR2.out, HB2.out⟩
def name_Cmp.f (a0 : ByteArray) (a1 : ByteArray) : Option (Int) := if a0.size < 900000 ∧ a1.size < 900000 then some (cmpL (bothP a0 a1).1 (bothP a0 a1).2) else none
theorem name_Cmp.calls (a0 : ByteArray) (a1 : ByteArray) (r : Int) (w : World) (hlaidS : LaidS w) (h : name_Cmp.f a0 a1 = some r) :
    Calls Tryd.prog 17 #[.string a0, .string a1] w fun e w' => e = .returned (.int .i64 r) ∧ Below w.heap.size w w' := by
  unfold name_Cmp.f at h
  split at h
  case isFalse => cases h
  rename_i hs
  have h := Option.some.inj h
  have HA := Aside0.mk (both_calls a0 a1 w hlaidS hs.1 hs.2)
  have hl : (bothP a0 a1).1.length < 1000000 := by
    unfold bothP
    split
    · have := (pieces_len _ a0 rfl).2; have := hs.1; show (pieces a0).length < _; omega
    · simp
  have HL := Aside0.mk hl
  clear hlaidS hs hl
  generalize bothP a0 a1 = q at HA HL h
  subst h
  go_enter Tryd.func17, Tryd.ntmps17
  go_wp2_with fail
  refine HA.out.mono ?_
  rintro e w1 ⟨A0, c0, A1, c1, rfl, h0, h1, hb⟩
  have HB := Aside0.mk hb
  have HC := Aside0.mk (compare_calls A0 c0 q.1 A1 c1 q.2 w1 h0 h1 HL.out)
  clear h0 h1 hb
  go_wp2_with fail
  refine HC.out.mono ?_
  rintro e w2 ⟨rfl, rfl⟩
  go_wp2_with fail
  go_ret
  exact ⟨rfl, HB.out⟩
end Go.Proofs.YtcaojgdnhmgmlaaDoor.Q
end
section
/- name.Join, by hand: the name of parts. -/
namespace Go.Proofs.YtcaojgdnhmgmlaaDoor.Q
open Go.RowKit Go.Proofs.YtcaojgdnhmgmlaaDoorW.PrintWords Go.Proofs.YtcaojgdnhmgmlaaDoorW.PrintLast Go.Proofs.YtcaojgdnhmgmlaaDoorW.PrintMore
set_option linter.unusedVariables false

theorem notPart_calls (p : ByteArray) (w : World) (hs : p.size < 1000000) : Calls Tryd.prog 53 #[.string p] w fun e w' => e = .returned (.bool (!partB p)) ∧ Below w.heap.size w w' := by
  have HP := Aside0.mk (part_calls p w hs)
  clear hs
  generalize partB p = b at HP
  go_enter Tryd.func53, Tryd.ntmps53
  go_wp2_with fail
  refine HP.out.mono ?_
  rintro e w1 ⟨rfl, hb⟩
  have HB := Aside0.mk hb
  clear hb
  go_wp2_with fail
  go_ret
  exact ⟨rfl, HB.out⟩
/-- Where the first text that is no part stands; -1: nowhere. -/
def badP : List ByteArray → Nat → Int
  | [], _ => -1
  | p :: t, i => if partB p = true then badP t (i + 1) else i
theorem badP_all : ∀ (l : List ByteArray) (i : Nat), (badP l i = -1 ∧ l.all partB = true) ∨ (0 ≤ badP l i ∧ l.all partB = false)
  | [], i => .inl ⟨rfl, rfl⟩
  | p :: t, i => by
    unfold badP
    cases h : partB p
    · exact .inr ⟨by simp, by simp [h]⟩
    · simp only [if_pos, List.all_cons, h, Bool.true_and]
      exact badP_all t (i + 1)
theorem badP_step (l : List ByteArray) (k : Nat) (h : k < l.length) : badP (l.drop k) k = if partB (rdOf ByteArray.empty l (k : Int)) = true then badP (l.drop (k + 1)) (k + 1) else (k : Int) := by
  rw [show rdOf ByteArray.empty l (k : Int) = l[k] by simp [rdOf, List.getD, h], List.drop_eq_getElem_cons h]
  rfl
set_option maxRecDepth 100000 in
set_option maxHeartbeats 1000000 in
theorem indexBad_calls (A0 : Option Addr) (c0 : Nat) (l : List ByteArray) (w : World) (hr0 : Kd.C Kd.string w A0 l.length l) (hl : l.length < 1000000) (hs : ∀ p ∈ l, p.size < 1000000) :
    Calls Tryd.prog 94 #[.slice A0 l.length c0, .func (.func 53) #[] #[]] w fun e w' => e = .returned (.int .i64 (badP l 0)) ∧ Below w.heap.size w w' := by
  have HR0 := Aside0.mk hr0
  have HL := Aside0.mk hl
  have HS := Aside0.mk hs
  obtain ⟨r, hr⟩ : ∃ r, badP l 0 = r := ⟨_, rfl⟩
  have HR := Aside0.mk hr
  rw [hr]
  clear hr0 hl hs hr
  go_enter Tryd.func94, Tryd.ntmps94
  go_wp2_with fail
  go_loopg [8] l.length (fun kq v wr => ∃ k : Nat, v = .int .i64 (k : Int) ∧ Aside0 (k + kq = l.length) ∧ Aside0 (badP (l.drop k) k = r) ∧ Aside0 (Below w.heap.size w wr))
  case atStart => exact ⟨0, rfl, ⟨by omega⟩, ⟨by simpa using HR.out⟩, ⟨Below.refl _ _⟩⟩
  case round =>
    clear HR
    obtain ⟨k, rfl, HK, HC, HB⟩ := hrel
    have hwk : wrap64 ((k : Int) + 1) = ((k + 1 : Nat) : Int) := by have := HL.out; have := HK.out; unfold wrap64; omega
    by_cases hlt : k < l.length
    · have e1 : decide ((k : Int) < l.length) = true := decide_eq_true (by omega)
      have p0 : (0 : Int) ≤ k := by omega
      have p1 : (k : Int) < l.length := by omega
      obtain ⟨ad, ea, hx⟩ := Kd.at_string (Kd.C_below HR0.out HB.out) (k : Int) p0 p1
      cases ea
      rw [Int.toNat_natCast] at hx
      have hst := badP_step l k hlt
      rw [HC.out] at hst
      have HNP := Aside0.mk (notPart_calls (rdOf ByteArray.empty l (k : Int)) wr (HS.out _ (by rw [show rdOf ByteArray.empty l (k : Int) = l[k] by simp [rdOf, List.getD, hlt]]; exact List.getElem_mem hlt)))
      obtain ⟨kq', rfl⟩ : ∃ m, gk = m + 1 := ⟨gk - 1, by have := HK.out; omega⟩
      cases hq : partB (rdOf ByteArray.empty l (k : Int))
      · rw [hq, if_neg (by decide)] at hst
        rw [hq] at HNP
        have HST := Aside0.mk hst
        clear hst hq
        go_wp2_with fail
        refine HNP.out.mono ?_
        rintro e w1 ⟨rfl, hb⟩
        have HB1 := Aside0.mk (below_step HB.out hb)
        clear hb
        go_wp2_with fail
        go_ret
        exact ⟨by rw [HST.out]; rfl, HB1.out⟩
      · rw [hq, if_pos rfl] at hst
        rw [hq] at HNP
        have HST := Aside0.mk hst
        clear hst hq
        go_wp2_with fail
        refine HNP.out.mono ?_
        rintro e w1 ⟨rfl, hb⟩
        have HB1 := Aside0.mk (below_step HB.out hb)
        clear hb
        go_wp2_with fail
        go_roundg kq'
        case measure => omega
        case rel => exact ⟨k + 1, by rw [hwk], ⟨by have := HK.out; omega⟩, ⟨HST.out.symm⟩, HB1⟩
    · have e1 : decide ((k : Int) < l.length) = false := decide_eq_false (by omega)
      have hd : r = -1 := by
        have := HC.out
        rw [List.drop_of_length_le (by omega)] at this
        exact this.symm
      have HD := Aside0.mk hd
      clear hd
      go_wp2_with fail
      go_ret
      exact ⟨by rw [HD.out]; rfl, HB.out⟩
set_option maxHeartbeats 1000000 in
theorem containsBad_calls (A0 : Option Addr) (c0 : Nat) (l : List ByteArray) (w : World) (hr0 : Kd.C Kd.string w A0 l.length l) (hl : l.length < 1000000) (hs : ∀ p ∈ l, p.size < 1000000) :
    Calls Tryd.prog 52 #[.slice A0 l.length c0, .func (.func 53) #[] #[]] w fun e w' => e = .returned (.bool (!l.all partB)) ∧ Below w.heap.size w w' := by
  have HI := Aside0.mk (indexBad_calls A0 c0 l w hr0 hl hs)
  have hb := badP_all l 0
  generalize badP l 0 = r at HI hb
  clear hr0 hl hs
  rcases hb with ⟨hr, ha⟩ | ⟨hr, ha⟩
  · rw [ha]
    subst hr
    clear ha
    go_enter Tryd.func52, Tryd.ntmps52
    go_wp2_with fail
    refine HI.out.mono ?_
    rintro e w1 ⟨rfl, hb⟩
    have HB := Aside0.mk hb
    clear hb
    go_wp2_with fail
    go_ret
    exact ⟨rfl, HB.out⟩
  · rw [ha]
    have e1 : decide (0 ≤ r) = true := decide_eq_true hr
    clear ha hr
    go_enter Tryd.func52, Tryd.ntmps52
    go_wp2_with fail
    refine HI.out.mono ?_
    rintro e w1 ⟨rfl, hb⟩
    have HB := Aside0.mk hb
    clear hb
    go_wp2_with fail
    go_ret
    exact ⟨rfl, HB.out⟩

def joinB (l : List ByteArray) : ByteArray := ⟨(Lib.join (l.map (·.data.toList)) [46]).toArray⟩
/-- What Join hands back: the name, or why there is none. -/
def joinR (l : List ByteArray) : ByteArray × Int := if l.length = 0 ∨ 4 < l.length ∨ l.all partB = false then (⟨#[]⟩, 3) else if rightB (joinB l) = true then (joinB l, 0) else (⟨#[]⟩, 6)
def name_Join.f (l0 : List ByteArray) : Option (ByteArray × Int) := if l0.length < 1000000 ∧ ∀ p ∈ l0, p.size < 200000 then some (joinR l0) else none
theorem lens_le (B : Nat) : ∀ l : List (List UInt8), (∀ p ∈ l, p.length ≤ B) → Lib.lens l ≤ B * l.length
  | [], _ => by simp [Lib.lens]
  | p :: t, h => by
    have h1 := lens_le B t (fun q hq => h q (List.mem_cons_of_mem _ hq))
    have h2 := h p List.mem_cons_self
    have e : Lib.lens (p :: t) = p.length + Lib.lens t := by simp [Lib.lens]
    rw [e, List.length_cons, Nat.mul_add]; omega
theorem join_size (l : List ByteArray) (h4 : l.length ≤ 4) (hs : ∀ p ∈ l, p.size < 200000) : (Lib.join (l.map (·.data.toList)) [46]).length < 900000 := by
  rcases l with _ | ⟨x, t⟩
  · simp [Lib.join]
  · rw [List.map_cons, Lib.join_length]
    have h1 := lens_le 199999 (x.data.toList :: t.map (·.data.toList)) (by
      intro p hp
      rcases List.mem_cons.1 hp with rfl | hp
      · have := hs x List.mem_cons_self
        have e : x.data.toList.length = x.size := by rw [Array.length_toList]; rfl
        omega
      · obtain ⟨q, hq, rfl⟩ := List.mem_map.1 hp
        have := hs q (List.mem_cons_of_mem _ hq)
        have e : q.data.toList.length = q.size := by rw [Array.length_toList]; rfl
        omega)
    simp only [List.length_cons, List.length_map, List.length_nil] at h1 h4 ⊢
    omega
set_option maxHeartbeats 2000000 in
theorem name_Join.calls (A0 : Option Addr) (c0 : Nat) (l0 : List ByteArray) (r1 : ByteArray) (r2 : Int) (w : World) (hlaidS : LaidS w) (hr0 : Kd.C Kd.string w A0 l0.length l0) (hc0 : l0.length ≤ c0) (h : name_Join.f l0 = some (r1, r2)) :
    Calls Tryd.prog 12 #[.slice A0 l0.length c0] w fun e w' => e = .returned (.tuple #[.string r1, .int .i64 r2]) ∧ Below w.heap.size w w' := by
  unfold name_Join.f at h
  split at h
  case isFalse => cases h
  rename_i hs
  have h := Option.some.inj h
  unfold joinR at h
  by_cases h0 : l0.length = 0
  · rw [if_pos (Or.inl h0)] at h
    obtain ⟨rfl, rfl⟩ := Prod.mk.inj h
    obtain rfl := List.eq_nil_of_length_eq_zero h0
    clear hr0 hs h0 h
    go_enter Tryd.func12, Tryd.ntmps12
    go_wp2_with fail
    go_ret2
    exact ⟨rfl, Below.refl _ _⟩
  · by_cases h4 : 4 < l0.length
    · rw [if_pos (Or.inr (Or.inl h4))] at h
      obtain ⟨rfl, rfl⟩ := Prod.mk.inj h
      have e0 : (l0 = []) = False := eq_false (fun e => h0 (by rw [e]; rfl))
      have e1 : ((l0.length : Int) == 0) = false := by simpa using h0
      have e2 : decide ((4 : Int) < l0.length) = true := decide_eq_true (by omega)
      clear hr0 hs h0 h h4
      go_enter Tryd.func12, Tryd.ntmps12
      go_wp2_with fail
      go_ret2
      exact ⟨rfl, Below.refl _ _⟩
    · have e0 : (l0 = []) = False := eq_false (fun e => h0 (by rw [e]; rfl))
      have e1 : ((l0.length : Int) == 0) = false := by simpa using h0
      have e2 : decide ((4 : Int) < l0.length) = false := decide_eq_false (by omega)
      have HCB := Aside0.mk (containsBad_calls A0 c0 l0 w hr0 hs.1 (fun p hp => by have := hs.2 p hp; omega))
      cases ha : l0.all partB
      · rw [if_pos (Or.inr (Or.inr ha))] at h
        obtain ⟨rfl, rfl⟩ := Prod.mk.inj h
        rw [ha] at HCB
        clear hr0 hs h0 h h4 ha
        go_enter Tryd.func12, Tryd.ntmps12
        go_wp2_with fail
        refine HCB.out.mono ?_
        rintro e w1 ⟨rfl, hb⟩
        have HB := Aside0.mk hb
        clear hb
        go_wp2_with fail
        go_ret2
        exact ⟨rfl, HB.out⟩
      · rw [if_neg (by rintro (h | h | h); exact h0 h; exact h4 h; rw [ha] at h; cases h)] at h
        rw [ha] at HCB
        have hjs := join_size l0 (by omega) hs.2
        obtain ⟨ad, ea, hx⟩ := Kd.at_string hr0 0 (by omega) (by omega)
        cases ea
        have hspot : ad.spot = none := by
          have hx' : w.cell? ad = some (.string (rdOf ByteArray.empty l0 0)) := by simpa [Addr.add] using hx
          unfold World.cell? at hx'
          split at hx'
          · split at hx'
            · cases hx'
            · rename_i hsp; simpa using hsp
          · cases hx'
        obtain ⟨bk, o, sp⟩ := ad
        obtain rfl : sp = none := hspot
        have hbk : bk < w.heap.size := Kd.C_lt hr0 (by omega) (by decide)
        have HJ := Aside0.mk (fun (w1 : World) (hb : Below w.heap.size w w1) => Tryd.strings_Join bk o c0 l0 ⟨#[46]⟩ w1 (fun j x hj => by
          have hjl : j < l0.length := (List.getElem?_eq_some_iff.1 hj).1
          obtain ⟨ad2, e2, hx2⟩ := Kd.at_string (Kd.C_below hr0 hb) (j : Int) (by omega) (by omega)
          cases e2
          rw [Int.toNat_natCast, show rdOf ByteArray.empty l0 (j : Int) = x by simp [rdOf, List.getD, hj]] at hx2
          rw [← hx2]
          unfold Addr.add
          split
          · subst_vars; rfl
          · rfl) (by have := hb.size; omega) (by have := hs.1; omega) hc0 (by show (Lib.join (l0.map (·.data.toList)) [46]).length ≤ _; omega))
        have HRT := Aside0.mk (fun (w1 : World) (hb : Below w.heap.size w w1) => right_calls (joinB l0) w1 (hlaidS.below hb) (by show (Lib.join (l0.map (·.data.toList)) [46]).toArray.size < _; simpa using hjs))
        have hjb : (⟨(Lib.join (l0.map (·.data.toList)) (⟨#[46]⟩ : ByteArray).data.toList).toArray⟩ : ByteArray) = joinB l0 := rfl
        rw [hjb] at HJ
        generalize joinB l0 = jb at HJ HRT h
        clear hr0 hs h0 h4 ha hjs hx hbk hjb hlaidS
        cases hr : rightB jb
        · rw [hr, if_neg (by decide)] at h
          obtain ⟨rfl, rfl⟩ := Prod.mk.inj h
          clear h
          go_enter Tryd.func12, Tryd.ntmps12
          go_wp2_with fail
          refine HCB.out.mono ?_
          rintro e w1 ⟨rfl, hb⟩
          have HB := Aside0.mk hb
          clear hb
          go_wp2_with fail
          refine (HJ.out w1 HB.out).mono ?_
          rintro e w2 ⟨rfl, hb⟩
          have HB2 := Aside0.mk (below_step HB.out hb)
          clear hb
          go_wp2_with fail
          refine (HRT.out w2 HB2.out).mono ?_
          rw [hr]
          rintro e w3 ⟨rfl, hb⟩
          have HB3 := Aside0.mk (below_step HB2.out hb)
          clear hb
          go_wp2_with fail
          go_ret2
          exact ⟨rfl, HB3.out⟩
        · rw [hr, if_pos rfl] at h
          obtain ⟨rfl, rfl⟩ := Prod.mk.inj h
          clear h
          go_enter Tryd.func12, Tryd.ntmps12
          go_wp2_with fail
          refine HCB.out.mono ?_
          rintro e w1 ⟨rfl, hb⟩
          have HB := Aside0.mk hb
          clear hb
          go_wp2_with fail
          refine (HJ.out w1 HB.out).mono ?_
          rintro e w2 ⟨rfl, hb⟩
          have HB2 := Aside0.mk (below_step HB.out hb)
          clear hb
          go_wp2_with fail
          refine (HRT.out w2 HB2.out).mono ?_
          rw [hr]
          rintro e w3 ⟨rfl, hb⟩
          have HB3 := Aside0.mk (below_step HB2.out hb)
          clear hb
          go_wp2_with fail
          go_ret2
          exact ⟨rfl, HB3.out⟩
end Go.Proofs.YtcaojgdnhmgmlaaDoor.Q
end

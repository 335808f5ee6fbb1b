import Derived.Test.YtcaojgdnhmgmlaaDoorNj05
import Derived.Lib.Join
import Derived.Test.YtcaojgdnhmgmlaaDoorNj01
section
/- name.Join, by hand: the name of parts. -/
namespace Go.Proofs.YtcaojgdnhmgmlaaDoor.Q
open Go.RowKit Go.Proofs.YtcaojgdnhmgmlaaDoorW.PrintWords Go.Proofs.YtcaojgdnhmgmlaaDoorW.PrintLast Go.Proofs.YtcaojgdnhmgmlaaDoorW.PrintMore
set_option linter.unusedVariables false

theorem notPart_calls (p : ByteArray) (w : World) (hs : p.size < 1000000) : Calls Tryd.prog 53 #[.string p] w fun e w' => e = .returned (.bool (!partB p)) ∧ Below w.heap.size w w' := by
  have HP := Aside0.mk (part_calls p w hs)
  clear hs
  generalize partB p = b at HP
  go_enter Tryd.func53, Tryd.ntmps53
  go_wp2_with fail
  refine HP.out.mono ?_
  rintro e w1 ⟨rfl, hb⟩
  have HB := Aside0.mk hb
  clear hb
  go_wp2_with fail
  go_ret
  exact ⟨rfl, HB.out⟩
/-- Where the first text that is no part stands; -1: nowhere. -/
def badP : List ByteArray → Nat → Int
  | [], _ => -1
  | p :: t, i => if partB p = true then badP t (i + 1) else i
theorem badP_all : ∀ (l : List ByteArray) (i : Nat), (badP l i = -1 ∧ l.all partB = true) ∨ (0 ≤ badP l i ∧ l.all partB = false)
  | [], i => .inl ⟨rfl, rfl⟩
  | p :: t, i => by
    unfold badP
    cases h : partB p
    · exact .inr ⟨by simp, by simp [h]⟩
    · simp only [if_pos, List.all_cons, h, Bool.true_and]
      exact badP_all t (i + 1)
theorem badP_step (l : List ByteArray) (k : Nat) (h : k < l.length) : badP (l.drop k) k = if partB (rdOf ByteArray.empty l (k : Int)) = true then badP (l.drop (k + 1)) (k + 1) else (k : Int) := by
  rw [show rdOf ByteArray.empty l (k : Int) = l[k] by simp [rdOf, List.getD, h], List.drop_eq_getElem_cons h]
  rfl
set_option maxRecDepth 100000 in
set_option maxHeartbeats 1000000 in
theorem indexBad_calls (A0 : Option Addr) (c0 : Nat) (l : List ByteArray) (w : World) (hr0 : Kd.C Kd.string w A0 l.length l) (hl : l.length < 1000000) (hs : ∀ p ∈ l, p.size < 1000000) :
    Calls Tryd.prog 94 #[.slice A0 l.length c0, .func (.func 53) #[] #[]] w fun e w' => e = .returned (.int .i64 (badP l 0)) ∧ Below w.heap.size w w' := by
  have HR0 := Aside0.mk hr0
  have HL := Aside0.mk hl
  have HS := Aside0.mk hs
  obtain ⟨r, hr⟩ : ∃ r, badP l 0 = r := ⟨_, rfl⟩
  have HR := Aside0.mk hr
  rw [hr]
  clear hr0 hl hs hr
  go_enter Tryd.func94, Tryd.ntmps94
  go_wp2_with fail
  go_loopg [8] l.length (fun kq v wr => ∃ k : Nat, v = .int .i64 (k : Int) ∧ Aside0 (k + kq = l.length) ∧ Aside0 (badP (l.drop k) k = r) ∧ Aside0 (Below w.heap.size w wr))
  case atStart => exact ⟨0, rfl, ⟨by omega⟩, ⟨by simpa using HR.out⟩, ⟨Below.refl _ _⟩⟩
  case round =>
    clear HR
    obtain ⟨k, rfl, HK, HC, HB⟩ := hrel
    have hwk : wrap64 ((k : Int) + 1) = ((k + 1 : Nat) : Int) := by have := HL.out; have := HK.out; unfold wrap64; omega
    by_cases hlt : k < l.length
    · have e1 : decide ((k : Int) < l.length) = true := decide_eq_true (by omega)
      have p0 : (0 : Int) ≤ k := by omega
      have p1 : (k : Int) < l.length := by omega
      obtain ⟨ad, ea, hx⟩ := Kd.at_string (Kd.C_below HR0.out HB.out) (k : Int) p0 p1
      cases ea
      rw [Int.toNat_natCast] at hx
      have hst := badP_step l k hlt
      rw [HC.out] at hst
      have HNP := Aside0.mk (notPart_calls (rdOf ByteArray.empty l (k : Int)) wr (HS.out _ (by rw [show rdOf ByteArray.empty l (k : Int) = l[k] by simp [rdOf, List.getD, hlt]]; exact List.getElem_mem hlt)))
      obtain ⟨kq', rfl⟩ : ∃ m, gk = m + 1 := ⟨gk - 1, by have := HK.out; omega⟩
      cases hq : partB (rdOf ByteArray.empty l (k : Int))
      · rw [hq, if_neg (by decide)] at hst
        rw [hq] at HNP
        have HST := Aside0.mk hst
        clear hst hq
        go_wp2_with fail
        refine HNP.out.mono ?_
        rintro e w1 ⟨rfl, hb⟩
        have HB1 := Aside0.mk (below_step HB.out hb)
        clear hb
        go_wp2_with fail
        go_ret
        exact ⟨by rw [HST.out]; rfl, HB1.out⟩
      · rw [hq, if_pos rfl] at hst
        rw [hq] at HNP
        have HST := Aside0.mk hst
        clear hst hq
        go_wp2_with fail
        refine HNP.out.mono ?_
        rintro e w1 ⟨rfl, hb⟩
        have HB1 := Aside0.mk (below_step HB.out hb)
        clear hb
        go_wp2_with fail
        go_roundg kq'
        case measure => omega
        case rel => exact ⟨k + 1, by rw [hwk], ⟨by have := HK.out; omega⟩, ⟨HST.out.symm⟩, HB1⟩
    · have e1 : decide ((k : Int) < l.length) = false := decide_eq_false (by omega)
      have hd : r = -1 := by
        have := HC.out
        rw [List.drop_of_length_le (by omega)] at this
        exact this.symm
      have HD := Aside0.mk hd
      clear hd
      go_wp2_with fail
      go_ret
      exact ⟨by rw [HD.out]; rfl, HB.out⟩
set_option maxHeartbeats 1000000 in
theorem containsBad_calls (A0 : Option Addr) (c0 : Nat) (l : List ByteArray) (w : World) (hr0 : Kd.C Kd.string w A0 l.length l) (hl : l.length < 1000000) (hs : ∀ p ∈ l, p.size < 1000000) :
    Calls Tryd.prog 52 #[.slice A0 l.length c0, .func (.func 53) #[] #[]] w fun e w' => e = .returned (.bool (!l.all partB)) ∧ Below w.heap.size w w' := by
  have HI := Aside0.mk (indexBad_calls A0 c0 l w hr0 hl hs)
  have hb := badP_all l 0
  generalize badP l 0 = r at HI hb
  clear hr0 hl hs
  rcases hb with ⟨hr, ha⟩ | ⟨hr, ha⟩
  · rw [ha]
    subst hr
    clear ha
    go_enter Tryd.func52, Tryd.ntmps52
    go_wp2_with fail
    refine HI.out.mono ?_
    rintro e w1 ⟨rfl, hb⟩
    have HB := Aside0.mk hb
    clear hb
    go_wp2_with fail
    go_ret
    exact ⟨rfl, HB.out⟩
  · rw [ha]
    have e1 : decide (0 ≤ r) = true := decide_eq_true hr
    clear ha hr
    go_enter Tryd.func52, Tryd.ntmps52
    go_wp2_with fail
    refine HI.out.mono ?_
    rintro e w1 ⟨rfl, hb⟩
    have HB := Aside0.mk hb
    clear hb
    go_wp2_with fail
    go_ret
    exact ⟨rfl, HB.out⟩

def joinB (l : List ByteArray) : ByteArray := ⟨(Lib.join (l.map (·.data.toList)) [46]).toArray⟩
/-- What Join hands back: the name, or why there is none. -/
def joinR (l : List ByteArray) : ByteArray × Int := if l.length = 0 ∨ 4 < l.length ∨ l.all partB = false then (⟨#[]⟩, 3) else if rightB (joinB l) = true then (joinB l, 0) else (⟨#[]⟩, 6)
def name_Join.f (l0 : List ByteArray) : Option (ByteArray × Int) := if l0.length < 1000000 ∧ ∀ p ∈ l0, p.size < 200000 then some (joinR l0) else none
theorem lens_le (B : Nat) : ∀ l : List (List UInt8), (∀ p ∈ l, p.length ≤ B) → Lib.lens l ≤ B * l.length
  | [], _ => by simp [Lib.lens]
  | p :: t, h => by
    have h1 := lens_le B t (fun q hq => h q (List.mem_cons_of_mem _ hq))
    have h2 := h p List.mem_cons_self
    have e : Lib.lens (p :: t) = p.length + Lib.lens t := by simp [Lib.lens]
    rw [e, List.length_cons, Nat.mul_add]; omega
theorem join_size (l : List ByteArray) (h4 : l.length ≤ 4) (hs : ∀ p ∈ l, p.size < 200000) : (Lib.join (l.map (·.data.toList)) [46]).length < 900000 := by
  rcases l with _ | ⟨x, t⟩
  · simp [Lib.join]
  · rw [List.map_cons, Lib.join_length]
    have h1 := lens_le 199999 (x.data.toList :: t.map (·.data.toList)) (by
      intro p hp
      rcases List.mem_cons.1 hp with rfl | hp
      · have := hs x List.mem_cons_self
        have e : x.data.toList.length = x.size := by rw [Array.length_toList]; rfl
        omega
      · obtain ⟨q, hq, rfl⟩ := List.mem_map.1 hp
        have := hs q (List.mem_cons_of_mem _ hq)
        have e : q.data.toList.length = q.size := by rw [Array.length_toList]; rfl
        omega)
    simp only [List.length_cons, List.length_map, List.length_nil] at h1 h4 ⊢
    omega
set_option maxHeartbeats 2000000 in
theorem name_Join.calls (A0 : Option Addr) (c0 : Nat) (l0 : List ByteArray) (r1 : ByteArray) (r2 : Int) (w : World) (hlaidS : LaidS w) (hr0 : Kd.C Kd.string w A0 l0.length l0) (hc0 : l0.length ≤ c0) (h : name_Join.f l0 = some (r1, r2)) :
    Calls Tryd.prog 12 #[.slice A0 l0.length c0] w fun e w' => e = .returned (.tuple #[.string r1, .int .i64 r2]) ∧ Below w.heap.size w w' := by
  unfold name_Join.f at h
  split at h
  case isFalse => cases h
  rename_i hs
  have h := Option.some.inj h
  unfold joinR at h
  by_cases h0 : l0.length = 0
  · rw [if_pos (Or.inl h0)] at h
    obtain ⟨rfl, rfl⟩ := Prod.mk.inj h
    obtain rfl := List.eq_nil_of_length_eq_zero h0
    clear hr0 hs h0 h
    go_enter Tryd.func12, Tryd.ntmps12
    go_wp2_with fail
    go_ret2
    exact ⟨rfl, Below.refl _ _⟩
  · by_cases h4 : 4 < l0.length
    · rw [if_pos (Or.inr (Or.inl h4))] at h
      obtain ⟨rfl, rfl⟩ := Prod.mk.inj h
      have e0 : (l0 = []) = False := eq_false (fun e => h0 (by rw [e]; rfl))
      have e1 : ((l0.length : Int) == 0) = false := by simpa using h0
      have e2 : decide ((4 : Int) < l0.length) = true := decide_eq_true (by omega)
      clear hr0 hs h0 h h4
      go_enter Tryd.func12, Tryd.ntmps12
      go_wp2_with fail
      go_ret2
      exact ⟨rfl, Below.refl _ _⟩
    · have e0 : (l0 = []) = False := eq_false (fun e => h0 (by rw [e]; rfl))
      have e1 : ((l0.length : Int) == 0) = false := by simpa using h0
      have e2 : decide ((4 : Int) < l0.length) = false := decide_eq_false (by omega)
      have HCB := Aside0.mk (containsBad_calls A0 c0 l0 w hr0 hs.1 (fun p hp => by have := hs.2 p hp; omega))
      cases ha : l0.all partB
      · rw [if_pos (Or.inr (Or.inr ha))] at h
        obtain ⟨rfl, rfl⟩ := Prod.mk.inj h
        rw [ha] at HCB
        clear hr0 hs h0 h h4 ha
        go_enter Tryd.func12, Tryd.ntmps12
        go_wp2_with fail
        refine HCB.out.mono ?_
        rintro e w1 ⟨rfl, hb⟩
        have HB := Aside0.mk hb
        clear hb
        go_wp2_with fail
        go_ret2
        exact ⟨rfl, HB.out⟩
      · rw [if_neg (by rintro (h | h | h); exact h0 h; exact h4 h; rw [ha] at h; cases h)] at h
        rw [ha] at HCB
        have hjs := join_size l0 (by omega) hs.2
        obtain ⟨ad, ea, hx⟩ := Kd.at_string hr0 0 (by omega) (by omega)
        cases ea
        have hspot : ad.spot = none := by
          have hx' : w.cell? ad = some (.string (rdOf ByteArray.empty l0 0)) := by simpa [Addr.add] using hx
          unfold World.cell? at hx'
          split at hx'
          · split at hx'
            · cases hx'
            · rename_i hsp; simpa using hsp
          · cases hx'
        obtain ⟨bk, o, sp⟩ := ad
        obtain rfl : sp = none := hspot
        have hbk : bk < w.heap.size := Kd.C_lt hr0 (by omega) (by decide)
        have HJ := Aside0.mk (fun (w1 : World) (hb : Below w.heap.size w w1) => Tryd.strings_Join bk o c0 l0 ⟨#[46]⟩ w1 (fun j x hj => by
          have hjl : j < l0.length := (List.getElem?_eq_some_iff.1 hj).1
          obtain ⟨ad2, e2, hx2⟩ := Kd.at_string (Kd.C_below hr0 hb) (j : Int) (by omega) (by omega)
          cases e2
          rw [Int.toNat_natCast, show rdOf ByteArray.empty l0 (j : Int) = x by simp [rdOf, List.getD, hj]] at hx2
          rw [← hx2]
          unfold Addr.add
          split
          · subst_vars; rfl
          · rfl) (by have := hb.size; omega) (by have := hs.1; omega) hc0 (by show (Lib.join (l0.map (·.data.toList)) [46]).length ≤ _; omega))
        have HRT := Aside0.mk (fun (w1 : World) (hb : Below w.heap.size w w1) => right_calls (joinB l0) w1 (hlaidS.below hb) (by show (Lib.join (l0.map (·.data.toList)) [46]).toArray.size < _; simpa using hjs))
        have hjb : (⟨(Lib.join (l0.map (·.data.toList)) (⟨#[46]⟩ : ByteArray).data.toList).toArray⟩ : ByteArray) = joinB l0 := rfl
        rw [hjb] at HJ
        generalize joinB l0 = jb at HJ HRT h
        clear hr0 hs h0 h4 ha hjs hx hbk hjb hlaidS
        cases hr : rightB jb
        · rw [hr, if_neg (by decide)] at h
          obtain ⟨rfl, rfl⟩ := Prod.mk.inj h
          clear h
          go_enter Tryd.func12, Tryd.ntmps12
          go_wp2_with fail
          refine HCB.out.mono ?_
          rintro e w1 ⟨rfl, hb⟩
          have HB := Aside0.mk hb
          clear hb
          go_wp2_with fail
          refine (HJ.out w1 HB.out).mono ?_
          rintro e w2 ⟨rfl, hb⟩
          have HB2 := Aside0.mk (below_step HB.out hb)
          clear hb
          go_wp2_with fail
          refine (HRT.out w2 HB2.out).mono ?_
          rw [hr]
          rintro e w3 ⟨rfl, hb⟩
          have HB3 := Aside0.mk (below_step HB2.out hb)
          clear hb
          go_wp2_with fail
          go_ret2
          exact ⟨rfl, HB3.out⟩
        · rw [hr, if_pos rfl] at h
          obtain ⟨rfl, rfl⟩ := Prod.mk.inj h
          clear h
          go_enter Tryd.func12, Tryd.ntmps12
          go_wp2_with fail
          refine HCB.out.mono ?_
          rintro e w1 ⟨rfl, hb⟩
          have HB := Aside0.mk hb
          clear hb
          go_wp2_with fail
          refine (HJ.out w1 HB.out).mono ?_
          rintro e w2 ⟨rfl, hb⟩
          have HB2 := Aside0.mk (below_step HB.out hb)
          clear hb
          go_wp2_with fail
          refine (HRT.out w2 HB2.out).mono ?_
          rw [hr]
          rintro e w3 ⟨rfl, hb⟩
          have HB3 := Aside0.mk (below_step HB2.out hb)
          clear hb
          go_wp2_with fail
          go_ret2
          exact ⟨rfl, HB3.out⟩
end Go.Proofs.YtcaojgdnhmgmlaaDoor.Q
end
section
/- Functions of the seat as plain Lean functions, and that the calls do what these say; conditions stand in each theorem. (Written by a program of this seat's prover, by the kit's printer; Lean checks it.) -/
namespace Go.Proofs.YtcaojgdnhmgmlaaDoor.Q
open Go.RowKit Go.Proofs.YtcaojgdnhmgmlaaDoorW.PrintWords Go.Proofs.YtcaojgdnhmgmlaaDoorW.PrintLast Go.Proofs.YtcaojgdnhmgmlaaDoorW.PrintMore
attribute [local go_sem] max2_int min2_int max_two min_two max_three min_three max_four min_four   -- for this text's walks alone
set_option linter.unusedVariables false
set_option linter.unusedSimpArgs false

/-! ### oubliettelaw03_alive: function 11 -/
def oubliettelaw03_alive.f  : Option (Bool) := (name_Join.f (([(⟨#[97, 98]⟩ : ByteArray), (⟨#[51]⟩ : ByteArray)] : List ByteArray))).bind fun bt302 => (if bt302.1.toList = ([97, 98, 46, 51] : List UInt8) then (if bt302.2 = 0 then ((name_Below.f (⟨#[97, 98, 46, 51]⟩ : ByteArray) (⟨#[97, 98]⟩ : ByteArray)).bind fun t304 => (if t304 = true then ((name_Right.f (⟨#[65, 98]⟩ : ByteArray)).bind fun t305 => (some (!t305))) else (some false))) else (some false)) else (some false))
set_option maxHeartbeats 8000000 in
set_option maxRecDepth 100000 in
theorem oubliettelaw03_alive.calls  (r : Bool) (w : World) (hlaidS : LaidS w) (h : oubliettelaw03_alive.f  = some r) :
    Calls Tryd.prog 11 #[] w fun e w' => e = .returned (.bool r) ∧ Below w.heap.size w w' := by
  have HLS := Aside0.mk hlaidS
  clear hlaidS
  have HB := Aside0.mk (Below.refl w.heap.size w)
  have H : ((name_Join.f (([(⟨#[97, 98]⟩ : ByteArray), (⟨#[51]⟩ : ByteArray)] : List ByteArray))).bind fun bt302 => (if bt302.1.toList = ([97, 98, 46, 51] : List UInt8) then (if bt302.2 = 0 then ((name_Below.f (⟨#[97, 98, 46, 51]⟩ : ByteArray) (⟨#[97, 98]⟩ : ByteArray)).bind fun t304 => (if t304 = true then ((name_Right.f (⟨#[65, 98]⟩ : ByteArray)).bind fun t305 => (some (!t305))) else (some false))) else (some false)) else (some false))) = some r := h
  clear h
  obtain ⟨y299, hy299⟩ : ∃ y_ : List ByteArray, y_ = (([(⟨#[97, 98]⟩ : ByteArray), (⟨#[51]⟩ : ByteArray)] : List ByteArray)) := ⟨_, rfl⟩
  replace H : ((name_Join.f y299).bind fun bt302 => (if bt302.1.toList = ([97, 98, 46, 51] : List UInt8) then (if bt302.2 = 0 then ((name_Below.f (⟨#[97, 98, 46, 51]⟩ : ByteArray) (⟨#[97, 98]⟩ : ByteArray)).bind fun t304 => (if t304 = true then ((name_Right.f (⟨#[65, 98]⟩ : ByteArray)).bind fun t305 => (some (!t305))) else (some false))) else (some false)) else (some false))) = some r := by first | (rw [hy299]; with_reducible exact H) | (have H2_ := (Option.bind_some _ _).symm.trans H; rw [hy299]; with_reducible exact H2_) | (have H2_ := (Option.bind_some _ _).symm.trans H; with_reducible exact H2_) | with_reducible exact H | (rw [hy299]; exact H) | exact H
  have Ny299 := Aside0.mk hy299
  clear hy299
  replace H := Option.bind_eq_some_iff.mp H
  obtain ⟨⟨t302, t303⟩, A10, H⟩ := H
  replace H : (if t302.toList = ([97, 98, 46, 51] : List UInt8) then (if t303 = 0 then ((name_Below.f (⟨#[97, 98, 46, 51]⟩ : ByteArray) (⟨#[97, 98]⟩ : ByteArray)).bind fun t304 => (if t304 = true then ((name_Right.f (⟨#[65, 98]⟩ : ByteArray)).bind fun t305 => (some (!t305))) else (some false))) else (some false)) else (some false)) = some r := H
  have A1 := Aside0.mk A10
  clear A10
  by_cases c2 : t302.toList = ([97, 98, 46, 51] : List UInt8)
  · rw [if_pos c2] at H
    have c2b0 : (t302.toList == ([97, 98, 46, 51] : List UInt8)) = true := beq_iff_eq.mpr c2
    have c2b1 : (t302.toList != ([97, 98, 46, 51] : List UInt8)) = false := bne_eq_false_iff_eq.mpr c2
    clear c2
    by_cases c3 : t303 = 0
    · rw [if_pos c3] at H
      have c3b0 : (t303 == 0) = true := beq_iff_eq.mpr c3
      have c3b1 : (t303 != 0) = false := bne_eq_false_iff_eq.mpr c3
      clear c3
      replace H := Option.bind_eq_some_iff.mp H
      obtain ⟨t304, A40, H⟩ := H
      replace H : (if t304 = true then ((name_Right.f (⟨#[65, 98]⟩ : ByteArray)).bind fun t305 => (some (!t305))) else (some false)) = some r := H
      have A4 := Aside0.mk A40
      clear A40
      by_cases c5 : t304 = true
      · subst c5
        have H1 : ((name_Right.f (⟨#[65, 98]⟩ : ByteArray)).bind fun t305 => (some (!t305))) = some r := by rw [if_pos rfl] at H; exact H
        clear H
        have H := H1
        clear H1
        replace H := Option.bind_eq_some_iff.mp H
        obtain ⟨t305, A60, H⟩ := H
        replace H : (some (!t305)) = some r := H
        have A6 := Aside0.mk A60
        clear A60
        obtain rfl := Option.some.inj H
        go_enter Tryd.func11, Tryd.ntmps11
        go_wp2_with (first | ((with_reducible refine gate_dst (N := 4) rfl ?_); refine Kd.R_lit Kd.string _ 9 ?hg (N := 4) ?hd (xs := ([(⟨#[97, 98]⟩ : ByteArray), (⟨#[51]⟩ : ByteArray)] : List ByteArray)) (inner := [.string (⟨#[97, 98]⟩ : ByteArray), .string (⟨#[51]⟩ : ByteArray)]) (ok := fun _ => True) (okp := fun _ => True) ?hr ?hp (fun _ hk => hk) trivial (Below.refl _ _) (Nat.le_refl _) (by simp) ?_; (case hd => rfl); (case hg => rfl); (case hr => first | (go_simp; done) | (go_simp; rfl)); (case hp => exact (Reps.one (show Kd.M Kd.string _ _ _ (⟨#[97, 98]⟩ : ByteArray) [.string (⟨#[97, 98]⟩ : ByteArray)] from rfl) (Reps.one (show Kd.M Kd.string _ _ _ (⟨#[51]⟩ : ByteArray) [.string (⟨#[51]⟩ : ByteArray)] from rfl) (Reps.none _ _)))); intro v300 w7 ho8 hb hg_ hnew_; clear hg_ hnew_; (first | rw [← Ny299.out] at ho8 | (simp only [Int.reduceToNat] at ho8; rw [← Ny299.out] at ho8)); have n0_ := Aside0.mk (Kd.R_lower ho8 (below_size (by repeat (first | (with_reducible first | exact HB.out | apply below_alloc | apply pw_below_drewN | apply below_drew1) | exact HB.out)))); have n1_ := Aside0.mk (below_step (by repeat (first | (with_reducible first | exact HB.out | apply below_alloc | apply pw_below_drewN | apply below_drew1) | exact HB.out)) hb); clear HB; have HO301 := n0_; have HB := n1_; clear n0_ n1_; clear hb ho8; obtain ⟨Ao9, co9, eo9⟩ := Kd.R_slice HO301.out; subst eo9) | ((with_reducible refine gate_callee (f := 12) rfl ?_); refine goesL_ (some 5) rfl rfl Tryd.func12 (by kernel_rfl) rfl #[.slice Ao9 y299.length co9] rfl (by (try simp only [List.map_toArray, List.map_cons, List.map_nil]); first | done | rfl | (simp only [List.length_drop, List.length_take]; rfl)) ?_; (with_reducible refine (name_Join.calls (hlaidS := ?lwS) _ _ y299 t302 t303 _ ?side1 ?side2 A1.out).mono ?_); (case lwS => exact LaidS.below HLS.out (by repeat (first | (with_reducible first | exact HB.out | exact Below.refl _ _ | apply below_alloc | apply pw_below_drewN | apply below_drew1) | exact HB.out))); (case side1 => repeat (first | exact (Kd.R_reads' HO301.out).2.2 | (with_reducible refine Kd.C_alloc ?_ _) | (with_reducible refine Kd.C_drewN ?_ _) | (with_reducible refine Kd.C_drew ?_))); (case side2 => exact (Kd.R_reads' HO301.out).2.1); rintro e w10 ⟨rfl, hb⟩; refine ⟨_, rfl, ?_⟩; have n0_ := Aside0.mk (Kd.R_below (by (with_reducible repeat (first | apply Kd.R_alloc | apply Kd.R_drewN | apply Kd.R_drew)); exact HO301.out) hb); have n1_ := Aside0.mk (below_step (by repeat (first | (with_reducible first | exact HB.out | apply below_alloc | apply pw_below_drewN | apply below_drew1) | exact HB.out)) hb); clear HO301; clear HB; have HO301 := n0_; have HB := n1_; clear n0_ n1_; (try clear hb); (try clear hb2); (try clear hk); (try clear hi)) | (go_at_call 19; (with_reducible refine (name_Below.calls (hlaidS := ?lwS) (⟨#[97, 98, 46, 51]⟩ : ByteArray) (⟨#[97, 98]⟩ : ByteArray) true _ A4.out).mono ?_); (case lwS => exact LaidS.below HLS.out (by repeat (first | (with_reducible first | exact HB.out | exact Below.refl _ _ | apply below_alloc | apply pw_below_drewN | apply below_drew1) | exact HB.out))); rintro e w11 ⟨rfl, hb⟩; have n0_ := Aside0.mk (Kd.R_below (by (with_reducible repeat (first | apply Kd.R_alloc | apply Kd.R_drewN | apply Kd.R_drew)); exact HO301.out) hb); have n1_ := Aside0.mk (below_step (by repeat (first | (with_reducible first | exact HB.out | apply below_alloc | apply pw_below_drewN | apply below_drew1) | exact HB.out)) hb); clear HO301; clear HB; have HO301 := n0_; have HB := n1_; clear n0_ n1_; (try clear hb); (try clear hb2); (try clear hk); (try clear hi)) | (go_at_call 18; (with_reducible refine (name_Right.calls (hlaidS := ?lwS) (⟨#[65, 98]⟩ : ByteArray) t305 _ A6.out).mono ?_); (case lwS => exact LaidS.below HLS.out (by repeat (first | (with_reducible first | exact HB.out | exact Below.refl _ _ | apply below_alloc | apply pw_below_drewN | apply below_drew1) | exact HB.out))); rintro e w12 ⟨rfl, hb⟩; have n0_ := Aside0.mk (Kd.R_below (by (with_reducible repeat (first | apply Kd.R_alloc | apply Kd.R_drewN | apply Kd.R_drew)); exact HO301.out) hb); have n1_ := Aside0.mk (below_step (by repeat (first | (with_reducible first | exact HB.out | apply below_alloc | apply pw_below_drewN | apply below_drew1) | exact HB.out)) hb); clear HO301; clear HB; have HO301 := n0_; have HB := n1_; clear n0_ n1_; (try clear hb); (try clear hb2); (try clear hk); (try clear hi)))
        go_ret
        exact ⟨by first | rfl | (simp [errW_none, errW_some] <;> rfl) | (simp [*, errW_none, errW_some] <;> rfl), by repeat (first | (with_reducible first | exact HB.out | apply below_alloc | apply pw_below_drewN | apply below_drew1) | exact HB.out)⟩
      · replace c5 := Bool.eq_false_iff.mpr c5
        subst c5
        have H1 : (some false) = some r := by rw [if_neg (show ¬ (false = true) by decide)] at H; exact H
        clear H
        have H := H1
        clear H1
        obtain rfl := Option.some.inj H
        go_enter Tryd.func11, Tryd.ntmps11
        go_wp2_with (first | ((with_reducible refine gate_dst (N := 4) rfl ?_); refine Kd.R_lit Kd.string _ 9 ?hg (N := 4) ?hd (xs := ([(⟨#[97, 98]⟩ : ByteArray), (⟨#[51]⟩ : ByteArray)] : List ByteArray)) (inner := [.string (⟨#[97, 98]⟩ : ByteArray), .string (⟨#[51]⟩ : ByteArray)]) (ok := fun _ => True) (okp := fun _ => True) ?hr ?hp (fun _ hk => hk) trivial (Below.refl _ _) (Nat.le_refl _) (by simp) ?_; (case hd => rfl); (case hg => rfl); (case hr => first | (go_simp; done) | (go_simp; rfl)); (case hp => exact (Reps.one (show Kd.M Kd.string _ _ _ (⟨#[97, 98]⟩ : ByteArray) [.string (⟨#[97, 98]⟩ : ByteArray)] from rfl) (Reps.one (show Kd.M Kd.string _ _ _ (⟨#[51]⟩ : ByteArray) [.string (⟨#[51]⟩ : ByteArray)] from rfl) (Reps.none _ _)))); intro v300 w13 ho14 hb hg_ hnew_; clear hg_ hnew_; (first | rw [← Ny299.out] at ho14 | (simp only [Int.reduceToNat] at ho14; rw [← Ny299.out] at ho14)); have n0_ := Aside0.mk (Kd.R_lower ho14 (below_size (by repeat (first | (with_reducible first | exact HB.out | apply below_alloc | apply pw_below_drewN | apply below_drew1) | exact HB.out)))); have n1_ := Aside0.mk (below_step (by repeat (first | (with_reducible first | exact HB.out | apply below_alloc | apply pw_below_drewN | apply below_drew1) | exact HB.out)) hb); clear HB; have HO301 := n0_; have HB := n1_; clear n0_ n1_; clear hb ho14; obtain ⟨Ao15, co15, eo15⟩ := Kd.R_slice HO301.out; subst eo15) | ((with_reducible refine gate_callee (f := 12) rfl ?_); refine goesL_ (some 5) rfl rfl Tryd.func12 (by kernel_rfl) rfl #[.slice Ao15 y299.length co15] rfl (by (try simp only [List.map_toArray, List.map_cons, List.map_nil]); first | done | rfl | (simp only [List.length_drop, List.length_take]; rfl)) ?_; (with_reducible refine (name_Join.calls (hlaidS := ?lwS) _ _ y299 t302 t303 _ ?side1 ?side2 A1.out).mono ?_); (case lwS => exact LaidS.below HLS.out (by repeat (first | (with_reducible first | exact HB.out | exact Below.refl _ _ | apply below_alloc | apply pw_below_drewN | apply below_drew1) | exact HB.out))); (case side1 => repeat (first | exact (Kd.R_reads' HO301.out).2.2 | (with_reducible refine Kd.C_alloc ?_ _) | (with_reducible refine Kd.C_drewN ?_ _) | (with_reducible refine Kd.C_drew ?_))); (case side2 => exact (Kd.R_reads' HO301.out).2.1); rintro e w16 ⟨rfl, hb⟩; refine ⟨_, rfl, ?_⟩; have n0_ := Aside0.mk (Kd.R_below (by (with_reducible repeat (first | apply Kd.R_alloc | apply Kd.R_drewN | apply Kd.R_drew)); exact HO301.out) hb); have n1_ := Aside0.mk (below_step (by repeat (first | (with_reducible first | exact HB.out | apply below_alloc | apply pw_below_drewN | apply below_drew1) | exact HB.out)) hb); clear HO301; clear HB; have HO301 := n0_; have HB := n1_; clear n0_ n1_; (try clear hb); (try clear hb2); (try clear hk); (try clear hi)) | (go_at_call 19; (with_reducible refine (name_Below.calls (hlaidS := ?lwS) (⟨#[97, 98, 46, 51]⟩ : ByteArray) (⟨#[97, 98]⟩ : ByteArray) false _ A4.out).mono ?_); (case lwS => exact LaidS.below HLS.out (by repeat (first | (with_reducible first | exact HB.out | exact Below.refl _ _ | apply below_alloc | apply pw_below_drewN | apply below_drew1) | exact HB.out))); rintro e w17 ⟨rfl, hb⟩; have n0_ := Aside0.mk (Kd.R_below (by (with_reducible repeat (first | apply Kd.R_alloc | apply Kd.R_drewN | apply Kd.R_drew)); exact HO301.out) hb); have n1_ := Aside0.mk (below_step (by repeat (first | (with_reducible first | exact HB.out | apply below_alloc | apply pw_below_drewN | apply below_drew1) | exact HB.out)) hb); clear HO301; clear HB; have HO301 := n0_; have HB := n1_; clear n0_ n1_; (try clear hb); (try clear hb2); (try clear hk); (try clear hi)))
        go_ret
        exact ⟨by first | rfl | (simp [errW_none, errW_some] <;> rfl) | (simp [*, errW_none, errW_some] <;> rfl), by repeat (first | (with_reducible first | exact HB.out | apply below_alloc | apply pw_below_drewN | apply below_drew1) | exact HB.out)⟩
    · rw [if_neg c3] at H
      have c3b0 : (t303 == 0) = false := beq_eq_false_iff_ne.mpr c3
      have c3b1 : (t303 != 0) = true := bne_iff_ne.mpr c3
      obtain rfl := Option.some.inj H
      go_enter Tryd.func11, Tryd.ntmps11
      go_wp2_with (first | ((with_reducible refine gate_dst (N := 4) rfl ?_); refine Kd.R_lit Kd.string _ 9 ?hg (N := 4) ?hd (xs := ([(⟨#[97, 98]⟩ : ByteArray), (⟨#[51]⟩ : ByteArray)] : List ByteArray)) (inner := [.string (⟨#[97, 98]⟩ : ByteArray), .string (⟨#[51]⟩ : ByteArray)]) (ok := fun _ => True) (okp := fun _ => True) ?hr ?hp (fun _ hk => hk) trivial (Below.refl _ _) (Nat.le_refl _) (by simp) ?_; (case hd => rfl); (case hg => rfl); (case hr => first | (go_simp; done) | (go_simp; rfl)); (case hp => exact (Reps.one (show Kd.M Kd.string _ _ _ (⟨#[97, 98]⟩ : ByteArray) [.string (⟨#[97, 98]⟩ : ByteArray)] from rfl) (Reps.one (show Kd.M Kd.string _ _ _ (⟨#[51]⟩ : ByteArray) [.string (⟨#[51]⟩ : ByteArray)] from rfl) (Reps.none _ _)))); intro v300 w18 ho19 hb hg_ hnew_; clear hg_ hnew_; (first | rw [← Ny299.out] at ho19 | (simp only [Int.reduceToNat] at ho19; rw [← Ny299.out] at ho19)); have n0_ := Aside0.mk (Kd.R_lower ho19 (below_size (by repeat (first | (with_reducible first | exact HB.out | apply below_alloc | apply pw_below_drewN | apply below_drew1) | exact HB.out)))); have n1_ := Aside0.mk (below_step (by repeat (first | (with_reducible first | exact HB.out | apply below_alloc | apply pw_below_drewN | apply below_drew1) | exact HB.out)) hb); clear HB; have HO301 := n0_; have HB := n1_; clear n0_ n1_; clear hb ho19; obtain ⟨Ao20, co20, eo20⟩ := Kd.R_slice HO301.out; subst eo20) | ((with_reducible refine gate_callee (f := 12) rfl ?_); refine goesL_ (some 5) rfl rfl Tryd.func12 (by kernel_rfl) rfl #[.slice Ao20 y299.length co20] rfl (by (try simp only [List.map_toArray, List.map_cons, List.map_nil]); first | done | rfl | (simp only [List.length_drop, List.length_take]; rfl)) ?_; (with_reducible refine (name_Join.calls (hlaidS := ?lwS) _ _ y299 t302 t303 _ ?side1 ?side2 A1.out).mono ?_); (case lwS => exact LaidS.below HLS.out (by repeat (first | (with_reducible first | exact HB.out | exact Below.refl _ _ | apply below_alloc | apply pw_below_drewN | apply below_drew1) | exact HB.out))); (case side1 => repeat (first | exact (Kd.R_reads' HO301.out).2.2 | (with_reducible refine Kd.C_alloc ?_ _) | (with_reducible refine Kd.C_drewN ?_ _) | (with_reducible refine Kd.C_drew ?_))); (case side2 => exact (Kd.R_reads' HO301.out).2.1); rintro e w21 ⟨rfl, hb⟩; refine ⟨_, rfl, ?_⟩; have n0_ := Aside0.mk (Kd.R_below (by (with_reducible repeat (first | apply Kd.R_alloc | apply Kd.R_drewN | apply Kd.R_drew)); exact HO301.out) hb); have n1_ := Aside0.mk (below_step (by repeat (first | (with_reducible first | exact HB.out | apply below_alloc | apply pw_below_drewN | apply below_drew1) | exact HB.out)) hb); clear HO301; clear HB; have HO301 := n0_; have HB := n1_; clear n0_ n1_; (try clear hb); (try clear hb2); (try clear hk); (try clear hi)))
      go_ret
      exact ⟨by first | rfl | (simp [errW_none, errW_some] <;> rfl) | (simp [*, errW_none, errW_some] <;> rfl), by repeat (first | (with_reducible first | exact HB.out | apply below_alloc | apply pw_below_drewN | apply below_drew1) | exact HB.out)⟩
  · rw [if_neg c2] at H
    have c2b0 : (t302.toList == ([97, 98, 46, 51] : List UInt8)) = false := beq_eq_false_iff_ne.mpr c2
    have c2b1 : (t302.toList != ([97, 98, 46, 51] : List UInt8)) = true := bne_iff_ne.mpr c2
    obtain rfl := Option.some.inj H
    go_enter Tryd.func11, Tryd.ntmps11
    go_wp2_with (first | ((with_reducible refine gate_dst (N := 4) rfl ?_); refine Kd.R_lit Kd.string _ 9 ?hg (N := 4) ?hd (xs := ([(⟨#[97, 98]⟩ : ByteArray), (⟨#[51]⟩ : ByteArray)] : List ByteArray)) (inner := [.string (⟨#[97, 98]⟩ : ByteArray), .string (⟨#[51]⟩ : ByteArray)]) (ok := fun _ => True) (okp := fun _ => True) ?hr ?hp (fun _ hk => hk) trivial (Below.refl _ _) (Nat.le_refl _) (by simp) ?_; (case hd => rfl); (case hg => rfl); (case hr => first | (go_simp; done) | (go_simp; rfl)); (case hp => exact (Reps.one (show Kd.M Kd.string _ _ _ (⟨#[97, 98]⟩ : ByteArray) [.string (⟨#[97, 98]⟩ : ByteArray)] from rfl) (Reps.one (show Kd.M Kd.string _ _ _ (⟨#[51]⟩ : ByteArray) [.string (⟨#[51]⟩ : ByteArray)] from rfl) (Reps.none _ _)))); intro v300 w22 ho23 hb hg_ hnew_; clear hg_ hnew_; (first | rw [← Ny299.out] at ho23 | (simp only [Int.reduceToNat] at ho23; rw [← Ny299.out] at ho23)); have n0_ := Aside0.mk (Kd.R_lower ho23 (below_size (by repeat (first | (with_reducible first | exact HB.out | apply below_alloc | apply pw_below_drewN | apply below_drew1) | exact HB.out)))); have n1_ := Aside0.mk (below_step (by repeat (first | (with_reducible first | exact HB.out | apply below_alloc | apply pw_below_drewN | apply below_drew1) | exact HB.out)) hb); clear HB; have HO301 := n0_; have HB := n1_; clear n0_ n1_; clear hb ho23; obtain ⟨Ao24, co24, eo24⟩ := Kd.R_slice HO301.out; subst eo24) | ((with_reducible refine gate_callee (f := 12) rfl ?_); refine goesL_ (some 5) rfl rfl Tryd.func12 (by kernel_rfl) rfl #[.slice Ao24 y299.length co24] rfl (by (try simp only [List.map_toArray, List.map_cons, List.map_nil]); first | done | rfl | (simp only [List.length_drop, List.length_take]; rfl)) ?_; (with_reducible refine (name_Join.calls (hlaidS := ?lwS) _ _ y299 t302 t303 _ ?side1 ?side2 A1.out).mono ?_); (case lwS => exact LaidS.below HLS.out (by repeat (first | (with_reducible first | exact HB.out | exact Below.refl _ _ | apply below_alloc | apply pw_below_drewN | apply below_drew1) | exact HB.out))); (case side1 => repeat (first | exact (Kd.R_reads' HO301.out).2.2 | (with_reducible refine Kd.C_alloc ?_ _) | (with_reducible refine Kd.C_drewN ?_ _) | (with_reducible refine Kd.C_drew ?_))); (case side2 => exact (Kd.R_reads' HO301.out).2.1); rintro e w25 ⟨rfl, hb⟩; refine ⟨_, rfl, ?_⟩; have n0_ := Aside0.mk (Kd.R_below (by (with_reducible repeat (first | apply Kd.R_alloc | apply Kd.R_drewN | apply Kd.R_drew)); exact HO301.out) hb); have n1_ := Aside0.mk (below_step (by repeat (first | (with_reducible first | exact HB.out | apply below_alloc | apply pw_below_drewN | apply below_drew1) | exact HB.out)) hb); clear HO301; clear HB; have HO301 := n0_; have HB := n1_; clear n0_ n1_; (try clear hb); (try clear hb2); (try clear hk); (try clear hi)))
    go_ret
    exact ⟨by first | rfl | (simp [errW_none, errW_some] <;> rfl) | (simp [*, errW_none, errW_some] <;> rfl), by repeat (first | (with_reducible first | exact HB.out | apply below_alloc | apply pw_below_drewN | apply below_drew1) | exact HB.out)⟩

end Go.Proofs.YtcaojgdnhmgmlaaDoor.Q
end

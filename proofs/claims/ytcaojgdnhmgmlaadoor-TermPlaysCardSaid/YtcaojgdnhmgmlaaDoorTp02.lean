/- term: are ids there. · term: what a table tells of an id. · term: assertions on a term's value. · term: Kind, Parts, Label. -/
import Derived.Test.YtcaojgdnhmgmlaaDoorTp01
set_option linter.unusedVariables false
set_option linter.unusedSimpArgs false
section
namespace Go.Proofs.YtcaojgdnhmgmlaaDoor.T
open Go.RowKit Go.Proofs.YtcaojgdnhmgmlaaDoor.Q Go.Proofs.YtcaojgdnhmgmlaaDoor.PTermPlays Go.Proofs.YtcaojgdnhmgmlaaDoorW.PrintWords Go.Proofs.YtcaojgdnhmgmlaaDoorW.PrintLast Go.Proofs.YtcaojgdnhmgmlaaDoorW.PrintMore
set_option linter.unusedVariables false

/-- Where the first id stands that is not there; -1: nowhere. -/
def badI (n : Nat) : List Int → Nat → Int
  | [], _ => -1
  | p :: t, i => if thereB n p = true then badI n t (i + 1) else i
theorem badI_all (n : Nat) : ∀ (l : List Int) (i : Nat), (badI n l i = -1 ∧ l.all (thereB n) = true) ∨ (0 ≤ badI n l i ∧ l.all (thereB n) = false)
  | [], i => .inl ⟨rfl, rfl⟩
  | p :: t, i => by
    unfold badI
    cases h : thereB n p
    · exact .inr ⟨by simp, by simp [h]⟩
    · simp only [if_pos, List.all_cons, h, Bool.true_and]
      exact badI_all n t (i + 1)
theorem badI_step (n : Nat) (l : List Int) (k : Nat) (h : k < l.length) : badI n (l.drop k) k = if thereB n (rdOf 0 l (k : Int)) = true then badI n (l.drop (k + 1)) (k + 1) else (k : Int) := by
  rw [show rdOf 0 l (k : Int) = l[k] by simp [rdOf, List.getD, h], List.drop_eq_getElem_cons h]
  rfl
theorem alloc_cell (w : World) (v : Value) (e : TypeId) : (w.alloc (.cells #[v] e)).cell? ⟨w.heap.size, 0, none⟩ = some v := by
  have h := heap_alloc_new w (.cells #[v] e)
  unfold World.cell?
  rw [h]
  rfl
theorem below_cell {w w' : World} (hb : Below w.heap.size w w') {p : Addr} {v : Value} (h : w.cell? p = some v) : w'.cell? p = some v := by
  refine (hb.cell (p := p) ?_).trans h
  rcases Nat.lt_or_ge p.block w.heap.size with h' | h'
  · exact h'
  · simp [World.cell?, Array.getElem?_eq_none h'] at h
set_option maxRecDepth 100000 in
set_option maxHeartbeats 1000000 in
theorem indexI_calls (A0 : Option Addr) (c0 : Nat) (l : List Int) (w : World) (bx tb : Nat) (At : Option Addr) (n ct : Nat) (hb : w.cell? ⟨bx, 0, none⟩ = some (.pointer (some ⟨tb, 0, none⟩))) (ht : w.cell? ⟨tb, 0, none⟩ = some (.slice At n ct))
    (hr0 : Kd.C (Kd.int .i64) w A0 l.length l) (hl : l.length < 1000000) :
    Calls Tryd.prog 134 #[.slice A0 l.length c0, .func (.func 125) #[] #[.pointer (some ⟨bx, 0, none⟩)]] w fun e w' => e = .returned (.int .i64 (badI n l 0)) ∧ w = w' := by
  have HR0 := Aside0.mk hr0
  have HL := Aside0.mk hl
  have HB := Aside0.mk hb
  have HT := Aside0.mk ht
  obtain ⟨r, hr⟩ : ∃ r, badI n l 0 = r := ⟨_, rfl⟩
  have HR := Aside0.mk hr
  rw [hr]
  clear hr0 hl hr hb ht
  go_enter Tryd.func134, Tryd.ntmps134
  go_wp2_with fail
  go_loopg [8] l.length (fun kq v wr => ∃ k : Nat, v = .int .i64 (k : Int) ∧ Aside0 (k + kq = l.length) ∧ Aside0 (badI n (l.drop k) k = r) ∧ Aside0 (w = wr))
  case atStart => exact ⟨0, rfl, ⟨by omega⟩, ⟨by simpa using HR.out⟩, ⟨rfl⟩⟩
  case round =>
    clear HR
    obtain ⟨k, rfl, HK, HC, HW⟩ := hrel
    obtain rfl := HW.out
    clear HW
    have hwk : wrap64 ((k : Int) + 1) = ((k + 1 : Nat) : Int) := by have := HL.out; have := HK.out; unfold wrap64; omega
    by_cases hlt : k < l.length
    · have e1 : decide ((k : Int) < l.length) = true := decide_eq_true (by omega)
      have p0 : (0 : Int) ≤ k := by omega
      have p1 : (k : Int) < l.length := by omega
      obtain ⟨ad, ea, hx⟩ := Kd.at_int HR0.out (k : Int) p0 p1
      cases ea
      rw [Int.toNat_natCast] at hx
      have hst := badI_step n l k hlt
      rw [HC.out] at hst
      have HNP := Aside0.mk (there1_calls w bx tb (rdOf 0 l (k : Int)) At n ct HB.out HT.out)
      obtain ⟨kq', rfl⟩ : ∃ m, gk = m + 1 := ⟨gk - 1, by have := HK.out; omega⟩
      cases hq : thereB n (rdOf 0 l (k : Int))
      · rw [hq, if_neg (by decide)] at hst
        rw [hq] at HNP
        have HST := Aside0.mk hst
        clear hst hq
        go_wp2_with fail
        refine HNP.out.mono ?_
        rintro e w1 ⟨rfl, rfl⟩
        go_wp2_with fail
        go_ret
        exact ⟨by rw [HST.out]; rfl, rfl⟩
      · rw [hq, if_pos rfl] at hst
        rw [hq] at HNP
        have HST := Aside0.mk hst
        clear hst hq
        go_wp2_with fail
        refine HNP.out.mono ?_
        rintro e w1 ⟨rfl, rfl⟩
        go_wp2_with fail
        go_roundg kq'
        case measure => omega
        case rel => exact ⟨k + 1, by rw [hwk], ⟨by have := HK.out; omega⟩, ⟨HST.out.symm⟩, ⟨rfl⟩⟩
    · have e1 : decide ((k : Int) < l.length) = false := decide_eq_false (by omega)
      have hd : r = -1 := by
        have := HC.out
        rw [List.drop_of_length_le (by omega)] at this
        exact this.symm
      have HD := Aside0.mk hd
      clear hd
      go_wp2_with fail
      go_ret
      exact ⟨by rw [HD.out]; rfl, rfl⟩
set_option maxHeartbeats 1000000 in
theorem containsI_calls (A0 : Option Addr) (c0 : Nat) (l : List Int) (w : World) (bx tb : Nat) (At : Option Addr) (n ct : Nat) (hb : w.cell? ⟨bx, 0, none⟩ = some (.pointer (some ⟨tb, 0, none⟩))) (ht : w.cell? ⟨tb, 0, none⟩ = some (.slice At n ct))
    (hr0 : Kd.C (Kd.int .i64) w A0 l.length l) (hl : l.length < 1000000) :
    Calls Tryd.prog 124 #[.slice A0 l.length c0, .func (.func 125) #[] #[.pointer (some ⟨bx, 0, none⟩)]] w fun e w' => e = .returned (.bool (!l.all (thereB n))) ∧ w = w' := by
  have HI := Aside0.mk (indexI_calls A0 c0 l w bx tb At n ct hb ht hr0 hl)
  have hb := badI_all n l 0
  generalize badI n l 0 = r at HI hb
  clear hr0 hl ht
  rcases hb with ⟨hr, ha⟩ | ⟨hr, ha⟩
  · rw [ha]
    subst hr
    clear ha
    go_enter Tryd.func124, Tryd.ntmps124
    go_wp2_with fail
    refine HI.out.mono ?_
    rintro e w1 ⟨rfl, rfl⟩
    go_wp2_with fail
    go_ret
    exact ⟨rfl, rfl⟩
  · rw [ha]
    have e1 : decide (0 ≤ r) = true := decide_eq_true hr
    clear ha hr
    go_enter Tryd.func124, Tryd.ntmps124
    go_wp2_with fail
    refine HI.out.mono ?_
    rintro e w1 ⟨rfl, rfl⟩
    go_wp2_with fail
    go_ret
    exact ⟨rfl, rfl⟩
set_option maxHeartbeats 1000000 in
theorem there_calls (A0 : Option Addr) (c0 : Nat) (l : List Int) (w : World) (tb : Nat) (At : Option Addr) (n ct : Nat) (ht : w.cell? ⟨tb, 0, none⟩ = some (.slice At n ct))
    (hr0 : Kd.C (Kd.int .i64) w A0 l.length l) (hl : l.length < 1000000) :
    Calls Tryd.prog 112 #[.pointer (some ⟨tb, 0, none⟩), .slice A0 l.length c0] w fun e w' => e = .returned (.bool (l.all (thereB n))) ∧ Below w.heap.size w w' := by
  have hmf : ∀ (fn : Fn) (first cap : Array Value) (w : World), (Instr.makeFunc fn first cap).run Tryd.prog w = .ok (.func fn first cap) w := fun _ _ _ _ => rfl
  have HB := Aside0.mk ((Below.refl w.heap.size w).alloc (Nat.le_refl _) (.cells #[.pointer (some ⟨tb, 0, none⟩)] 61))
  have HI := Aside0.mk (containsI_calls A0 c0 l (w.alloc (.cells #[.pointer (some ⟨tb, 0, none⟩)] 61)) w.heap.size tb At n ct (alloc_cell w _ _) (below_cell HB.out ht) (Kd.C_below hr0 HB.out) hl)
  clear ht hr0 hl
  generalize l.all (thereB n) = b at HI
  go_enter Tryd.func112, Tryd.ntmps112
  go_wp2_with fail
  refine HI.out.mono ?_
  rintro e w1 ⟨rfl, rfl⟩
  cases b
  all_goals
    go_wp2_with fail
    go_ret
    exact ⟨rfl, HB.out⟩
end Go.Proofs.YtcaojgdnhmgmlaaDoor.T
end
section
namespace Go.Proofs.YtcaojgdnhmgmlaaDoor.T
open Go.RowKit Go.Proofs.YtcaojgdnhmgmlaaDoor.Q Go.Proofs.YtcaojgdnhmgmlaaDoor.PTermPlays Go.Proofs.YtcaojgdnhmgmlaaDoorW.PrintWords Go.Proofs.YtcaojgdnhmgmlaaDoorW.PrintLast Go.Proofs.YtcaojgdnhmgmlaaDoorW.PrintMore
set_option linter.unusedVariables false

theorem one_row (w : World) (id : Int) : Kd.C (Kd.int .i64) (w.alloc (.cells #[.int .i64 id] 3)) (some ⟨w.heap.size, 0, none⟩) ([id] : List Int).length [id] := by
  refine ⟨rfl, by simp, fun _ => ⟨⟨w.heap.size, 0, none⟩, rfl, fun j p hj => ?_⟩⟩
  rcases j with _ | j
  · cases hj
    refine ⟨[.int .i64 id], rfl, rfl, fun i u hu => ?_⟩
    rcases i with _ | i
    · cases hu
      exact alloc_cell w _ _
    · simp at hu
  · simp at hj
theorem there_one (w : World) (id : Int) (tb : Nat) (At : Option Addr) (n ct : Nat) (ht : w.cell? ⟨tb, 0, none⟩ = some (.slice At n ct)) :
    Calls Tryd.prog 112 #[.pointer (some ⟨tb, 0, none⟩), .slice (some ⟨w.heap.size, 0, none⟩) 1 1] (w.alloc (.cells #[.int .i64 id] 3)) fun e w' => e = .returned (.bool (thereB n id)) ∧ Below w.heap.size w w' := by
  have hb := (Below.refl w.heap.size w).alloc (Nat.le_refl _) (.cells #[.int .i64 id] 3)
  have h := there_calls (some ⟨w.heap.size, 0, none⟩) 1 [id] (w.alloc (.cells #[.int .i64 id] 3)) tb At n ct (below_cell hb ht) (one_row w id) (by simp)
  refine h.mono fun e w' ⟨h1, h2⟩ => ⟨by simpa using h1, below_step hb h2⟩
theorem thereB_no {n : Nat} {id : Int} (h : thereB n id = true) : 1 ≤ id ∧ id ≤ n := by
  unfold thereB at h
  simpa using h
theorem wr64' (x : Int) (h0 : -9223372036854775808 ≤ x) (h1 : x ≤ 9223372036854775807) : IntKind.i64.wrap x = x := by
  simp [IntKind.wrap, IntKind.bits, IntKind.signed]; omega
theorem len_calls (w : World) (tb : Nat) (At : Option Addr) (n ct : Nat) (ht : w.cell? ⟨tb, 0, none⟩ = some (.slice At n ct)) :
    Calls Tryd.prog 50 #[.pointer (some ⟨tb, 0, none⟩)] w fun e w' => e = .returned (.int .i64 n) ∧ w = w' := by
  go_enter Tryd.func50, Tryd.ntmps50
  go_wp2_with fail
  go_ret
  exact ⟨rfl, rfl⟩
set_option maxHeartbeats 1000000 in
theorem size_calls (w : World) (id : Int) (tb : Nat) (At Bt : Option Addr) (n ct cb : Nat) (ss : List Int) (hn : n < 1000000) (hss : ss.length = n) (ht : w.cell? ⟨tb, 0, none⟩ = some (.slice At n ct)) (hs : w.cell? ⟨tb, 1, none⟩ = some (.slice Bt n cb)) (hr : Kd.C (Kd.int .i64) w Bt ss.length ss) :
    Calls Tryd.prog 91 #[.pointer (some ⟨tb, 0, none⟩), .int .i64 id] w fun e w' => e = .returned (.int .i64 (if thereB n id = true then rdOf 0 ss (id - 1) else 0)) ∧ Below w.heap.size w w' := by
  have HT := Aside0.mk (there_one w id tb At n ct ht)
  cases hq : thereB n id
  · rw [hq] at HT
    rw [if_neg (by decide)]
    clear ht hs hr hq
    go_enter Tryd.func91, Tryd.ntmps91
    go_wp2_with fail
    refine HT.out.mono ?_
    rintro e w1 ⟨rfl, hb⟩
    have HB := Aside0.mk hb
    clear hb
    go_wp2_with fail
    go_ret
    exact ⟨rfl, HB.out⟩
  · rw [hq] at HT
    rw [if_pos rfl]
    obtain ⟨h1, h2⟩ := thereB_no hq
    obtain ⟨ji, hji⟩ : ∃ ji, id - 1 = ji := ⟨_, rfl⟩
    have hw : IntKind.i64.wrap (id - 1) = ji := by rw [← hji]; exact wr64' _ (by omega) (by omega)
    have hw2 : wrap64 (id - 1) = ji := by unfold wrap64; omega
    have p0 : (0 : Int) ≤ ji := by omega
    have p1 : ji < (n : Int) := by omega
    have q0 : decide (0 ≤ ji) = true := decide_eq_true p0
    have q1 : decide (ji < (n : Int)) = true := decide_eq_true p1
    obtain ⟨ad, ea, hx⟩ := Kd.at_int hr ji p0 (by omega)
    cases ea
    rw [hji]
    have HS := Aside0.mk hs
    have HX := Aside0.mk hx
    clear ht hs hr hq hx hji h1 h2 hss hn
    go_enter Tryd.func91, Tryd.ntmps91
    go_wp2_with fail
    refine HT.out.mono ?_
    rintro e w1 ⟨rfl, hb⟩
    have hs := below_cell hb HS.out
    have hx := below_cell hb HX.out
    have HB := Aside0.mk hb
    clear hb
    go_wp2_with fail
    go_ret
    exact ⟨rfl, HB.out⟩
end Go.Proofs.YtcaojgdnhmgmlaaDoor.T
end
section
namespace Go.Proofs.YtcaojgdnhmgmlaaDoor.T
open Go.RowKit
set_option linter.unusedVariables false
theorem as123_123 (v : Value) (xT : TypeId) (w : World) : (Instr.typeAssert (.iface 123 v) xT 123 true).run Tryd.prog w = .ok (.tuple #[v, .bool true]) w := by kernel_rfl
theorem as123_125 (v : Value) (xT : TypeId) (w : World) : (Instr.typeAssert (.iface 123 v) xT 125 true).run Tryd.prog w = .ok (.tuple #[.agg #[.string ⟨#[]⟩], .bool false]) w := by kernel_rfl
theorem as123_134 (v : Value) (xT : TypeId) (w : World) : (Instr.typeAssert (.iface 123 v) xT 134 true).run Tryd.prog w = .ok (.tuple #[.agg #[.int .i64 0, .string ⟨#[]⟩], .bool false]) w := by kernel_rfl
theorem as123_136 (v : Value) (xT : TypeId) (w : World) : (Instr.typeAssert (.iface 123 v) xT 136 true).run Tryd.prog w = .ok (.tuple #[.agg #[.int .i64 0, .int .i64 0], .bool false]) w := by kernel_rfl
theorem as123_131 (v : Value) (xT : TypeId) (w : World) : (Instr.typeAssert (.iface 123 v) xT 131 true).run Tryd.prog w = .ok (.tuple #[.agg #[.int .i64 0, .int .i64 0], .bool false]) w := by kernel_rfl
theorem as125_123 (v : Value) (xT : TypeId) (w : World) : (Instr.typeAssert (.iface 125 v) xT 123 true).run Tryd.prog w = .ok (.tuple #[.agg #[.int .i64 0], .bool false]) w := by kernel_rfl
theorem as125_125 (v : Value) (xT : TypeId) (w : World) : (Instr.typeAssert (.iface 125 v) xT 125 true).run Tryd.prog w = .ok (.tuple #[v, .bool true]) w := by kernel_rfl
theorem as125_134 (v : Value) (xT : TypeId) (w : World) : (Instr.typeAssert (.iface 125 v) xT 134 true).run Tryd.prog w = .ok (.tuple #[.agg #[.int .i64 0, .string ⟨#[]⟩], .bool false]) w := by kernel_rfl
theorem as125_136 (v : Value) (xT : TypeId) (w : World) : (Instr.typeAssert (.iface 125 v) xT 136 true).run Tryd.prog w = .ok (.tuple #[.agg #[.int .i64 0, .int .i64 0], .bool false]) w := by kernel_rfl
theorem as125_131 (v : Value) (xT : TypeId) (w : World) : (Instr.typeAssert (.iface 125 v) xT 131 true).run Tryd.prog w = .ok (.tuple #[.agg #[.int .i64 0, .int .i64 0], .bool false]) w := by kernel_rfl
theorem as134_123 (v : Value) (xT : TypeId) (w : World) : (Instr.typeAssert (.iface 134 v) xT 123 true).run Tryd.prog w = .ok (.tuple #[.agg #[.int .i64 0], .bool false]) w := by kernel_rfl
theorem as134_125 (v : Value) (xT : TypeId) (w : World) : (Instr.typeAssert (.iface 134 v) xT 125 true).run Tryd.prog w = .ok (.tuple #[.agg #[.string ⟨#[]⟩], .bool false]) w := by kernel_rfl
theorem as134_134 (v : Value) (xT : TypeId) (w : World) : (Instr.typeAssert (.iface 134 v) xT 134 true).run Tryd.prog w = .ok (.tuple #[v, .bool true]) w := by kernel_rfl
theorem as134_136 (v : Value) (xT : TypeId) (w : World) : (Instr.typeAssert (.iface 134 v) xT 136 true).run Tryd.prog w = .ok (.tuple #[.agg #[.int .i64 0, .int .i64 0], .bool false]) w := by kernel_rfl
theorem as134_131 (v : Value) (xT : TypeId) (w : World) : (Instr.typeAssert (.iface 134 v) xT 131 true).run Tryd.prog w = .ok (.tuple #[.agg #[.int .i64 0, .int .i64 0], .bool false]) w := by kernel_rfl
theorem as136_123 (v : Value) (xT : TypeId) (w : World) : (Instr.typeAssert (.iface 136 v) xT 123 true).run Tryd.prog w = .ok (.tuple #[.agg #[.int .i64 0], .bool false]) w := by kernel_rfl
theorem as136_125 (v : Value) (xT : TypeId) (w : World) : (Instr.typeAssert (.iface 136 v) xT 125 true).run Tryd.prog w = .ok (.tuple #[.agg #[.string ⟨#[]⟩], .bool false]) w := by kernel_rfl
theorem as136_134 (v : Value) (xT : TypeId) (w : World) : (Instr.typeAssert (.iface 136 v) xT 134 true).run Tryd.prog w = .ok (.tuple #[.agg #[.int .i64 0, .string ⟨#[]⟩], .bool false]) w := by kernel_rfl
theorem as136_136 (v : Value) (xT : TypeId) (w : World) : (Instr.typeAssert (.iface 136 v) xT 136 true).run Tryd.prog w = .ok (.tuple #[v, .bool true]) w := by kernel_rfl
theorem as136_131 (v : Value) (xT : TypeId) (w : World) : (Instr.typeAssert (.iface 136 v) xT 131 true).run Tryd.prog w = .ok (.tuple #[.agg #[.int .i64 0, .int .i64 0], .bool false]) w := by kernel_rfl
theorem as131_123 (v : Value) (xT : TypeId) (w : World) : (Instr.typeAssert (.iface 131 v) xT 123 true).run Tryd.prog w = .ok (.tuple #[.agg #[.int .i64 0], .bool false]) w := by kernel_rfl
theorem as131_125 (v : Value) (xT : TypeId) (w : World) : (Instr.typeAssert (.iface 131 v) xT 125 true).run Tryd.prog w = .ok (.tuple #[.agg #[.string ⟨#[]⟩], .bool false]) w := by kernel_rfl
theorem as131_134 (v : Value) (xT : TypeId) (w : World) : (Instr.typeAssert (.iface 131 v) xT 134 true).run Tryd.prog w = .ok (.tuple #[.agg #[.int .i64 0, .string ⟨#[]⟩], .bool false]) w := by kernel_rfl
theorem as131_136 (v : Value) (xT : TypeId) (w : World) : (Instr.typeAssert (.iface 131 v) xT 136 true).run Tryd.prog w = .ok (.tuple #[.agg #[.int .i64 0, .int .i64 0], .bool false]) w := by kernel_rfl
theorem as131_131 (v : Value) (xT : TypeId) (w : World) : (Instr.typeAssert (.iface 131 v) xT 131 true).run Tryd.prog w = .ok (.tuple #[v, .bool true]) w := by kernel_rfl
theorem at125 (v : Value) (xT : TypeId) (w : World) : (Instr.typeAssert (.iface 125 v) xT 125 false).run Tryd.prog w = .ok v w := by kernel_rfl
theorem at134 (v : Value) (xT : TypeId) (w : World) : (Instr.typeAssert (.iface 134 v) xT 134 false).run Tryd.prog w = .ok v w := by kernel_rfl
end Go.Proofs.YtcaojgdnhmgmlaaDoor.T
end
section
namespace Go.Proofs.YtcaojgdnhmgmlaaDoor.T
open Go.RowKit Go.Proofs.YtcaojgdnhmgmlaaDoor.Q Go.Proofs.YtcaojgdnhmgmlaaDoor.PTermPlays Go.Proofs.YtcaojgdnhmgmlaaDoorW.PrintWords Go.Proofs.YtcaojgdnhmgmlaaDoorW.PrintLast Go.Proofs.YtcaojgdnhmgmlaaDoorW.PrintMore
set_option linter.unusedVariables false
attribute [local go_sem] as123_123 as123_125 as123_134 as123_136 as123_131 as125_123 as125_125 as125_134 as125_136 as125_131 as134_123 as134_125 as134_134 as134_136 as134_131 as136_123 as136_125 as136_134 as136_136 as136_131 as131_123 as131_125 as131_134 as131_136 as131_131 at125 at134

theorem ba {w W : World} (h : Below w.heap.size w W) (o : Obj) : Below w.heap.size w (W.alloc o) := h.alloc h.size o
theorem at_node {w : World} {A : Option Addr} {n : Nat} {xs : List S104} (h : nodeK.C w A n xs) (i : Int) (h0 : 0 ≤ i) (h1 : i < n) : ∃ ad, A = some ad ∧ w.cell? (ad.add i.toNat) = some (nodeV (rdOf z104 xs i)) :=
  ReadsOf.at_ (Kd.reads_of_C (enc := nodeV) (d := z104) (h1 := nodeV_one) h) i h0 h1
theorem node1 {x : S104} (h : x.f0 = 1) : nodeV x = .iface 123 (.agg #[.int .i64 x.f4]) := by unfold nodeV; rw [if_pos h]
theorem node2 {x : S104} (h : x.f0 = 2) : nodeV x = .iface 125 (.agg #[.string x.f3]) := by unfold nodeV; rw [if_neg (by omega), if_pos h]
theorem node3 {x : S104} (h : x.f0 = 3) : nodeV x = .iface 134 (.agg #[.int .i64 x.f1, .string x.f3]) := by unfold nodeV; rw [if_neg (by omega), if_neg (by omega), if_pos h]
theorem node4 {x : S104} (h : x.f0 = 4) : nodeV x = .iface 136 (.agg #[.int .i64 x.f1, .int .i64 x.f2]) := by unfold nodeV; rw [if_neg (by omega), if_neg (by omega), if_neg (by omega), if_pos h]
theorem node5 {x : S104} (h : x.f0 = 5) : nodeV x = .iface 131 (.agg #[.int .i64 x.f1, .int .i64 x.f2]) := by unfold nodeV; rw [if_neg (by omega), if_neg (by omega), if_neg (by omega), if_neg (by omega)]
theorem kinds {x : S104} (h : 1 ≤ x.f0 ∧ x.f0 ≤ 5) : x.f0 = 1 ∨ x.f0 = 2 ∨ x.f0 = 3 ∨ x.f0 = 4 ∨ x.f0 = 5 := by omega
set_option maxRecDepth 100000 in
set_option maxHeartbeats 2000000 in
theorem kind_calls (w : World) (id : Int) (tb : Nat) (At : Option Addr) (n ct : Nat) (xs : List S104) (hn : n < 1000000) (hxs : xs.length = n) (hk : ∀ x ∈ xs, 1 ≤ x.f0 ∧ x.f0 ≤ 5) (ht : w.cell? ⟨tb, 0, none⟩ = some (.slice At n ct)) (hr : nodeK.C w At xs.length xs) :
    Calls Tryd.prog 84 #[.pointer (some ⟨tb, 0, none⟩), .int .i64 id] w fun e w' => e = .returned (.int .i64 (if thereB n id = true then (rdOf z104 xs (id - 1)).f0 else 0)) ∧ Below w.heap.size w w' := by
  have HT := Aside0.mk (there_one w id tb At n ct ht)
  cases hq : thereB n id
  · rw [hq] at HT
    rw [if_neg (by decide)]
    clear ht hr hq hk
    go_enter Tryd.func84, Tryd.ntmps84
    go_wp2_with fail
    refine HT.out.mono ?_
    rintro e w1 ⟨rfl, hb⟩
    have HB := Aside0.mk hb
    clear hb
    go_wp2_with fail
    go_ret
    exact ⟨rfl, HB.out⟩
  · rw [hq] at HT
    rw [if_pos rfl]
    obtain ⟨h1, h2⟩ := thereB_no hq
    obtain ⟨ji, hji⟩ : ∃ ji, id - 1 = ji := ⟨_, rfl⟩
    have hw : IntKind.i64.wrap (id - 1) = ji := by rw [← hji]; exact wr64' _ (by omega) (by omega)
    have hw2 : wrap64 (id - 1) = ji := by unfold wrap64; omega
    have p0 : (0 : Int) ≤ ji := by omega
    have p1 : ji < (n : Int) := by omega
    have q0 : decide (0 ≤ ji) = true := decide_eq_true p0
    have q1 : decide (ji < (n : Int)) = true := decide_eq_true p1
    obtain ⟨ad, ea, hx⟩ := at_node hr ji p0 (by omega)
    cases ea
    rw [hji]
    have hmem : rdOf z104 xs ji ∈ xs := by
      unfold rdOf
      rw [List.getD_eq_getElem?_getD, List.getElem?_eq_getElem (show ji.toNat < xs.length by omega)]
      exact List.getElem_mem _
    have hkk := kinds (hk _ hmem)
    generalize rdOf z104 xs ji = x at hx hkk ⊢
    have HS := Aside0.mk ht
    clear ht hr hq hji h1 h2 hxs hn hk hmem
    rcases hkk with h | h | h | h | h
    all_goals
      first | rw [node1 h] at hx | rw [node2 h] at hx | rw [node3 h] at hx | rw [node4 h] at hx | rw [node5 h] at hx
      rw [h]
      have HX := Aside0.mk hx
      clear hx h
      go_enter Tryd.func84, Tryd.ntmps84
      go_wp2_with fail
      refine HT.out.mono ?_
      rintro e w1 ⟨rfl, hb⟩
      have hs := below_cell hb HS.out
      have hx := below_cell hb HX.out
      have HB := Aside0.mk hb
      clear hb
      go_wp2_with fail
      go_ret
      exact ⟨rfl, by first | exact HB.out | exact ba HB.out _ | exact ba (ba HB.out _) _ | exact ba (ba (ba HB.out _) _) _ | exact ba (ba (ba (ba HB.out _) _) _) _⟩
def partsOf (x : S104) : List Int := if x.f0 < 3 then [] else if x.f0 = 3 then [x.f1] else [x.f1, x.f2]
theorem row1 (w : World) (a : Int) : Kd.C (Kd.int .i64) (w.alloc (.cells #[.int .i64 a] 3)) (some ⟨w.heap.size, 0, none⟩) ([a] : List Int).length [a] := one_row w a
theorem row2 (w : World) (a b : Int) : Kd.C (Kd.int .i64) (w.alloc (.cells #[.int .i64 a, .int .i64 b] 3)) (some ⟨w.heap.size, 0, none⟩) ([a, b] : List Int).length [a, b] := by
  have hh := heap_alloc_new w (.cells #[.int .i64 a, .int .i64 b] 3)
  refine ⟨rfl, by simp, fun _ => ⟨⟨w.heap.size, 0, none⟩, rfl, fun j p hj => ?_⟩⟩
  rcases j with _ | _ | j
  · cases hj
    refine ⟨[.int .i64 a], rfl, rfl, fun i u hu => ?_⟩
    rcases i with _ | i
    · cases hu
      show (w.alloc _).cell? ⟨w.heap.size, 0, none⟩ = _
      unfold World.cell?; rw [hh]; rfl
    · simp at hu
  · cases hj
    refine ⟨[.int .i64 b], rfl, rfl, fun i u hu => ?_⟩
    rcases i with _ | i
    · cases hu
      show (w.alloc _).cell? ⟨w.heap.size, 1, none⟩ = _
      unfold World.cell?; rw [hh]; rfl
    · simp at hu
  · simp at hj
theorem row1' (w : World) (o : Obj) (a : Int) : Kd.C (Kd.int .i64) ((w.alloc o).alloc (.cells #[.int .i64 a] 3)) (some ⟨w.heap.size + 1, 0, none⟩) 1 [a] := by
  have h := row1 (w.alloc o) a
  rw [World.size_alloc] at h
  exact h
theorem row2' (w : World) (o : Obj) (a b : Int) : Kd.C (Kd.int .i64) ((w.alloc o).alloc (.cells #[.int .i64 a, .int .i64 b] 3)) (some ⟨w.heap.size + 1, 0, none⟩) 2 [a, b] := by
  have h := row2 (w.alloc o) a b
  rw [World.size_alloc] at h
  exact h
theorem row0 (w : World) : Kd.C (Kd.int .i64) w none ([] : List Int).length [] := ⟨rfl, by simp, fun h => absurd h (by simp)⟩
set_option maxRecDepth 100000 in
set_option maxHeartbeats 2000000 in
theorem parts_calls (w : World) (id : Int) (tb : Nat) (At : Option Addr) (n ct : Nat) (xs : List S104) (hn : n < 1000000) (hxs : xs.length = n) (hk : ∀ x ∈ xs, 1 ≤ x.f0 ∧ x.f0 ≤ 5) (ht : w.cell? ⟨tb, 0, none⟩ = some (.slice At n ct)) (hr : nodeK.C w At xs.length xs) :
    Calls Tryd.prog 87 #[.pointer (some ⟨tb, 0, none⟩), .int .i64 id] w fun e w' => ∃ A c, e = .returned (.slice A (if thereB n id = true then partsOf (rdOf z104 xs (id - 1)) else []).length c) ∧ (if thereB n id = true then partsOf (rdOf z104 xs (id - 1)) else []).length ≤ c ∧
      Kd.C (Kd.int .i64) w' A (if thereB n id = true then partsOf (rdOf z104 xs (id - 1)) else []).length (if thereB n id = true then partsOf (rdOf z104 xs (id - 1)) else []) ∧ Below w.heap.size w w' := by
  have HT := Aside0.mk (there_one w id tb At n ct ht)
  cases hq : thereB n id
  · rw [hq] at HT
    rw [if_neg (by decide)]
    clear ht hr hq hk
    go_enter Tryd.func87, Tryd.ntmps87
    go_wp2_with fail
    refine HT.out.mono ?_
    rintro e w1 ⟨rfl, hb⟩
    have HB := Aside0.mk hb
    clear hb
    go_wp2_with fail
    go_ret
    exact ⟨none, 0, rfl, Nat.le_refl _, row0 _, HB.out⟩
  · rw [hq] at HT
    rw [if_pos rfl]
    obtain ⟨h1, h2⟩ := thereB_no hq
    obtain ⟨ji, hji⟩ : ∃ ji, id - 1 = ji := ⟨_, rfl⟩
    have hw : IntKind.i64.wrap (id - 1) = ji := by rw [← hji]; exact wr64' _ (by omega) (by omega)
    have hw2 : wrap64 (id - 1) = ji := by unfold wrap64; omega
    have p0 : (0 : Int) ≤ ji := by omega
    have p1 : ji < (n : Int) := by omega
    have q0 : decide (0 ≤ ji) = true := decide_eq_true p0
    have q1 : decide (ji < (n : Int)) = true := decide_eq_true p1
    obtain ⟨ad, ea, hx⟩ := at_node hr ji p0 (by omega)
    cases ea
    rw [hji]
    have hmem : rdOf z104 xs ji ∈ xs := by
      unfold rdOf
      rw [List.getD_eq_getElem?_getD, List.getElem?_eq_getElem (show ji.toNat < xs.length by omega)]
      exact List.getElem_mem _
    have hkk := kinds (hk _ hmem)
    generalize rdOf z104 xs ji = x at hx hkk ⊢
    have HS := Aside0.mk ht
    clear ht hr hq hji h1 h2 hxs hn hk hmem
    rcases hkk with h | h | h | h | h
    all_goals
      have hp : partsOf x = if x.f0 < 3 then [] else if x.f0 = 3 then [x.f1] else [x.f1, x.f2] := rfl
      rw [h] at hp
      simp at hp
      rw [hp]
      first | rw [node1 h] at hx | rw [node2 h] at hx | rw [node3 h] at hx | rw [node4 h] at hx | rw [node5 h] at hx
      have HX := Aside0.mk hx
      clear hx h hp
      go_enter Tryd.func87, Tryd.ntmps87
      go_wp2_with fail
      refine HT.out.mono ?_
      rintro e w1 ⟨rfl, hb⟩
      have hs := below_cell hb HS.out
      have hx := below_cell hb HX.out
      have HB := Aside0.mk hb
      clear hb
      go_wp2_with fail
      go_ret
      first
        | exact ⟨none, 0, rfl, Nat.le_refl _, row0 _, HB.out⟩
        | exact ⟨_, 1, rfl, Nat.le_refl _, row1' _ _ _, ba (ba HB.out _) _⟩
        | exact ⟨_, 2, rfl, Nat.le_refl _, row2' _ _ _ _, ba (ba HB.out _) _⟩
end Go.Proofs.YtcaojgdnhmgmlaaDoor.T
end

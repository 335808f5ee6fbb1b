/- term: Label. · A region that draws its order: what the loads read is held until one store (number st) comes up, and no longer: an operation for which that store waits may be taken first. (After the kit's OrdersHeld, whose condition is held to the region's end.) -/
import Derived.Test.YtcaojgdnhmgmlaaDoorTp02
import Derived.OrdersHeld
import Derived.Deep.RegionHeld3
set_option linter.unusedVariables false
set_option linter.unusedSimpArgs false
section
namespace Go.Proofs.YtcaojgdnhmgmlaaDoor.T
open Go.RowKit Go.Proofs.YtcaojgdnhmgmlaaDoor.Q Go.Proofs.YtcaojgdnhmgmlaaDoor.PTermPlays Go.Proofs.YtcaojgdnhmgmlaaDoorW.PrintWords Go.Proofs.YtcaojgdnhmgmlaaDoorW.PrintLast Go.Proofs.YtcaojgdnhmgmlaaDoorW.PrintMore
set_option linter.unusedVariables false
attribute [local go_sem] as123_123 as123_125 as123_134 as123_136 as123_131 as125_123 as125_125 as125_134 as125_136 as125_131 as134_123 as134_125 as134_134 as134_136 as134_131 as136_123 as136_125 as136_134 as136_136 as136_131 as131_123 as131_125 as131_134 as131_136 as131_131 at125 at134

theorem fd125 (s : ByteArray) (w : World) : (Instr.field 125 (.agg #[.string s]) 0).run Tryd.prog w = .ok (.string s) w := by kernel_rfl
theorem fd134 (a : Int) (s : ByteArray) (w : World) : (Instr.field 134 (.agg #[.int .i64 a, .string s]) 1).run Tryd.prog w = .ok (.string s) w := by kernel_rfl
attribute [local go_sem] fd125 fd134
def labelOf (x : S104) : ByteArray := if x.f0 = 2 ∨ x.f0 = 3 then x.f3 else ⟨#[]⟩
set_option maxRecDepth 100000 in
set_option maxHeartbeats 2000000 in
theorem label_calls (w : World) (id : Int) (tb : Nat) (At : Option Addr) (n ct : Nat) (xs : List S104) (hn : n < 1000000) (hxs : xs.length = n) (hk : ∀ x ∈ xs, 1 ≤ x.f0 ∧ x.f0 ≤ 5) (ht : w.cell? ⟨tb, 0, none⟩ = some (.slice At n ct)) (hr : nodeK.C w At xs.length xs) :
    Calls Tryd.prog 89 #[.pointer (some ⟨tb, 0, none⟩), .int .i64 id] w fun e w' => e = .returned (.string (if thereB n id = true then labelOf (rdOf z104 xs (id - 1)) else ⟨#[]⟩)) ∧ Below w.heap.size w w' := by
  have HT := Aside0.mk (kind_calls w id tb At n ct xs hn hxs hk ht hr)
  cases hq : thereB n id
  · rw [hq, if_neg (by decide)] at HT
    rw [if_neg (by decide)]
    clear ht hr hq hk
    go_enter Tryd.func89, Tryd.ntmps89
    go_wp2_with fail
    refine HT.out.mono ?_
    rintro e w1 ⟨rfl, hb⟩
    have HB := Aside0.mk hb
    clear hb
    go_wp2_with fail
    go_ret
    exact ⟨rfl, HB.out⟩
  · rw [hq, if_pos rfl] at HT
    rw [if_pos rfl]
    obtain ⟨h1, h2⟩ := thereB_no hq
    obtain ⟨ji, hji⟩ : ∃ ji, id - 1 = ji := ⟨_, rfl⟩
    have hw : IntKind.i64.wrap (id - 1) = ji := by rw [← hji]; exact wr64' _ (by omega) (by omega)
    have hw2 : wrap64 (id - 1) = ji := by unfold wrap64; omega
    have p0 : (0 : Int) ≤ ji := by omega
    have p1 : ji < (n : Int) := by omega
    have q0 : decide (0 ≤ ji) = true := decide_eq_true p0
    have q1 : decide (ji < (n : Int)) = true := decide_eq_true p1
    obtain ⟨ad, ea, hx⟩ := at_node hr ji p0 (by omega)
    cases ea
    rw [hji] at HT ⊢
    have hmem : rdOf z104 xs ji ∈ xs := by
      unfold rdOf
      rw [List.getD_eq_getElem?_getD, List.getElem?_eq_getElem (show ji.toNat < xs.length by omega)]
      exact List.getElem_mem _
    have hkk := kinds (hk _ hmem)
    generalize rdOf z104 xs ji = x at HT hx hkk ⊢
    have HS := Aside0.mk ht
    clear ht hr hq hji h1 h2 hxs hn hk hmem
    rcases hkk with h | h | h | h | h
    all_goals
      have hp : labelOf x = if x.f0 = 2 ∨ x.f0 = 3 then x.f3 else ⟨#[]⟩ := rfl
      rw [h] at hp HT
      simp at hp
      rw [hp]
      first | rw [node1 h] at hx | rw [node2 h] at hx | rw [node3 h] at hx | rw [node4 h] at hx | rw [node5 h] at hx
      have HX := Aside0.mk hx
      clear hx h hp
      go_enter Tryd.func89, Tryd.ntmps89
      go_wp2_with fail
      refine HT.out.mono ?_
      rintro e w1 ⟨rfl, hb⟩
      have hs := below_cell hb HS.out
      have hx := below_cell hb HX.out
      have HB := Aside0.mk hb
      clear hb
      go_wp2_with fail
      go_ret
      exact ⟨rfl, by first | exact HB.out | exact ba HB.out _ | exact ba (ba HB.out _) _⟩
end Go.Proofs.YtcaojgdnhmgmlaaDoor.T
end
section
namespace Go.Proofs.YtcaojgdnhmgmlaaDoor.T
open Go
set_option linter.unusedVariables false
section
variable {P : Program} {ops : Array Oper} {Q : Exit → Act → World → Prop} {md : Region.Mode} {S : World → Prop} {st : Nat}

def wpAnyL (P : Program) (md : Region.Mode) (ops : Array Oper) (Q : Exit → Act → World → Prop) (S : World → Prop) (st : Nat) : Nat → Array Bool → Act → World → Prop
  | 0, listed, a, w => Region.ready md ops listed = [] ∧ Q .normal a w
  | fuel + 1, listed, a, w =>
    (Region.ready md ops listed = [] → Q .normal a w) ∧
    ∀ i ∈ Region.ready md ops listed, wpOp P ops Q i (fun a' w' => (i ≠ st → listed.getD st true = false → S w') ∧ wpAnyL P md ops Q S st fuel (listed.setIfInBounds i true) a' w') a w
theorem wpAny_of_L : ∀ (fuel : Nat) (listed : Array Bool) (a : Act) (w : World), wpAnyL P md ops Q S st fuel listed a w → wpAny P md ops Q fuel listed a w
  | 0, _, _, _, h => h
  | fuel + 1, _, _, _, h => ⟨h.1, fun i hi => wpOp_mono (fun a' w' h' => wpAny_of_L fuel _ a' w' h'.2) (h.2 i hi)⟩
theorem wpAnyL_first {i : Nat} {oi : Oper} {v : Value} (hi : ops[i]? = some oi) (hsel : ∀ (j : Nat) (o : Oper) cs b, ops[j]? = some o → o.op ≠ .select cs b)
    (hQ : ∀ c a w, Q (.panic c) (a.put oi.dst v) w → Q (.panic c) a w)
    (hst : ∃ o, ops[st]? = some o ∧ ∃ e ∈ o.after, Region.binds md e = true ∧ e.on = i) (hne : i ≠ st) :
    ∀ (fuel : Nat) (listed : Array Bool) (a : Act) (w : World), listed.getD st true = false →
      (∀ j oj, ops[j]? = some oj → j ≠ i → listed.getD j true = false → (∀ e ∈ oj.after, Region.binds md e = true → e.on ≠ i) → oi.apart ops oj = true) →
      i ∈ Region.ready md ops listed → YieldsIf P ops S oi v a → S w →
      wpAnyL P md ops Q S st fuel (listed.setIfInBounds i true) (a.put oi.dst v) w → wpAnyL P md ops Q S st (fuel + 1) listed a w := by
  intro fuel
  induction fuel with
  | zero =>
    intro listed a w hls _ hr hy hS H
    refine ⟨fun h => (by rw [h] at hr; cases hr), fun j hj => ?_⟩
    by_cases hji : j = i
    · subst hji; exact hy.wpOp hi hS ⟨fun _ _ => hS, H⟩
    · have := ready_mono hj hji
      rw [H.1] at this
      cases this
  | succ fuel ih =>
    intro listed a w hls hfree hr hy hS H
    refine ⟨fun h => (by rw [h] at hr; cases hr), fun j hj => ?_⟩
    by_cases hji : j = i
    · subst hji; exact hy.wpOp hi hS ⟨fun _ _ => hS, H⟩
    · have h1 := H.2 j (ready_mono hj hji)
      obtain ⟨hjun, oj, hoj, hall⟩ := mem_ready.1 hj
      have hnot : ∀ e ∈ oj.after, Region.binds md e = true → e.on ≠ i := fun e he hb heq => by
        have h1 := hall e he hb
        have h0 := (mem_ready.1 hr).1
        rw [heq] at h1
        rcases Nat.lt_or_ge i listed.size with h' | h'
        · simp [h'] at h0 h1; rw [h0] at h1; cases h1
        · simp [Array.getElem?_eq_none h'] at h1
      have hjs : j ≠ st := fun e => by
        obtain ⟨o, ho, e1, he1, hb1, hon⟩ := hst
        rw [e, ho] at hoj
        obtain rfl := Option.some.inj hoj
        exact hnot e1 he1 hb1 hon
      have hls2 : (listed.setIfInBounds i true).getD st true = false := by rw [getD_set_ne true hne]; exact hls
      have hls3 : (listed.setIfInBounds j true).getD st true = false := by rw [getD_set_ne true hjs]; exact hls
      have h2 := wpOp_putIf hoj (hfree j oj hoj hji hjun hnot) (fun cs b => hsel i oi cs b hi) (fun cs b => hsel j oj cs b hoj) hQ hy h1
      have hfree' : ∀ k ok, ops[k]? = some ok → k ≠ i → (listed.setIfInBounds j true).getD k true = false →
          (∀ e ∈ ok.after, Region.binds md e = true → e.on ≠ i) → oi.apart ops ok = true := fun k ok hk hki hun hno => by
        refine hfree k ok hk hki ?_ hno
        by_cases hjk : j = k
        · subst hjk; exact hjun
        · rw [getD_set_ne true hjk] at hun; exact hun
      refine wpOp_mono (fun a' w' h3 => ⟨fun _ _ => h3.2.1 hjs hls2, ih (listed.setIfInBounds j true) a' w' hls3 hfree' (ready_mono hr (Ne.symm hji)) h3.1 (h3.2.1 hjs hls2) ?_⟩) h2
      rw [Array.setIfInBounds_comm _ _ hji]
      exact h3.2.2
/-- Does the store wait for number i? -/
def waits (md : Region.Mode) (ops : Array Oper) (st i : Nat) : Bool := match ops[st]? with
  | some o => o.after.any fun e => Region.binds md e && e.on == i
  | none => false
theorem waits_spec {i : Nat} (h : waits md ops st i = true) : ∃ o, ops[st]? = some o ∧ ∃ e ∈ o.after, Region.binds md e = true ∧ e.on = i := by
  unfold waits at h
  split at h
  · rename_i o ho
    obtain ⟨e, he, h2⟩ := Array.any_eq_true'.1 h
    rw [Bool.and_eq_true, beq_iff_eq] at h2
    exact ⟨o, ho, e, he, h2⟩
  · cases h
theorem wpAnyL_take {i : Nat} {oi : Oper} {v : Value} {fuel : Nat} {listed : Array Bool} {a : Act} {w : World} (hi : ops[i]? = some oi)
    (hs : Region.noSelect ops = true) (hf : Region.free md ops listed i = true) (hr : (Region.ready md ops listed).contains i = true) (hst : waits md ops st i = true) (hne : (i == st) = false) (hls : listed.getD st true = false)
    (hQ : ∀ c a w, Q (.panic c) (a.put oi.dst v) w → Q (.panic c) a w) (hy : YieldsIf P ops S oi v a) (hS : S w)
    (h : wpAnyL P md ops Q S st fuel (listed.setIfInBounds i true) (a.put oi.dst v) w) : wpAnyL P md ops Q S st (fuel + 1) listed a w :=
  wpAnyL_first hi (Region.noSelect_spec hs) hQ (waits_spec hst) (by simpa using hne) fuel listed a w hls (Region.free_spec hi hf) (by simpa using hr) hy hS h
theorem wpAnyL_all {rs : List Nat} {fuel : Nat} {listed : Array Bool} {a : Act} {w : World} (hr : Region.ready md ops listed = rs) (hne : rs ≠ [])
    (h : ∀ i ∈ rs, wpOp P ops Q i (fun a' w' => (i ≠ st → listed.getD st true = false → S w') ∧ wpAnyL P md ops Q S st fuel (listed.setIfInBounds i true) a' w') a w) : wpAnyL P md ops Q S st (fuel + 1) listed a w :=
  ⟨fun h0 => absurd (hr ▸ h0) hne, hr ▸ h⟩
theorem wpAnyL_done {listed : Array Bool} {a : Act} {w : World} (hr : Region.ready md ops listed = []) (h : Q .normal a w) :
    ∀ fuel, wpAnyL P md ops Q S st fuel listed a w
  | 0 => ⟨hr, h⟩
  | _ + 1 => ⟨fun _ => h, by rw [hr]; simp⟩
theorem wp_region_L {id : Nat} {a : Act} {w : World} (S : World → Prop) (st : Nat) (hm : P.follows .mixedOrders = true)
    (h : wpAnyL P .any ops Q S st ops.size (Array.replicate ops.size false) a { w with drawn := w.drawn + 1 }) : (Code.region id ops true).wp P Q a w :=
  wp_region_any hm (wpAny_of_L _ _ _ _ h)
/-- What yields in whatever world may be taken first, whether the store waits for it or not. -/
theorem wpAnyL_firstP {i : Nat} {oi : Oper} {v : Value} (hi : ops[i]? = some oi) (hsel : ∀ (j : Nat) (o : Oper) cs b, ops[j]? = some o → o.op ≠ .select cs b)
    (hQ : ∀ c a w, Q (.panic c) (a.put oi.dst v) w → Q (.panic c) a w) (hne : i ≠ st) :
    ∀ (fuel : Nat) (listed : Array Bool) (a : Act) (w : World),
      (∀ j oj, ops[j]? = some oj → j ≠ i → listed.getD j true = false → (∀ e ∈ oj.after, Region.binds md e = true → e.on ≠ i) → oi.apart ops oj = true) →
      i ∈ Region.ready md ops listed → YieldsIf P ops (fun _ => True) oi v a → (listed.getD st true = false → S w) →
      wpAnyL P md ops Q S st fuel (listed.setIfInBounds i true) (a.put oi.dst v) w → wpAnyL P md ops Q S st (fuel + 1) listed a w := by
  intro fuel
  induction fuel with
  | zero =>
    intro listed a w _ hr hy hS H
    refine ⟨fun h => (by rw [h] at hr; cases hr), fun j hj => ?_⟩
    by_cases hji : j = i
    · subst hji; exact hy.wpOp hi trivial ⟨fun _ => hS, H⟩
    · have := ready_mono hj hji
      rw [H.1] at this
      cases this
  | succ fuel ih =>
    intro listed a w hfree hr hy hS H
    refine ⟨fun h => (by rw [h] at hr; cases hr), fun j hj => ?_⟩
    by_cases hji : j = i
    · subst hji; exact hy.wpOp hi trivial ⟨fun _ => hS, H⟩
    · have h1 := H.2 j (ready_mono hj hji)
      obtain ⟨hjun, oj, hoj, hall⟩ := mem_ready.1 hj
      have hnot : ∀ e ∈ oj.after, Region.binds md e = true → e.on ≠ i := fun e he hb heq => by
        have h1 := hall e he hb
        have h0 := (mem_ready.1 hr).1
        rw [heq] at h1
        rcases Nat.lt_or_ge i listed.size with h' | h'
        · simp [h'] at h0 h1; rw [h0] at h1; cases h1
        · simp [Array.getElem?_eq_none h'] at h1
      have h2 := wpOp_putIf hoj (hfree j oj hoj hji hjun hnot) (fun cs b => hsel i oi cs b hi) (fun cs b => hsel j oj cs b hoj) hQ hy h1
      have hfree' : ∀ k ok, ops[k]? = some ok → k ≠ i → (listed.setIfInBounds j true).getD k true = false →
          (∀ e ∈ ok.after, Region.binds md e = true → e.on ≠ i) → oi.apart ops ok = true := fun k ok hk hki hun hno => by
        refine hfree k ok hk hki ?_ hno
        by_cases hjk : j = k
        · subst hjk; exact hjun
        · rw [getD_set_ne true hjk] at hun; exact hun
      have hS2 : ∀ w', (j ≠ st → (listed.setIfInBounds i true).getD st true = false → S w') → (listed.setIfInBounds j true).getD st true = false → S w' := fun w' h hl => by
        by_cases hjs : j = st
        · subst hjs
          rw [Array.getD_eq_getD_getElem?, Array.getElem?_setIfInBounds, if_pos rfl] at hl
          split at hl <;> cases hl
        · rw [getD_set_ne true hjs] at hl
          exact h hjs (by rw [getD_set_ne true hne]; exact hl)
      refine wpOp_mono (fun a' w' h3 => ⟨fun hjs hl => h3.2.1 hjs (by rw [getD_set_ne true hne]; exact hl), ih (listed.setIfInBounds j true) a' w' hfree' (ready_mono hr (Ne.symm hji)) h3.1 (hS2 w' h3.2.1) ?_⟩) h2
      rw [Array.setIfInBounds_comm _ _ hji]
      exact h3.2.2
theorem wpAnyL_pure {i : Nat} {oi : Oper} {v : Value} {fuel : Nat} {listed : Array Bool} {a : Act} {w : World} (hi : ops[i]? = some oi)
    (hs : Region.noSelect ops = true) (hf : Region.free md ops listed i = true) (hr : (Region.ready md ops listed).contains i = true) (hne : (i == st) = false)
    (hQ : ∀ c a w, Q (.panic c) (a.put oi.dst v) w → Q (.panic c) a w) (hy : YieldsIf P ops (fun _ => True) oi v a) (hS : listed.getD st true = false → S w)
    (h : wpAnyL P md ops Q S st fuel (listed.setIfInBounds i true) (a.put oi.dst v) w) : wpAnyL P md ops Q S st (fuel + 1) listed a w :=
  wpAnyL_firstP hi (Region.noSelect_spec hs) hQ (by simpa using hne) fuel listed a w (Region.free_spec hi hf) (by simpa using hr) hy hS h
def AllReadyL (P : Program) (md : Region.Mode) (ops : Array Oper) (Q : Exit → Act → World → Prop) (S : World → Prop) (st : Nat) (fuel : Nat) (listed : Array Bool) (a : Act) (w : World) (rs : List Nat) : Prop :=
  ∀ i ∈ rs, wpOp P ops Q i (fun a' w' => (i ≠ st → listed.getD st true = false → S w') ∧ wpAnyL P md ops Q S st fuel (listed.setIfInBounds i true) a' w') a w
theorem AllReadyL.nil {fuel : Nat} {listed : Array Bool} {a : Act} {w : World} : AllReadyL P md ops Q S st fuel listed a w [] := fun _ h => by cases h
theorem AllReadyL.cons {fuel : Nat} {listed : Array Bool} {a : Act} {w : World} {i : Nat} {o : Oper} {rs : List Nat} (ho : ops[i]? = some o)
    (h : ∀ K' : Act → World → Prop, Shut (∀ a w, (i ≠ st → listed.getD st true = false → S w) → wpAnyL P md ops Q S st fuel (listed.setIfInBounds i true) a w → K' a w) → if Region.wanted o (yielded ops a.tmps) = true then Oper.wp P o a w K' Q else K' (a.put o.dst undef) w)
    (hs : AllReadyL P md ops Q S st fuel listed a w rs) : AllReadyL P md ops Q S st fuel listed a w (i :: rs) := fun j hj => by
  rcases List.mem_cons.1 hj with rfl | hj
  · exact wpOp_step ho (fun K' hK => h K' (fun a w hS hW => hK a w ⟨hS, hW⟩))
  · exact hs j hj
theorem wpAnyL_ready {rs : List Nat} {fuel : Nat} {listed : Array Bool} {a : Act} {w : World} (hr : Region.ready md ops listed = rs) (hne : rs ≠ [])
    (h : AllReadyL P md ops Q S st fuel listed a w rs) : wpAnyL P md ops Q S st (fuel + 1) listed a w := wpAnyL_all hr hne h
/-- Behind the store nothing is held: it goes on as any drawn region. -/
theorem wpAnyL_any : ∀ (fuel : Nat) (listed : Array Bool) (a : Act) (w : World), listed.getD st true = true → (∀ i, (listed.setIfInBounds i true).getD st true = true) → wpAny P md ops Q fuel listed a w → wpAnyL P md ops Q S st fuel listed a w
  | 0, _, _, _, _, _, h => h
  | fuel + 1, listed, a, w, h1, h2, h => ⟨h.1, fun i hi => wpOp_mono (fun a' w' h' => ⟨fun _ h3 => (by rw [h1] at h3; cases h3), wpAnyL_any fuel _ a' w' (h2 i) (fun j => by
      by_cases hjs : j = st
      · subst hjs
        rw [Array.getD_eq_getD_getElem?, Array.getElem?_setIfInBounds, if_pos rfl]
        split <;> rfl
      · rw [getD_set_ne true hjs]; exact h2 i) h'⟩) (h.2 i hi)⟩
end
end Go.Proofs.YtcaojgdnhmgmlaaDoor.T
end

/- TermPlays: for every input the law returns true, and each argument reads afterwards as it did; where the library's tables hold what their initialisers lay (the card ties that to the program's text). -/
import Derived.Test.YtcaojgdnhmgmlaaDoorRows
import Derived.Test.YtcaojgdnhmgmlaaDoorCards
import Derived.Test.YtcaojgdnhmgmlaaDoorTie
import Derived.Test.YtcaojgdnhmgmlaaDoorTp01
import Derived.Test.YtcaojgdnhmgmlaaDoorTp11
import Derived.SevenTiedAt
import Derived.WalkKit
import Derived.ProofKit
import Derived.OpenShut
import Derived.ShutString
import Derived.ChangeOld
import Derived.Below
import Derived.SizedLaws
set_option linter.unusedVariables false
set_option linter.unusedSimpArgs false
namespace Go.Proofs.YtcaojgdnhmgmlaaDoor.termPlays
open Go.ChangeShapes Go.WideShapes Go.ChangeAt Go.RowKit
open Go.Proofs.YtcaojgdnhmgmlaaDoorW.PrintWords
set_option linter.unusedVariables false
theorem laidOut : laidOutB Tryd.prog = true := by kernel_rfl
theorem own : ownKnob Tryd.prog.godebug = none := by kernel_rfl
theorem met (os : Os) (args : Array Value) : laidMetH Tryd.prog Rows.termPlaysRow.laid ((worldN os).forCall (fun _ _ => 0) ⟨#[], args, []⟩).memory := met_N os args
theorem laid {W : World} (h : laidMetH Tryd.prog Rows.termPlaysRow.laid W) : Q.LaidN W := laidN_of h
set_option maxRecDepth 100000 in
theorem lifted (os : Os) (started : os.Started) (H : Type) (enc : TypeId × Value → H) :
    ReturnsInHanded {} Tryd.checked os 10 .any (fun w args => (Rows.termPlaysSpec.pre enc Tryd.prog Tryd.f10 Rows.termPlaysRow.domain false w args ∧ laidMetH Tryd.prog Rows.termPlaysRow.laid w) ∧ sizedMet enc Tryd.prog Tryd.f10 (OpenSpec.ofChange Rows.termPlaysSpec) false w args) (Rows.termPlaysSpec.post enc Tryd.prog Tryd.f10 false true false false) := by
  refine returnsInHanded_of_change_and (C := Tryd.checked) (X := fun w _ => laidMetH Tryd.prog Rows.termPlaysRow.laid w) (fun _ _ _ hh h => h.of_heap hh) own started (by kernel_rfl) Tryd.func10
    (ChangeSpec.witness_at (enc := enc) (C := Tryd.checked) (os := os) (X := fun w _ => laidMetH Tryd.prog Rows.termPlaysRow.laid w) false (worldN os) #[.slice none 0 0] 8 rfl (by kernel_rfl) (by kernel_rfl) (by kernel_rfl) (by kernel_rfl) (by kernel_rfl) (met os _)) ?_
  intro W base args ds gs before hval0 hW hcnd hsz0 hL _
  have hval : ∀ (j : Nat) t v, Tryd.f10.params[j]? = some t → args[j]? = some v → Value.okWide Tryd.prog W .any base t v := hval0
  have hW' := hW
  obtain ⟨p, q, hA0, hV, rfl, hfz, hnd⟩ := hW
  have hA : DataW.TrodAll enc Tryd.prog W 0 (fun _ => true) true Tryd.f10.params.toList args.toList ds p := hA0
  rw [Tryd.params10] at hA hval
  obtain ⟨v0, vs0, d0, ds0, p0, q0, hargs, rfl, rfl, h0, r0⟩ := trodAll_cons hA
  obtain ⟨rfl, rfl, rfl⟩ := trodAll_nil r0
  obtain rfl : args = #[v0] := by cases args; simp_all
  obtain ⟨rfl, rfl⟩ := trodVars_none hV
  obtain ⟨a0, len0, cap0, rfl⟩ := okWide_slice Tryd.underlying59 (hval 0 59 v0 rfl rfl)
  have k0 := h0
  have lt0 : ∀ x ∈ p0, x.block < W.heap.size := by obtain ⟨m, hm⟩ := k0; exact DataW.trod_lt m _ _ _ hm
  obtain ⟨z0, rfl, w0, c0⟩ : ∃ zs : List PTermPlays.S68, len0 = zs.length ∧ Kd.C PTermPlays.k68 W a0 zs.length zs ∧ zs.length ≤ cap0 := by
    obtain ⟨fuel, hf⟩ := h0
    exact T.open_acts hf
  clear hA0 hval0 hsz0
  refine (T.plays_calls W (laid hL) a0 cap0 z0 w0 c0).mono fun e W' ⟨he, bel⟩ => ?_
  subst he
  exact ⟨_, rfl, _, _, _, [], _, [], hW', trodAll_mk1 (shut_bool Tryd.underlying4 _), (trodAll_cons_mk (Below.trod laidOut (by kernel_rfl) (of_decide_eq_true (by kernel_rfl)) k0 bel lt0) trodAll_mk0), rfl, bel.frame _, fun h => by cases h⟩
theorem over : Rows.termPlaysRow.holds Tryd.pinned (OpenSpec.ofChange Rows.termPlaysSpec) :=
  OpenClaim.holds_of_wide 10 Tryd.f10 rfl rfl rfl rfl rfl rfl rfl ⟨rfl, rfl, rfl, rfl, rfl⟩ rfl rfl rfl rfl rfl (by kernel_rfl) Tryd.func10 (by kernel_rfl)
    (of_decide_eq_true (by kernel_rfl)) (by unfold Func.isWrapper; first | (rw [if_pos (by decide +kernel)]; kernel_rfl) | (rw [if_neg (by decide +kernel)]; exact ⟨rfl, rfl⟩))
    (fun os started H enc _ => lifted os started H enc)
theorem proved : Rows.TermPlaysSaid := over
#print axioms proved
end Go.Proofs.YtcaojgdnhmgmlaaDoor.termPlays
namespace Go.Proofs.YtcaojgdnhmgmlaaDoor
/-- The row, under a short name, for the claim. -/
theorem termPlays_holds : Rows.TermPlaysSaid := termPlays.proved
/-- The tied card round the row. -/
theorem termPlays_card : Rows.TermPlaysCardSaid :=
  Claim7.holds_tied_plain_at .later [] [.data, .data, .data] true (true, "69d6cb7aae98e1aaa567f6b5d1713f692bfbe6eb8f0567b9a115e08d7b622a16") true
    termPlays_holds (fun _ h => by cases h) (by kernel_rfl) (fun _ h => by cases h) termPlays_row_tie rfl ⟨rfl, rfl⟩ (by kernel_rfl) rfl
    (fun f fn hf hfn => by
      obtain rfl : f = 10 := Option.some.inj ((show Tryd.prog.funcNamed "oubliette/oubliettelaw15.TermPlays" = some 10 by kernel_rfl).symm.trans hf) |>.symm
      obtain rfl : fn = Tryd.f10 := (Option.some.inj (Tryd.func10.symm.trans hfn)).symm
      exact ⟨by kernel_rfl, fun j t ht => by
        rw [Tryd.params10] at ht
        rcases j with _ | j
        · obtain rfl : t = 59 := by simpa using ht.symm
          exact (show Tryd.prog.wantsStandIn 59 = false by kernel_rfl)
        simp at ht⟩)
    (by kernel_rfl)
#print axioms termPlays_card
end Go.Proofs.YtcaojgdnhmgmlaaDoor

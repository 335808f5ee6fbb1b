/- CrcSums: the sum of any bytes, and of more behind others, and a step, are the document's; no condition. -/
import Derived.Test.YtbodefikbonjaaaQx2
import Derived.Test.YtbodefikbonjaaaCrcSome
import Derived.Test.YtbodefikbonjaaaRefSame
set_option linter.unusedVariables false
namespace Go.Proofs.Ytbodefikbonjaaa.Pure
open Go.RowKit Go.Proofs.Ytbodefikbonjaaa.Q Go.Proofs.YtbodefikbonjaaaW.PrintWords Go.Proofs.YtbodefikbonjaaaW.PrintLast

theorem refstep_some (c : Nat) (h : c < 4294967296) : oublietteref06_Step.f (c : Int) = some (stepN c : Int) := by
  unfold oublietteref06_Step.f stepN
  rw [Int.tmod_eq_emod_of_nonneg (by omega), Int.tdiv_eq_ediv_of_nonneg (by omega)]
  have h2 : (c : Int) / 2 % 4294967296 = ((c / 2 : Nat) : Int) := by omega
  by_cases h1 : c % 2 = 1
  · rw [if_pos (by omega), if_pos h1, h2, show (3988292384 : Int) = ((3988292384 : Nat) : Int) from rfl, u32_xor_nat _ _ (by omega) (by omega)]
  · rw [if_neg (by omega), if_neg h1, h2]
theorem itN_first (n c : Nat) : itN (n + 1) c = itN n (stepN c) := by
  induction n with
  | zero => rfl
  | succ n ih => show stepN (itN (n + 1) c) = stepN (itN n (stepN c)); rw [ih]
theorem run_l1 (l : List Int) (i : Int) (d : Nat) : ∀ (k j c : Nat), c < 4294967296 → j + d = 8 → oublietteref06_run.l1 (k + d + 1) (c : Int) l i (j : Int) = oublietteref06_run.l0 k (itN d c : Int) l (wrap64 (i + 1)) := by
  induction d with
  | zero =>
    intro k j c hc hj
    rw [oublietteref06_run.l1, if_neg (by omega)]
    rfl
  | succ d ih =>
    intro k j c hc hj
    rw [show k + (d + 1) + 1 = (k + d + 1) + 1 from by omega, oublietteref06_run.l1, if_pos (by omega), refstep_some c hc, Option.bind_some, wrap_small _ (by omega) (by omega),
      show ((j : Int) + 1) = ((j + 1 : Nat) : Int) from by omega, ih k (j + 1) _ (stepN_lt c hc) (by omega), itN_first]
theorem run_l0 (m : List Nat) (hm : ∀ x ∈ m, x < 256) (hlen : m.length ≤ 1000) (d : Nat) : ∀ (k i c : Nat), c < 4294967296 → i + d = m.length →
    oublietteref06_run.l0 (k + 10 * d + 1) (c : Int) (m.map fun x : Nat => (x : Int)) (i : Int) = some (Q.runN c (m.drop i) : Int) := by
  induction d with
  | zero =>
    intro k i c hc hi
    rw [oublietteref06_run.l0, if_neg (by rw [List.length_map]; omega), List.drop_of_length_le (by omega)]
    rfl
  | succ d ih =>
    intro k i c hc hi
    have hil : i < m.length := by omega
    have hx := hm _ (List.getElem_mem hil)
    rw [show k + 10 * (d + 1) + 1 = ((k + 10 * d + 1) + 8 + 1) + 1 from by omega, oublietteref06_run.l0, if_pos (by rw [List.length_map]; omega), if_pos (by omega), rd_get _ i (by rw [List.length_map]; exact hil), List.getElem_map]
    have hx2 : ((m[i] : Nat) : Int) % 4294967296 = ((m[i] : Nat) : Int) := by omega
    rw [hx2, u32_xor_nat c _ hc (by omega), show (0 : Int) = ((0 : Nat) : Int) from rfl, run_l1 _ _ 8 _ 0 _ (xor_lt32 _ _ hc (by omega)) (by omega), wrap_small _ (by omega) (by omega), show ((i : Int) + 1) = ((i + 1 : Nat) : Int) from by omega]
    have := ih k (i + 1) (byteN c m[i]) (byteN_lt c _ hc hx) (by omega)
    rw [show (itN 8 (c ^^^ m[i]) : Int) = ((byteN c m[i] : Nat) : Int) from rfl, this, ← List.getElem_cons_drop hil]
    rfl
theorem run_ev (c : Nat) (m : List Nat) (hc : c < 4294967296) (hm : ∀ x ∈ m, x < 256) (hlen : m.length ≤ 1000) : ∀ k, 10 * m.length + 1 ≤ k → oublietteref06_run.f k (c : Int) (m.map fun x : Nat => (x : Int)) = some (Q.runN c m : Int) := by
  intro k hk
  unfold oublietteref06_run.f
  have := run_l0 m hm hlen m.length (k - 10 * m.length - 1) 0 c hc (by omega)
  rw [show k - 10 * m.length - 1 + 10 * m.length + 1 = k from by omega] at this
  simpa using this

theorem refmore_ev (s : Nat) (m : List Nat) (hs : s < 4294967296) (hm : ∀ x ∈ m, x < 256) (hlen : m.length ≤ 1000) : ∀ k, 10 * m.length + 1 ≤ k → oublietteref06_More.f k (s : Int) (m.map fun x : Nat => (x : Int)) = some (moreN s m : Int) := by
  intro k hk
  unfold oublietteref06_More.f
  have h1 := xor_lt32 s 4294967295 hs (by omega)
  rw [show (4294967295 : Int) = ((4294967295 : Nat) : Int) from rfl, u32_xor_nat s _ hs (by omega), run_ev _ m h1 hm hlen k hk, Option.bind_some, u32_xor_nat _ _ (runN_lt m _ h1 hm) (by omega)]
  rfl
theorem refof_ev (m : List Nat) (hm : ∀ x ∈ m, x < 256) (hlen : m.length ≤ 1000) : ∀ k, 10 * m.length + 1 ≤ k → oublietteref06_Of.f k (m.map fun x : Nat => (x : Int)) = some (moreN 0 m : Int) := by
  intro k hk
  unfold oublietteref06_Of.f
  rw [show (4294967295 : Int) = ((4294967295 : Nat) : Int) from rfl, run_ev _ m (by omega) hm hlen k hk, Option.bind_some, u32_xor_nat _ _ (runN_lt m _ (by omega) hm) (by omega)]
  unfold moreN
  rw [Nat.zero_xor]

theorem CrcSums : oubliettelaw06_CrcSums.Pure := by
  intro l0 a1 _ _ hw0 hw1
  obtain ⟨m, rfl, hm⟩ := bytes_nat l0 hw0
  obtain ⟨c, rfl⟩ : ∃ c : Nat, a1 = (c : Int) := ⟨a1.toNat, by simp [Lit.wf, IntKind.min, IntKind.max, IntKind.signed, IntKind.bits] at hw1; omega⟩
  have hc : c < 4294967296 := by simp [Lit.wf, IntKind.min, IntKind.max, IntKind.signed, IntKind.bits] at hw1; omega
  by_cases hbig : ((m.map fun x : Nat => (x : Int)).length : Int) > 600
  · refine ⟨0, ?_⟩
    unfold oubliettelaw06_CrcSums.f
    rw [if_pos hbig, alive_some]
    rfl
  · have hlen : m.length ≤ 1000 := by rw [List.length_map] at hbig; omega
    have hsum := moreN_lt 0 m (by omega) hm
    have hu : IntKind.u64.wrap ((moreN 0 m : Nat) : Int) = ((moreN 0 m : Nat) : Int) := by rw [IntKind.wrap_u64]; omega
    obtain ⟨K1, h1⟩ := put_ev (moreN 0 m : Int) 8 (by omega) (by omega)
    have hput : (if (8 : Int) < 1 ∨ (8 : Int) < 8 then [] else putL ((moreN 0 m : Nat) : Int) (8 : Int).toNat) = putL ((moreN 0 m : Nat) : Int) 8 := by rw [if_neg (by omega)]; rfl
    rw [hput] at h1
    obtain ⟨K2, h2⟩ := same_ev (putL ((moreN 0 m : Nat) : Int) 8) (putL ((moreN 0 m : Nat) : Int) 8) (by rw [putL_len]; omega)
    refine ⟨10 * m.length + 1 + K1 + K2, ?_⟩
    unfold oubliettelaw06_CrcSums.f
    rw [if_neg hbig, of_some _ hw0, Option.bind_some, refof_ev m hm hlen _ (by omega), Option.bind_some, show (0 : Int) = ((0 : Nat) : Int) from rfl, crcMore_nat 0 m (by omega) hm, if_pos rfl]
    have hst : crc_Step.f (c : Int) = some (stepN c : Int) := by
      unfold crc_Step.f
      have := crcStep_nat c hc
      unfold crcStep at this
      rw [this]
    rw [hst, Option.bind_some, refstep_some c hc, Option.bind_some, if_pos rfl, more_some _ _ hw0, Option.bind_some, refmore_ev c m hc hm hlen _ (by omega), Option.bind_some, crcMore_nat c m hc hm, if_pos rfl]
    have hb : crc_Bytes.f (m.map fun x : Nat => (x : Int)) = some (putL ((moreN 0 m : Nat) : Int) 8) := by
      unfold crc_Bytes.f
      rw [of_some _ hw0, Option.bind_some, show (0 : Int) = ((0 : Nat) : Int) from rfl, crcMore_nat 0 m (by omega) hm, hu, num_put_some _ _ (by omega) (by omega), hput]
      rfl
    have hrb : oublietteref06_Bytes.f (10 * m.length + 1 + K1 + K2) (m.map fun x : Nat => (x : Int)) = some (putL ((moreN 0 m : Nat) : Int) 8) := by
      unfold oublietteref06_Bytes.f
      rw [refof_ev m hm hlen _ (by omega), Option.bind_some, hu, h1 _ (by omega)]
      rfl
    rw [hb, Option.bind_some, hrb, Option.bind_some, h2 _ (by omega), Option.bind_some, decide_eq_true rfl, if_pos rfl, alive_some]
    rfl
end Go.Proofs.Ytbodefikbonjaaa.Pure
